/- Several texts in one: XPosI, XPosJ, XPosK, XPosL, XPosM, XPosN, XPosO. -/
import Derived.Test.YtkbidlijinclcaaDoorPosA1
/- Contract: an amount is split in proportion to weights. -/
namespace Go.Proofs.YtkbidlijinclcaaDoor
open Go.RowKit Go.Sy
attribute [local irreducible] vcall vloop vcallD retP
set_option maxRecDepth 100000
set_option linter.unusedVariables false
set_option linter.unusedSimpArgs false

theorem stable_Cmp (n : Nat) (l rs : List Int) (hn : n ≤ 16) (hl : inR n l) : FC Tryd.prog 4 89 [.sl 1 0 0 n, .int .i64 n, .fn 79 [.ptr 3 0 0 0]] (isH n l rs) (isOut (.tup []) [(1, some (.one false (.cols n [.sc (.ints .i64 (insO rs l (n - 1)))])))] 4) := by
  have c := ins_Sort n l rs (by omega) hl
  refine fc_of mixed T_ok Tryd.func89 rfl (by kernel_rfl) (by kernel_rfl) (by kernel_rfl) ?_
  repeat' ((conv => whnf); first | (refine br_dec (fun h => ?_) (fun h => ?_) <;> try (exfalso; (try dsimp only at h); omega)) | (refine br_ndec (fun h => ?_) (fun h => ?_) <;> try (exfalso; (try dsimp only at h); omega)) | refine br_seq (fun h => ?_) (fun h => ?_) | refine br_nseq (fun h => ?_) (fun h => ?_) | refine br_not (fun h => ?_) (fun h => ?_) | refine br_intro (fun h => ?_) (fun h => ?_) | refine cond_intro rfl ?_ | (refine cond_intro ⟨rfl, ?_⟩ ?_; (first | omega | (dsimp only; omega) | decide)) | (refine cond_intro ?_ ?_; (first | omega | (dsimp only; omega) | decide | (simp only [Nat.add_zero, Int.toNat_natCast, *]; omega))))
  all_goals (conv => whnf)
  refine vloop_lp (fun k : Unit => ⟨[(0, .sl 1 0 0 n), (1, .int .i64 n), (2, .fn 79 [.ptr 3 0 0 0]), (6, .int .i64 20), (7, .int .i64 0), (8, .int .i64 20)], isH n l rs, 4⟩) (fun k => True) (fun k => 0) () [0, 1, 2, 3] [] ⟨rfl, ⟨rfl, rfl, rfl, rfl, rfl, rfl, trivial⟩, ⟨rfl, rfl, rfl, trivial⟩⟩ trivial ?_
  rintro ⟨⟩ _
  repeat' ((conv => whnf); first | (refine vcall_out (l :=  [0, 1, 2, 3]) (c ) ⟨rfl, rfl, rfl, rfl, (by (repeat' (first | exact trivial | exact GB_wf | exact fun _ _ => rfl | constructor)); first | done | fail), (by (repeat' (first | exact trivial | exact GB_fits rfl | constructor)); first | done | fail)⟩ ?_) | (refine br_dec (fun h => ?_) (fun h => ?_) <;> try (exfalso; (try dsimp only at h); omega)) | (refine br_ndec (fun h => ?_) (fun h => ?_) <;> try (exfalso; (try dsimp only at h); omega)) | refine br_seq (fun h => ?_) (fun h => ?_) | refine br_nseq (fun h => ?_) (fun h => ?_) | refine br_not (fun h => ?_) (fun h => ?_) | refine br_intro (fun h => ?_) (fun h => ?_) | refine cond_intro rfl ?_ | (refine cond_intro ⟨rfl, ?_⟩ ?_; (first | omega | (dsimp only; omega) | decide)) | (refine cond_intro ?_ ?_; (first | omega | (dsimp only; omega) | decide | (simp only [Nat.add_zero, Int.toNat_natCast, *]; omega))))
  all_goals (conv => whnf)
  all_goals first
    | (exfalso; omega)
    | skip
  refine vloop_lp (fun k : Unit => ⟨[(0, .sl 1 0 0 n), (1, .int .i64 n), (2, .fn 79 [.ptr 3 0 0 0]), (6, .int .i64 20)], isH n (insO rs l (n - 1)) rs, 4⟩) (fun k => True) (fun k => 0) () [0, 1, 2, 3] [] ⟨rfl, ⟨rfl, rfl, rfl, rfl, trivial⟩, ⟨rfl, rfl, rfl, trivial⟩⟩ trivial ?_
  rintro ⟨⟩ _
  repeat' ((conv => whnf); first | (refine br_dec (fun h => ?_) (fun h => ?_) <;> try (exfalso; (try dsimp only at h); omega)) | (refine br_ndec (fun h => ?_) (fun h => ?_) <;> try (exfalso; (try dsimp only at h); omega)) | refine br_seq (fun h => ?_) (fun h => ?_) | refine br_nseq (fun h => ?_) (fun h => ?_) | refine br_not (fun h => ?_) (fun h => ?_) | refine br_intro (fun h => ?_) (fun h => ?_) | refine cond_intro rfl ?_ | (refine cond_intro ⟨rfl, ?_⟩ ?_; (first | omega | (dsimp only; omega) | decide)) | (refine cond_intro ?_ ?_; (first | omega | (dsimp only; omega) | decide | (simp only [Nat.add_zero, Int.toNat_natCast, *]; omega))))
  all_goals (conv => whnf)
  all_goals first
    | exact ret_out (l := [0, 1, 2, 3]) rfl rfl ⟨rfl, trivial⟩ (allRw_cons allRw_nil)
    | (exfalso; omega)
    | trace_state
theorem stable_Sort (n : Nat) (l rs : List Int) (hn : n ≤ 16) (hl : inR n l) : FC Tryd.prog 4 78 [.sl 1 0 0 n, .fn 79 [.ptr 3 0 0 0]] (isH n l rs) (isOut (.tup []) [(1, some (.one false (.cols n [.sc (.ints .i64 (insO rs l (n - 1)))])))] 4) := by
  have c := stable_Cmp n l rs hn hl
  refine fc_of mixed T_ok Tryd.func78 rfl (by kernel_rfl) (by kernel_rfl) (by kernel_rfl) ?_
  repeat' ((conv => whnf); first | (refine vcall_out (l :=  [0, 1, 2, 3]) (c ) ⟨rfl, rfl, rfl, rfl, (by (repeat' (first | exact trivial | exact GB_wf | exact fun _ _ => rfl | constructor)); first | done | fail), (by (repeat' (first | exact trivial | exact GB_fits rfl | constructor)); first | done | fail)⟩ ?_) | (refine br_dec (fun h => ?_) (fun h => ?_) <;> try (exfalso; (try dsimp only at h); omega)) | (refine br_ndec (fun h => ?_) (fun h => ?_) <;> try (exfalso; (try dsimp only at h); omega)) | refine br_seq (fun h => ?_) (fun h => ?_) | refine br_nseq (fun h => ?_) (fun h => ?_) | refine br_not (fun h => ?_) (fun h => ?_) | refine br_intro (fun h => ?_) (fun h => ?_) | refine cond_intro rfl ?_ | (refine cond_intro ⟨rfl, ?_⟩ ?_; (first | omega | (dsimp only; omega) | decide)) | (refine cond_intro ?_ ?_; (first | omega | (dsimp only; omega) | decide | (simp only [Nat.add_zero, Int.toNat_natCast, *]; omega))))
  all_goals (conv => whnf)
  all_goals exact ret_out (l := [0, 1, 2, 3]) rfl rfl ⟨rfl, trivial⟩ (allRw_cons allRw_nil)
/-- A list whose first places are filled. -/
def fillK {α : Type} (f : Nat → α) (z : α) (n : Nat) : Nat → List α
  | 0 => List.replicate n z
  | k + 1 => (fillK f z n k).set k (f k)
theorem fillK_len {α : Type} (f : Nat → α) (z : α) (n : Nat) : ∀ k, (fillK f z n k).length = n
  | 0 => by simp [fillK]
  | k + 1 => by simp only [fillK, List.length_set]; exact fillK_len f z n k
theorem fillK_get {α : Type} (f : Nat → α) (z d : α) (n : Nat) : ∀ k i, i < k → i < n → (fillK f z n k).getD i d = f i
  | 0, i, h, _ => by omega
  | k + 1, i, h, hn => by
    simp only [fillK]
    by_cases e : i = k
    · subst e; rw [List.getD, List.getElem?_set_self (by rw [fillK_len]; exact hn)]; rfl
    · rw [List.getD, List.getElem?_set_ne (fun q => e q.symm)]; exact fillK_get f z d n k i (by omega) hn
/-- The quotient and the rest of a weight's share. -/
def qN (A : Nat) (ws : List Int) (n i : Nat) : Nat := A * (ws.getD i 0).toNat / (swK ws n).toNat
def rN (A : Nat) (ws : List Int) (n i : Nat) : Nat := A * (ws.getD i 0).toNat % (swK ws n).toNat
def qsK (A : Nat) (ws : List Int) (n : Nat) : Nat → Nat
  | 0 => 0
  | k + 1 => qsK A ws n k + qN A ws n k
theorem qs_le {A : Nat} {ws : List Int} {n : Nat} (hw : ∀ k, k < n → 1 ≤ ws.getD k 0) : ∀ k, k ≤ n → (qsK A ws n k : Int) * swK ws n ≤ A * swK ws k ∧ 0 ≤ swK ws k
  | 0, _ => by simp [qsK, swK]
  | k + 1, hk => by
    have ih := qs_le (A := A) hw k (by omega)
    have h1 := hw k (by omega)
    have hS : 0 ≤ swK ws n := by
      have : ∀ m, m ≤ n → 0 ≤ swK ws m := by
        intro m
        induction m with
        | zero => intro _; simp [swK]
        | succ m ihm => intro hm; have := ihm (by omega); have := hw m (by omega); simp only [swK]; omega
      exact this n (Nat.le_refl _)
    simp only [qsK, swK]
    have hq : qN A ws n k * (swK ws n).toNat ≤ A * (ws.getD k 0).toNat := Nat.div_mul_le_self _ _
    have hq2 : (qN A ws n k : Int) * swK ws n ≤ A * ws.getD k 0 := by
      have e1 : ((swK ws n).toNat : Int) = swK ws n := Int.toNat_of_nonneg hS
      have e2 : ((ws.getD k 0).toNat : Int) = ws.getD k 0 := Int.toNat_of_nonneg (by omega)
      have := Int.ofNat_le.2 hq
      rw [Int.natCast_mul, Int.natCast_mul, e1, e2] at this
      exact this
    refine ⟨?_, by omega⟩
    rw [Int.natCast_add, Int.add_mul, Int.mul_add]
    omega
theorem sw_mono {ws : List Int} {n : Nat} (hw : ∀ k, k < n → 1 ≤ ws.getD k 0) : ∀ d k, k + d ≤ n → swK ws k + d ≤ swK ws (k + d)
  | 0, k, _ => by simp
  | d + 1, k, h => by
    have ih := sw_mono hw d k (by omega)
    have h1 := hw (k + d) (by omega)
    have : swK ws (k + (d + 1)) = swK ws (k + d) + ws.getD (k + d) 0 := rfl
    omega
theorem qs_leA {A : Nat} {ws : List Int} {n : Nat} (hw : ∀ k, k < n → 1 ≤ ws.getD k 0) {k : Nat} (hk : k ≤ n) (hn : 1 ≤ n) : qsK A ws n k ≤ A := by
  have h1 := (qs_le (A := A) hw k hk).1
  have hm := sw_mono hw (n - k) k (by omega)
  rw [show k + (n - k) = n by omega] at hm
  have h0 := (qs_le (A := A) hw k hk).2
  have hS : 1 ≤ swK ws n := by
    have := sw_mono hw n 0 (by omega)
    rw [Nat.zero_add] at this
    have e : swK ws 0 = 0 := rfl
    omega
  have h2 : (A : Int) * swK ws k ≤ A * swK ws n := Int.mul_le_mul_of_nonneg_left (by omega) (Int.natCast_nonneg A)
  have h3 : (qsK A ws n k : Int) * swK ws n ≤ A * swK ws n := Int.le_trans h1 h2
  have := Int.le_of_mul_le_mul_right h3 (by omega)
  omega
theorem q_le {A : Nat} {ws : List Int} {n : Nat} (hw : ∀ k, k < n → 1 ≤ ws.getD k 0) {k : Nat} (hk : k < n) : qN A ws n k ≤ A := by
  have h1 := qs_leA (A := A) hw (k := k + 1) (by omega) (by omega)
  simp only [qsK] at h1
  omega
theorem w_le {ws : List Int} {n : Nat} (hw : ∀ k, k < n → 1 ≤ ws.getD k 0) {k : Nat} (hk : k < n) : ws.getD k 0 ≤ swK ws n := by
  have hm := sw_mono hw (n - (k + 1)) (k + 1) (by omega)
  rw [show k + 1 + (n - (k + 1)) = n by omega] at hm
  have h0 := sw_mono hw k 0 (by omega)
  rw [Nat.zero_add] at h0
  have e : swK ws 0 = 0 := rfl
  have e2 : swK ws (k + 1) = swK ws k + ws.getD k 0 := rfl
  omega
/-- One unit more for the first places of an order. -/
def bumpK (P ord : List Int) : Nat → List Int
  | 0 => P
  | k + 1 => (bumpK P ord k).set (ord.getD k 0).toNat ((bumpK P ord k).getD (ord.getD k 0).toNat 0 + 1)
theorem bumpK_len (P ord : List Int) : ∀ k, (bumpK P ord k).length = P.length
  | 0 => rfl
  | k + 1 => by simp only [bumpK, List.length_set]; exact bumpK_len P ord k
theorem bumpK_bd {P ord : List Int} {A : Int} (hP : ∀ i, 0 ≤ P.getD i 0 ∧ P.getD i 0 ≤ A) (hA : 0 ≤ A) : ∀ k i, 0 ≤ (bumpK P ord k).getD i 0 ∧ (bumpK P ord k).getD i 0 ≤ A + k
  | 0, i => by have := hP i; simp only [bumpK]; omega
  | k + 1, i => by
    have ih := bumpK_bd hP hA (ord := ord) k
    simp only [bumpK]
    by_cases e : (ord.getD k 0).toNat < (bumpK P ord k).length
    · rw [set_getD2 _ _ _ _ e]
      split
      · have := ih (ord.getD k 0).toNat; omega
      · have := ih i; omega
    · rw [List.set_eq_of_length_le (by omega)]
      have := ih i; omega
def spQ (A : Nat) (ws : List Int) (n : Nat) : List Int := fillK (fun i => (qN A ws n i : Int)) 0 n n
def spR (A : Nat) (ws : List Int) (n : Nat) : List Int := fillK (fun i => (rN A ws n i : Int)) 0 n n
def spI (n : Nat) : List Int := fillK (fun i => (i : Int)) 0 n n
def spO (A : Nat) (ws : List Int) (n : Nat) : List Int := insO (spR A ws n) (spI n) (n - 1)
def spL (A : Nat) (ws : List Int) (n : Nat) : Nat := min (A - qsK A ws n n) n
/-- The parts. -/
def spP (A : Nat) (ws : List Int) (n : Nat) : List Int := bumpK (spQ A ws n) (spO A ws n) (spL A ws n)
def spE (A : Nat) (c : ByteArray) (ws : List Int) (n : Nat) : Int := if mchk A c ≠ 0 then mchk A c else if wMx ws n = true ∧ 0 < swK ws n then 0 else 4
abbrev spB (A : Nat) (c : ByteArray) (ws : List Int) (n : Nat) : Blk := .cols n [.sc (.ints .i64 (fillK (fun i => (spP A ws n).getD i 0) 0 n n)), .sc (.strs (fillK (fun _ => c) ⟨#[]⟩ n n))]
def spOut (A : Nat) (c : ByteArray) (ws : List Int) (n : Nat) : SV → Heap → Nat → Prop := if spE A c ws n ≠ 0 then isOut (.tup [.nsl, .int .i64 (spE A c ws n)]) [] 2 else isOut (.tup [.sl 2 0 0 n, .int .i64 0]) [(2, some (.one false (spB A c ws n)))] 3
theorem spI_in (n : Nat) : inR n (spI n) := by
  refine ⟨fillK_len _ _ _ _, fun k hk => ?_⟩
  unfold spI
  rw [fillK_get _ _ _ _ _ _ hk hk]; omega
theorem spO_in (A : Nat) (ws : List Int) (n : Nat) (hn : 1 ≤ n) : inR n (spO A ws n) := insO_in _ _ (spI_in n) _ (by omega)
theorem fillK_bd {f : Nat → Int} {n : Nat} {A : Int} (hA : 0 ≤ A) (h : ∀ i, i < n → 0 ≤ f i ∧ f i ≤ A) : ∀ k, k ≤ n → ∀ i, 0 ≤ (fillK f 0 n k).getD i 0 ∧ (fillK f 0 n k).getD i 0 ≤ A
  | 0, _, i => by
    simp only [fillK]
    rw [List.getD, List.getElem?_replicate]
    split <;> simp <;> omega
  | k + 1, hk, i => by
    simp only [fillK]
    rw [set_getD2 _ _ _ _ (by rw [fillK_len]; omega)]
    split
    · exact h k (by omega)
    · exact fillK_bd hA h k (by omega) i
end Go.Proofs.YtkbidlijinclcaaDoor

/- Contract: an amount is split in proportion to weights (the walk). -/
namespace Go.Proofs.YtkbidlijinclcaaDoor
open Go.RowKit Go.Sy
attribute [local irreducible] vcall vloop vcallD retP
set_option maxRecDepth 100000
set_option linter.unusedVariables false
set_option linter.unusedSimpArgs false

theorem bits_share (A : Nat) (ws : List Int) (n : Nat) (hA : A ≤ 4503599627370496) (hw : ∀ k, k < n → 1 ≤ ws.getD k 0) (hm : wMx ws n = true) (hn : n ≤ 64) {k : Nat} (hk : k < n) :
    ∃ W S : Nat, ws.getD k 0 = W ∧ swK ws n = S ∧ W < 18446744073709551616 ∧ S < 18446744073709551616 ∧ A * W / 18446744073709551616 < S ∧ A * W / S = qN A ws n k ∧ A * W % S = rN A ws n k ∧ W ≤ 1099511627776 := by
  have h1 := hw k hk
  have hb := swK_bd hw n (Nat.le_refl _) hm
  have hwl := w_le hw hk
  have hmk : ∀ m, k < m → wMx ws m = true → ws.getD k 0 ≤ 1099511627776 := by
    intro m hkm h
    rcases Int.lt_or_le 1099511627776 (ws.getD k 0) with q | q
    · exact absurd (wMx_stop (show ¬ ws.getD k 0 ≤ 1099511627776 by omega) m hkm) (by rw [h]; decide)
    · exact q
  have hw40 := hmk n hk hm
  obtain ⟨W, eW⟩ := Int.eq_ofNat_of_zero_le (a := ws.getD k 0) (by omega)
  obtain ⟨S, eS⟩ := Int.eq_ofNat_of_zero_le (a := swK ws n) (by omega)
  have hAW : A * W ≤ 4503599627370496 * W := Nat.mul_le_mul_right _ hA
  refine ⟨W, S, eW, eS, by omega, by omega, ?_, by unfold qN; rw [eW, eS]; rfl, by unfold rN; rw [eW, eS]; rfl, by omega⟩
  have : A * W / 18446744073709551616 < W := by
    rw [Nat.div_lt_iff_lt_mul (by decide)]
    omega
  omega
theorem money_Split (A : Nat) (c : ByteArray) (ws : List Int) (n : Nat) (hA : A ≤ 9223372036854775807) (hn : n ≤ 16) (hw : ∀ k, k < n → 1 ≤ ws.getD k 0) (hw2 : ∀ k, k < n → ws.getD k 0 ≤ 9223372036854775807) : FC Tryd.prog 2 59 [.agg [.int .i64 A, .str c], .sl 1 0 0 n] [(1, some (.one true (.cols n [.sc (.ints .i64 ws)])))] (spOut A c ws n) := by
  have c1 := money_Check A c
  have c2 := money_sum ws n (by omega) hw hw2
  have c3 := money_magnitude A (by omega) (by omega)
  have ec3 : ((A : Int).natAbs : Int) = A := by omega
  rw [ec3] at c3
  unfold spOut
  by_cases h1 : mchk A c = 0
  case neg =>
    have e : spE A c ws n = mchk A c := by unfold spE; rw [if_pos h1]
    rw [e, if_pos h1]
    refine fc_of mixed T_ok Tryd.func59 rfl (by kernel_rfl) (by kernel_rfl) (by kernel_rfl) ?_
    repeat' ((conv => whnf); first | (refine vcall_pure (c1) rfl rfl rfl ?_) | (refine br_dec (fun h => ?_) (fun h => ?_) <;> try (exfalso; (try dsimp only at h); omega)) | (refine br_ndec (fun h => ?_) (fun h => ?_) <;> try (exfalso; (try dsimp only at h); omega)) | refine br_seq (fun h => ?_) (fun h => ?_) | refine br_nseq (fun h => ?_) (fun h => ?_) | refine br_not (fun h => ?_) (fun h => ?_) | refine br_intro (fun h => ?_) (fun h => ?_) | refine cond_intro rfl ?_ | (refine cond_intro ⟨rfl, ?_⟩ ?_; (first | omega | (dsimp only; omega) | decide)) | (refine cond_intro ?_ ?_; (first | omega | (dsimp only; omega) | decide | (simp only [Nat.add_zero, Int.toNat_natCast, *]; omega))))
    all_goals (conv => whnf)
    all_goals first
      | exact ret_out (l := [0, 1]) rfl rfl trivial allRw_nil
      | (exfalso; omega)
      | trace_state
  have hA2 : A ≤ 4503599627370496 := by
    have := mchk_or A c
    rw [h1] at this
    omega
  have e0 : spE A c ws n = if wMx ws n = true ∧ 0 < swK ws n then 0 else 4 := by unfold spE; rw [if_neg (by simpa using h1)]
  rw [h1] at c1
  by_cases h2 : wMx ws n = true ∧ 0 < swK ws n
  case neg =>
    rw [if_neg h2] at e0
    rw [e0, if_pos (by decide)]
    unfold swT at c2
    by_cases h3 : wMx ws n = true
    · rw [if_pos h3, decide_eq_false (fun q => h2 ⟨h3, q⟩)] at c2
      refine fc_of mixed T_ok Tryd.func59 rfl (by kernel_rfl) (by kernel_rfl) (by kernel_rfl) ?_
      repeat' ((conv => whnf); first | (refine vcall_pure (c1) rfl rfl rfl ?_) | (refine vcall_out (l :=  [0, 1]) (c2 ) ⟨rfl, rfl, rfl, rfl, (by (repeat' (first | exact trivial | exact GB_wf | exact fun _ _ => rfl | constructor)); first | done | fail), (by (repeat' (first | exact trivial | exact GB_fits rfl | constructor)); first | done | fail)⟩ ?_) | (refine br_dec (fun h => ?_) (fun h => ?_) <;> try (exfalso; (try dsimp only at h); omega)) | (refine br_ndec (fun h => ?_) (fun h => ?_) <;> try (exfalso; (try dsimp only at h); omega)) | refine br_seq (fun h => ?_) (fun h => ?_) | refine br_nseq (fun h => ?_) (fun h => ?_) | refine br_not (fun h => ?_) (fun h => ?_) | refine br_intro (fun h => ?_) (fun h => ?_) | refine cond_intro rfl ?_ | (refine cond_intro ⟨rfl, ?_⟩ ?_; (first | omega | (dsimp only; omega) | decide)) | (refine cond_intro ?_ ?_; (first | omega | (dsimp only; omega) | decide | (simp only [Nat.add_zero, Int.toNat_natCast, *]; omega))))
      all_goals (conv => whnf)
      all_goals first
        | exact ret_out (l := [0, 1]) rfl rfl trivial allRw_nil
        | (exfalso; omega)
        | trace_state
    · rw [if_neg h3] at c2
      refine fc_of mixed T_ok Tryd.func59 rfl (by kernel_rfl) (by kernel_rfl) (by kernel_rfl) ?_
      repeat' ((conv => whnf); first | (refine vcall_pure (c1) rfl rfl rfl ?_) | (refine vcall_out (l :=  [0, 1]) (c2 ) ⟨rfl, rfl, rfl, rfl, (by (repeat' (first | exact trivial | exact GB_wf | exact fun _ _ => rfl | constructor)); first | done | fail), (by (repeat' (first | exact trivial | exact GB_fits rfl | constructor)); first | done | fail)⟩ ?_) | (refine br_dec (fun h => ?_) (fun h => ?_) <;> try (exfalso; (try dsimp only at h); omega)) | (refine br_ndec (fun h => ?_) (fun h => ?_) <;> try (exfalso; (try dsimp only at h); omega)) | refine br_seq (fun h => ?_) (fun h => ?_) | refine br_nseq (fun h => ?_) (fun h => ?_) | refine br_not (fun h => ?_) (fun h => ?_) | refine br_intro (fun h => ?_) (fun h => ?_) | refine cond_intro rfl ?_ | (refine cond_intro ⟨rfl, ?_⟩ ?_; (first | omega | (dsimp only; omega) | decide)) | (refine cond_intro ?_ ?_; (first | omega | (dsimp only; omega) | decide | (simp only [Nat.add_zero, Int.toNat_natCast, *]; omega))))
      all_goals (conv => whnf)
      all_goals first
        | exact ret_out (l := [0, 1]) rfl rfl trivial allRw_nil
        | (exfalso; omega)
        | trace_state
  rw [if_pos h2] at e0
  rw [e0, if_neg (by decide)]
  unfold swT at c2
  rw [if_pos h2.1, decide_eq_true h2.2] at c2
  have hn1 : 1 ≤ n := by
    rcases Nat.eq_zero_or_pos n with q | q
    · subst q; exact absurd h2.2 (by simp [swK])
    · exact q
  have hbW := swK_bd hw n (Nat.le_refl _) h2.1
  refine fc_of mixed T_ok Tryd.func59 rfl (by kernel_rfl) (by kernel_rfl) (by kernel_rfl) ?_
  repeat' ((conv => whnf); first | (refine vcall_pure (c1) rfl rfl rfl ?_) | (refine vcall_out (l :=  [0, 1]) (c2 ) ⟨rfl, rfl, rfl, rfl, (by (repeat' (first | exact trivial | exact GB_wf | exact fun _ _ => rfl | constructor)); first | done | fail), (by (repeat' (first | exact trivial | exact GB_fits rfl | constructor)); first | done | fail)⟩ ?_) | (refine vcall_pure (c3) rfl rfl rfl ?_) | (refine br_dec (fun h => ?_) (fun h => ?_) <;> try (exfalso; (try dsimp only at h); omega)) | (refine br_ndec (fun h => ?_) (fun h => ?_) <;> try (exfalso; (try dsimp only at h); omega)) | refine br_seq (fun h => ?_) (fun h => ?_) | refine br_nseq (fun h => ?_) (fun h => ?_) | refine br_not (fun h => ?_) (fun h => ?_) | refine br_intro (fun h => ?_) (fun h => ?_) | refine cond_intro rfl ?_ | (refine cond_intro ⟨rfl, ?_⟩ ?_; (first | omega | (dsimp only; omega) | decide)) | (refine cond_intro ?_ ?_; (first | omega | (dsimp only; omega) | decide | (simp only [Nat.add_zero, Int.toNat_natCast, *]; omega))))
  all_goals (conv => whnf)
  refine vloop_lp (fun k : Nat => ⟨[(2, .ptr 2 0 0 0), (7, .int .u64 (swK ws n)), (9, .int .u64 A), (10, .int .u64 ((A : Int) - qsK A ws n k)), (11, .sl 3 0 0 n), (12, .ptr 5 0 0 0), (13, .sl 6 0 0 n), (50, .sl 1 0 0 n), (51, .int .i64 n), (52, .int .i64 k)], [(1, some (.one true (.cols n [.sc (.ints .i64 ws)]))), (2, some (.one false (.cells [.int .i64 A, .str c]))), (3, some (.one false (.cols n [.sc (.ints .i64 (fillK (fun i => (qN A ws n i : Int)) 0 n k))]))), (4, some (.one false (.cols n [.sc (.ints .u64 (fillK (fun i => (rN A ws n i : Int)) 0 n k))]))), (5, some (.one false (.cells [.sl 4 0 0 n]))), (6, some (.one false (.cols n [.sc (.ints .i64 (fillK (fun i => (i : Int)) 0 n k))])))], 7⟩) (fun k => k ≤ n) (fun k => n - k) 0 [0, 1, 2, 3, 4, 5, 6] [] ⟨rfl, ⟨rfl, rfl, rfl, congrArg (fun z => some (SV.int .u64 z)) (by simp [qsK]), rfl, rfl, rfl, rfl, rfl, rfl, trivial⟩, ⟨rfl, rfl, rfl, rfl, rfl, rfl, trivial⟩⟩ (Nat.zero_le _) ?_
  intro k hk
  by_cases hk2 : k < n
  · obtain ⟨W, S, eW, eS, hW, hS, hlt, hq, hr, hW40⟩ := bits_share A ws n hA2 hw h2.1 (by omega) hk2
    have m1 := bits_Mul64 A W (by omega) hW
    have m2 := bits_Div64 (A * W / 18446744073709551616) (A * W % 18446744073709551616) S (Nat.mod_lt _ (by decide)) hS hlt
    have em : A * W / 18446744073709551616 * 18446744073709551616 + A * W % 18446744073709551616 = A * W := by
      have := Nat.div_add_mod (A * W) 18446744073709551616
      omega
    rw [em, hq, hr, ← eS] at m2
    have eW2 : IntKind.u64.wrap (ws.getD k 0) = (W : Int) := by rw [eW]; exact u64_in' (by omega) (by omega)
    rw [← eW2] at m1
    have hqA := q_le (A := A) hw hk2
    have e3 : IntKind.i64.wrap (qN A ws n k : Int) = qN A ws n k := w64_in (by omega) (by omega)
    have hq1 := qs_leA (A := A) hw (k := k + 1) (by omega) hn1
    have e4 : IntKind.u64.wrap ((A : Int) - qsK A ws n k - qN A ws n k) = (A : Int) - qsK A ws n (k + 1) := by
      simp only [qsK] at hq1 ⊢
      rw [u64_in' (by omega) (by omega)]; omega
    repeat' ((conv => whnf); first | (refine vcall_pure (m1) rfl rfl rfl ?_) | (refine vcallD_pure (m1) rfl rfl rfl ?_) | (refine vcall_pure (m2) rfl rfl rfl ?_) | (refine vcallD_pure (m2) rfl rfl rfl ?_) | (refine br_dec (fun h => ?_) (fun h => ?_) <;> try (exfalso; (try dsimp only at h); omega)) | (refine br_ndec (fun h => ?_) (fun h => ?_) <;> try (exfalso; (try dsimp only at h); omega)) | refine br_seq (fun h => ?_) (fun h => ?_) | refine br_nseq (fun h => ?_) (fun h => ?_) | refine br_not (fun h => ?_) (fun h => ?_) | refine br_intro (fun h => ?_) (fun h => ?_) | refine cond_intro rfl ?_ | (refine cond_intro ⟨rfl, ?_⟩ ?_; (first | omega | (dsimp only; omega) | decide)) | (refine cond_intro ?_ ?_; (first | omega | (dsimp only; omega) | decide | (simp only [Nat.add_zero, Int.toNat_natCast, *]; omega))))
    all_goals (conv => whnf)
    all_goals (try simp only [toNat0, Int.toNat_natCast, Nat.add_zero, e3, e4] at *)
    all_goals first
      | exact ⟨k + 1, [0, 1, 2, 3, 4, 5, 6], [], hk2, (show n - (k + 1) < n - k by omega), ⟨rfl, ⟨rfl, rfl, rfl, rfl, rfl, rfl, rfl, rfl, rfl, congrArg (fun z => some (SV.int .i64 z)) (i64_succ (by omega)), trivial⟩, ⟨rfl, rfl, rfl, rfl, rfl, rfl, trivial⟩⟩⟩
      | (exfalso; omega)
      | trace_state
  have ek : k = n := by omega
  subst ek
  have cs := stable_Sort k (spI k) (spR A ws k) hn (spI_in k)
  unfold isH spI spR at cs
  repeat' ((conv => whnf); first | (refine vcall_out (l :=  [0, 6, 4, 5]) (cs ) ⟨rfl, rfl, rfl, rfl, (by (repeat' (first | exact trivial | exact GB_wf | exact fun _ _ => rfl | constructor)); first | done | fail), (by (repeat' (first | exact trivial | exact GB_fits rfl | constructor)); first | done | fail)⟩ ?_) | (refine br_dec (fun h => ?_) (fun h => ?_) <;> try (exfalso; (try dsimp only at h); omega)) | (refine br_ndec (fun h => ?_) (fun h => ?_) <;> try (exfalso; (try dsimp only at h); omega)) | refine br_seq (fun h => ?_) (fun h => ?_) | refine br_nseq (fun h => ?_) (fun h => ?_) | refine br_not (fun h => ?_) (fun h => ?_) | refine br_intro (fun h => ?_) (fun h => ?_) | refine cond_intro rfl ?_ | (refine cond_intro ⟨rfl, ?_⟩ ?_; (first | omega | (dsimp only; omega) | decide)) | (refine cond_intro ?_ ?_; (first | omega | (dsimp only; omega) | decide | (simp only [Nat.add_zero, Int.toNat_natCast, *]; omega))))
  all_goals (conv => whnf)
  all_goals first
    | (exfalso; omega)
    | skip
  have hO := spO_in A ws k hn1
  have hqb : ∀ i, 0 ≤ (spQ A ws k).getD i 0 ∧ (spQ A ws k).getD i 0 ≤ (A : Int) := fun i => fillK_bd (Int.natCast_nonneg A) (fun i hi => ⟨Int.natCast_nonneg _, Int.ofNat_le.2 (q_le hw hi)⟩) k (Nat.le_refl _) i
  have hbk := bumpK_bd (ord := spO A ws k) hqb (Int.natCast_nonneg A)
  have hbl := bumpK_len (spQ A ws k) (spO A ws k)
  have hql : (spQ A ws k).length = k := fillK_len _ _ _ _
  have hqs := qs_leA (A := A) hw (k := k) (Nat.le_refl _) hn1
  have eSL : spL A ws k = min (A - qsK A ws k k) k := rfl
  refine vloop_lp (fun i : Nat => ⟨[(2, .ptr 2 0 0 0), (10, .int .u64 ((A : Int) - qsK A ws k k - i)), (11, .sl 3 0 0 k), (91, .sl 6 0 0 k), (92, .int .i64 k), (93, .int .i64 i)], [(1, some (.one true (.cols k [.sc (.ints .i64 ws)]))), (2, some (.one false (.cells [.int .i64 A, .str c]))), (3, some (.one false (.cols k [.sc (.ints .i64 (bumpK (spQ A ws k) (spO A ws k) i))]))), (6, some (.one false (.cols k [.sc (.ints .i64 (spO A ws k))])))], 7⟩) (fun i => i ≤ spL A ws k) (fun i => k - i) 0 [0, 1, 2, 3, 4, 5, 6] [] ⟨rfl, ⟨rfl, congrArg (fun z => some (SV.int .u64 z)) (by simp), rfl, rfl, rfl, rfl, trivial⟩, ⟨rfl, rfl, rfl, rfl, trivial⟩⟩ (Nat.zero_le _) ?_
  intro i hi
  have fin : ∀ (vs : VS), vs = vs → True := fun _ _ => trivial
  by_cases hi2 : i < spL A ws k
  · have h3 := hO.2 i (by omega)
    obtain ⟨o, eo⟩ := Int.eq_ofNat_of_zero_le h3.1
    have hbo := hbk i o
    have e3 : IntKind.i64.wrap ((bumpK (spQ A ws k) (spO A ws k) i).getD o 0 + 1) = (bumpK (spQ A ws k) (spO A ws k) i).getD o 0 + 1 := w64_in (by omega) (by omega)
    have e4 : IntKind.u64.wrap ((A : Int) - qsK A ws k k - i - 1) = (A : Int) - qsK A ws k k - ((i + 1 : Nat) : Int) := by rw [u64_in' (by omega) (by omega)]; omega
    have e5 : bumpK (spQ A ws k) (spO A ws k) (i + 1) = (bumpK (spQ A ws k) (spO A ws k) i).set o ((bumpK (spQ A ws k) (spO A ws k) i).getD o 0 + 1) := by simp only [bumpK]; rw [eo, Int.toNat_natCast]
    have e6 : (some (HB.one false (.cols k [.sc (.ints .i64 ((bumpK (spQ A ws k) (spO A ws k) i).set o ((bumpK (spQ A ws k) (spO A ws k) i).getD o 0 + 1)))])) : Option HB) = some (.one false (.cols k [.sc (.ints .i64 (bumpK (spQ A ws k) (spO A ws k) (i + 1)))])) := by rw [e5]
    repeat' ((conv => whnf); first | (refine br_dec (fun h => ?_) (fun h => ?_) <;> try (exfalso; (try dsimp only at h); omega)) | (refine br_ndec (fun h => ?_) (fun h => ?_) <;> try (exfalso; (try dsimp only at h); omega)) | refine br_seq (fun h => ?_) (fun h => ?_) | refine br_nseq (fun h => ?_) (fun h => ?_) | refine br_not (fun h => ?_) (fun h => ?_) | refine br_intro (fun h => ?_) (fun h => ?_) | refine cond_intro rfl ?_ | (refine cond_intro ⟨rfl, ?_⟩ ?_; (first | omega | (dsimp only; omega) | decide)) | (refine cond_intro ?_ ?_; (first | omega | (dsimp only; omega) | decide | (simp only [Nat.add_zero, Int.toNat_natCast, *]; omega))))
    all_goals (conv => whnf)
    all_goals (try simp only [toNat0, Int.toNat_natCast, Nat.add_zero, eo, e3, e4] at *)
    all_goals first
      | exact ⟨i + 1, [0, 1, 2, 3, 4, 5, 6], [], hi2, (show k - (i + 1) < k - i by omega), ⟨rfl, ⟨rfl, rfl, rfl, rfl, rfl, congrArg (fun z => some (SV.int .i64 z)) (i64_succ (by omega)), trivial⟩, ⟨rfl, rfl, e6, rfl, trivial⟩⟩⟩
      | (exfalso; omega)
      | trace_state
  · have ei : i = spL A ws k := by omega
    subst ei
    have eP : bumpK (spQ A ws k) (spO A ws k) (spL A ws k) = spP A ws k := rfl
    rw [eP]
    repeat' ((conv => whnf); first | (refine br_dec (fun h => ?_) (fun h => ?_) <;> try (exfalso; (try dsimp only at h); omega)) | (refine br_ndec (fun h => ?_) (fun h => ?_) <;> try (exfalso; (try dsimp only at h); omega)) | refine br_seq (fun h => ?_) (fun h => ?_) | refine br_nseq (fun h => ?_) (fun h => ?_) | refine br_not (fun h => ?_) (fun h => ?_) | refine br_intro (fun h => ?_) (fun h => ?_) | refine cond_intro rfl ?_ | (refine cond_intro ⟨rfl, ?_⟩ ?_; (first | omega | (dsimp only; omega) | decide)) | (refine cond_intro ?_ ?_; (first | omega | (dsimp only; omega) | decide | (simp only [Nat.add_zero, Int.toNat_natCast, *]; omega))))
    all_goals (conv => whnf)
    all_goals first
      | (exfalso; omega)
      | skip
    all_goals refine vloop_lp (fun i : Nat => ⟨[(2, .ptr 3 0 0 0), (22, .sl 2 0 0 k), (111, .sl 4 0 0 k), (112, .int .i64 k), (113, .int .i64 i)], [(2, some (.one false (.cols k [.sc (.ints .i64 (fillK (fun i => (spP A ws k).getD i 0) 0 k i)), .sc (.strs (fillK (fun _ => c) ⟨#[]⟩ k i))]))), (3, some (.one false (.cells [.int .i64 A, .str c]))), (4, some (.one false (.cols k [.sc (.ints .i64 (spP A ws k))])))], 5⟩) (fun i => i ≤ k) (fun i => k - i) 0 [0, 1, 7, 2, 3] [] ⟨rfl, ⟨rfl, rfl, rfl, rfl, rfl, trivial⟩, ⟨rfl, rfl, rfl, trivial⟩⟩ (Nat.zero_le _) ?_
    all_goals intro i hi4
    all_goals by_cases hi5 : i < k
    all_goals try (have ei5 : i = k := by omega)
    all_goals try subst ei5
    all_goals repeat' ((conv => whnf); first | (refine br_dec (fun h => ?_) (fun h => ?_) <;> try (exfalso; (try dsimp only at h); omega)) | (refine br_ndec (fun h => ?_) (fun h => ?_) <;> try (exfalso; (try dsimp only at h); omega)) | refine br_seq (fun h => ?_) (fun h => ?_) | refine br_nseq (fun h => ?_) (fun h => ?_) | refine br_not (fun h => ?_) (fun h => ?_) | refine br_intro (fun h => ?_) (fun h => ?_) | refine cond_intro rfl ?_ | (refine cond_intro ⟨rfl, ?_⟩ ?_; (first | omega | (dsimp only; omega) | decide)) | (refine cond_intro ?_ ?_; (first | omega | (dsimp only; omega) | decide | (simp only [Nat.add_zero, Int.toNat_natCast, *]; omega))))
    all_goals (conv => whnf)
    all_goals (try simp only [toNat0, Int.toNat_natCast, Nat.add_zero] at *)
    all_goals first
      | exact ⟨i + 1, [0, 1, 2, 3, 4], [], hi5, (show k - (i + 1) < k - i by omega), ⟨rfl, ⟨rfl, rfl, rfl, rfl, congrArg (fun z => some (SV.int .i64 z)) (i64_succ (by omega)), trivial⟩, ⟨rfl, rfl, rfl, trivial⟩⟩⟩
      | exact ret_out (l := [0, 1, 2]) rfl rfl ⟨rfl, trivial⟩ (allRw_cons allRw_nil)
      | (exfalso; omega)
      | trace_state
end Go.Proofs.YtkbidlijinclcaaDoor

/- Contract: an amount is divided among the positions of a sign. -/
namespace Go.Proofs.YtkbidlijinclcaaDoor
open Go.RowKit Go.Sy
attribute [local irreducible] vcall vloop vcallD retP
set_option maxRecDepth 100000
set_option linter.unusedVariables false
set_option linter.unusedSimpArgs false

/-- The magnitudes of the first positions of a sign; their places. -/
def wtK (r : List Int) (s : Int) : Nat → List Int
  | 0 => []
  | k + 1 => if 0 < r.getD k 0 * s then wtK r s k ++ [r.getD k 0 * s] else wtK r s k
def plK (r : List Int) (s : Int) : Nat → List Int
  | 0 => []
  | k + 1 => if 0 < r.getD k 0 * s then plK r s k ++ [(k : Int)] else plK r s k
theorem pl_len (r : List Int) (s : Int) : ∀ k, (plK r s k).length = (wtK r s k).length
  | 0 => rfl
  | k + 1 => by
    simp only [plK, wtK]
    split
    · rw [List.length_append, List.length_append, pl_len r s k]; rfl
    · exact pl_len r s k
theorem wt_len (r : List Int) (s : Int) : ∀ k, (wtK r s k).length ≤ k
  | 0 => Nat.le_refl _
  | k + 1 => by
    have := wt_len r s k
    simp only [wtK]
    split
    · rw [List.length_append, List.length_singleton]; omega
    · omega
theorem snoc_getD (l : List Int) (x : Int) (i : Nat) : (l ++ [x]).getD i 0 = if i = l.length then x else l.getD i 0 := by
  by_cases e : i < l.length
  · rw [if_neg (by omega), List.getD, List.getElem?_append_left e]; rfl
  · by_cases e2 : i = l.length
    · rw [if_pos e2, List.getD, List.getElem?_append_right (by omega), e2, Nat.sub_self]; rfl
    · rw [if_neg e2, List.getD, List.getElem?_append_right (by omega), List.getD, List.getElem?_eq_none (by rw [List.length_singleton]; omega), List.getElem?_eq_none (by omega)]
theorem wt_bd {r : List Int} {s B : Int} (hb : ∀ j, r.getD j 0 * s ≤ B) : ∀ k i, i < (wtK r s k).length → 1 ≤ (wtK r s k).getD i 0 ∧ (wtK r s k).getD i 0 ≤ B
  | 0, i, h => by simp [wtK] at h
  | k + 1, i, h => by
    simp only [wtK] at h ⊢
    by_cases q : 0 < r.getD k 0 * s
    · rw [if_pos q] at h ⊢
      rw [List.length_append, List.length_singleton] at h
      rw [snoc_getD]
      split
      · have := hb k; omega
      · exact wt_bd hb k i (by omega)
    · rw [if_neg q] at h ⊢
      exact wt_bd hb k i h
theorem pl_bd (r : List Int) (s : Int) : ∀ k i, i < (plK r s k).length → 0 ≤ (plK r s k).getD i 0 ∧ (plK r s k).getD i 0 < k
  | 0, i, h => by simp [plK] at h
  | k + 1, i, h => by
    simp only [plK] at h ⊢
    by_cases q : 0 < r.getD k 0 * s
    · rw [if_pos q] at h ⊢
      rw [List.length_append, List.length_singleton] at h
      rw [snoc_getD]
      split
      · omega
      · have := pl_bd r s k i (by omega); omega
    · rw [if_neg q] at h ⊢
      have := pl_bd r s k i h; omega
/-- The parts are put into their places. -/
def dvK (row pl P : List Int) (s : Int) : Nat → List Int
  | 0 => row
  | k + 1 => (dvK row pl P s k).set (pl.getD k 0).toNat (P.getD k 0 * s)
abbrev dvN (r : List Int) (s : Int) : Nat := (wtK r s 16).length
def dvE (A : Nat) (c : ByteArray) (r : List Int) (s : Int) : Int := spE A c (wtK r s 16) (dvN r s)
def dvR (row : List Int) (A : Nat) (r : List Int) (s : Int) : List Int := dvK row (plK r s 16) (spP A (wtK r s 16) (dvN r s)) s (dvN r s)
theorem dvK_len (row pl P : List Int) (s : Int) : ∀ k, (dvK row pl P s k).length = row.length
  | 0 => rfl
  | k + 1 => by simp only [dvK, List.length_set]; exact dvK_len row pl P s k
def dvO (row : List Int) (A : Nat) (c : ByteArray) (r : List Int) (s : Int) : List Int := if dvE A c r s = 0 then dvR row A r s else row
theorem spE_le {A : Nat} {c : ByteArray} {ws : List Int} {n : Nat} (h : spE A c ws n = 0) : A ≤ 4503599627370496 := by
  unfold spE at h
  have := mchk_or A c
  by_cases q : mchk A c = 0
  · rw [q] at this; omega
  · rw [if_pos q] at h; exact absurd h q
theorem sp_bd {A : Nat} {ws : List Int} {n : Nat} (hw : ∀ k, k < n → 1 ≤ ws.getD k 0) (i : Nat) : 0 ≤ (spP A ws n).getD i 0 ∧ (spP A ws n).getD i 0 ≤ (A : Int) + n := by
  have h := bumpK_bd (P := spQ A ws n) (ord := spO A ws n) (fun i => fillK_bd (Int.natCast_nonneg A) (fun i hi => ⟨Int.natCast_nonneg _, Int.ofNat_le.2 (q_le hw hi)⟩) n (Nat.le_refl _) i) (Int.natCast_nonneg A) (spL A ws n) i
  unfold spP
  have : spL A ws n ≤ n := Nat.min_le_right _ _
  omega
theorem pos_divide (row : List Int) (A : Nat) (c : ByteArray) (r : List Int) (s : Int) (hA : A ≤ 9223372036854775807) (hrow : row.length = 16) (hs : s = 1 ∨ s = -1) (hr : ∀ j, -4503599627370496 ≤ r.getD j 0 ∧ r.getD j 0 ≤ 4503599627370496) :
    FC Tryd.prog 2 39 [.ptr 1 0 0 0, .arr 16 [.ints .i64 r], .agg [.int .i64 A, .str c], .int .i64 s] [(1, some (.one false (.cols 16 [.sc (.ints .i64 row)])))] (isOut (.int .i64 (dvE A c r s)) [(1, some (.one false (.cols 16 [.sc (.ints .i64 (dvO row A c r s))])))] 2) := by
  have hrs : ∀ j, -4503599627370496 ≤ r.getD j 0 * s ∧ r.getD j 0 * s ≤ 4503599627370496 := fun j => by
    have := hr j
    rcases hs with e | e <;> subst e <;> omega
  refine fc_of mixed T_ok Tryd.func39 rfl (by kernel_rfl) (by kernel_rfl) (by kernel_rfl) ?_
  repeat' ((conv => whnf); first | (refine br_dec (fun h => ?_) (fun h => ?_) <;> try (exfalso; (try dsimp only at h); omega)) | (refine br_ndec (fun h => ?_) (fun h => ?_) <;> try (exfalso; (try dsimp only at h); omega)) | refine br_seq (fun h => ?_) (fun h => ?_) | refine br_nseq (fun h => ?_) (fun h => ?_) | refine br_not (fun h => ?_) (fun h => ?_) | refine br_intro (fun h => ?_) (fun h => ?_) | refine cond_intro rfl ?_ | (refine cond_intro ⟨rfl, ?_⟩ ?_; (first | omega | (dsimp only; omega) | decide)) | (refine cond_intro ?_ ?_; (first | omega | (dsimp only; omega) | decide | (simp only [Nat.add_zero, Int.toNat_natCast, *]; omega))))
  all_goals (conv => whnf)
  refine vloop_lp (fun x : Nat × Nat => ⟨[(0, .ptr 1 0 0 0), (3, .int .i64 s), (6, .ptr 3 0 0 0), (17, .arr 16 [.ints .i64 r]), (18, .int .i64 x.1), (9, .sl 4 0 0 x.2), (10, .sl 5 0 0 x.2)], [(1, some (.one false (.cols 16 [.sc (.ints .i64 row)]))), (3, some (.one false (.cells [.int .i64 A, .str c]))), (4, some (.one false (.cols x.2 [.sc (.ints .i64 (wtK r s x.1))]))), (5, some (.one false (.cols x.2 [.sc (.ints .i64 (plK r s x.1))])))], 6⟩) (fun x => x.1 ≤ 16 ∧ (wtK r s x.1).length = x.2) (fun x => 16 - x.1) (0, 0) [0, 1, 2, 3, 4, 5] [.slot 9 [.sc (.ints .i64 [])], .slot 10 [.sc (.ints .i64 [])]] ⟨rfl, ⟨rfl, rfl, rfl, rfl, rfl, rfl, rfl, trivial⟩, ⟨rfl, rfl, rfl, rfl, trivial⟩⟩ ⟨Nat.zero_le _, rfl⟩ ?_
  rintro ⟨k, m⟩ ⟨hk, hm⟩
  dsimp only at hk hm
  have hml := wt_len r s k
  by_cases hk2 : k < 16
  · have hx := hrs k
    have e1 : IntKind.i64.wrap (r.getD k 0 * s) = r.getD k 0 * s := w64_in (by omega) (by omega)
    by_cases q : 0 < r.getD k 0 * s
    · have e2 : wtK r s (k + 1) = wtK r s k ++ [r.getD k 0 * s] := by simp only [wtK]; rw [if_pos q]
      have e3 : plK r s (k + 1) = plK r s k ++ [(k : Int)] := by simp only [plK]; rw [if_pos q]
      have hm2 : (wtK r s (k + 1)).length = m + 1 := by rw [e2, List.length_append, hm]; rfl
      have b2 : (some (HB.one false (.cols (m + 1) [.sc (.ints .i64 (wtK r s k ++ [r.getD k 0 * s]))])) : Option HB) = some (.one false (.cols (m + 1) [.sc (.ints .i64 (wtK r s (k + 1)))])) := by rw [e2]
      have b3 : (some (HB.one false (.cols (m + 1) [.sc (.ints .i64 (plK r s k ++ [(k : Int)]))])) : Option HB) = some (.one false (.cols (m + 1) [.sc (.ints .i64 (plK r s (k + 1)))])) := by rw [e3]
      repeat' ((conv => whnf); first | (simp only [e1]) | (refine br_dec (fun h => ?_) (fun h => ?_) <;> try (exfalso; (try dsimp only at h); omega)) | (refine br_ndec (fun h => ?_) (fun h => ?_) <;> try (exfalso; (try dsimp only at h); omega)) | refine br_seq (fun h => ?_) (fun h => ?_) | refine br_nseq (fun h => ?_) (fun h => ?_) | refine br_not (fun h => ?_) (fun h => ?_) | refine br_intro (fun h => ?_) (fun h => ?_) | refine cond_intro rfl ?_ | (refine cond_intro ⟨rfl, ?_⟩ ?_; (first | omega | (dsimp only; omega) | decide)) | (refine cond_intro ?_ ?_; (first | omega | (dsimp only; omega) | decide | (simp only [Nat.add_zero, Int.toNat_natCast, *]; omega))))
      all_goals (conv => whnf)
      all_goals (try simp only [toNat0, Int.toNat_natCast, Nat.add_zero, e1] at *)
      all_goals first
        | exact ⟨(k + 1, m + 1), [0, 1, 2, 3, 7, 9], [], ⟨hk2, hm2⟩, (show 16 - (k + 1) < 16 - k by omega), ⟨rfl, ⟨rfl, rfl, rfl, rfl, congrArg (fun z => some (SV.int .i64 z)) (i64_succ (by omega)), rfl, rfl, trivial⟩, ⟨rfl, rfl, b2, b3, trivial⟩⟩⟩
        | (exfalso; omega)
        | trace_state
    · have e2 : wtK r s (k + 1) = wtK r s k := by simp only [wtK]; rw [if_neg q]
      have e3 : plK r s (k + 1) = plK r s k := by simp only [plK]; rw [if_neg q]
      have hm2 : (wtK r s (k + 1)).length = m := by rw [e2, hm]
      have b2 : (some (HB.one false (.cols m [.sc (.ints .i64 (wtK r s k))])) : Option HB) = some (.one false (.cols m [.sc (.ints .i64 (wtK r s (k + 1)))])) := by rw [e2]
      have b3 : (some (HB.one false (.cols m [.sc (.ints .i64 (plK r s k))])) : Option HB) = some (.one false (.cols m [.sc (.ints .i64 (plK r s (k + 1)))])) := by rw [e3]
      repeat' ((conv => whnf); first | (simp only [e1]) | (refine br_dec (fun h => ?_) (fun h => ?_) <;> try (exfalso; (try dsimp only at h); omega)) | (refine br_ndec (fun h => ?_) (fun h => ?_) <;> try (exfalso; (try dsimp only at h); omega)) | refine br_seq (fun h => ?_) (fun h => ?_) | refine br_nseq (fun h => ?_) (fun h => ?_) | refine br_not (fun h => ?_) (fun h => ?_) | refine br_intro (fun h => ?_) (fun h => ?_) | refine cond_intro rfl ?_ | (refine cond_intro ⟨rfl, ?_⟩ ?_; (first | omega | (dsimp only; omega) | decide)) | (refine cond_intro ?_ ?_; (first | omega | (dsimp only; omega) | decide | (simp only [Nat.add_zero, Int.toNat_natCast, *]; omega))))
      all_goals (conv => whnf)
      all_goals (try simp only [toNat0, Int.toNat_natCast, Nat.add_zero, e1] at *)
      all_goals first
        | exact ⟨(k + 1, m), [0, 1, 2, 3, 4, 5], [], ⟨hk2, hm2⟩, (show 16 - (k + 1) < 16 - k by omega), ⟨rfl, ⟨rfl, rfl, rfl, rfl, congrArg (fun z => some (SV.int .i64 z)) (i64_succ (by omega)), rfl, rfl, trivial⟩, ⟨rfl, rfl, b2, b3, trivial⟩⟩⟩
        | (exfalso; omega)
        | trace_state
  have ek : k = 16 := by omega
  subst ek
  have hW := fun i (hi : i < m) => wt_bd (fun j => (hrs j).2) 16 i (by rw [hm]; exact hi)
  have cs := money_Split A c (wtK r s 16) m hA (by omega) (fun i hi => (hW i hi).1) (fun i hi => by have := (hW i hi).2; omega)
  unfold spOut at cs
  have hpl : (plK r s 16).length = m := by rw [pl_len, hm]
  unfold dvO
  have ed : dvE A c r s = spE A c (wtK r s 16) m := by unfold dvE dvN; rw [hm]
  by_cases he : spE A c (wtK r s 16) m = 0
  case neg =>
    rw [if_pos he] at cs
    rw [ed, if_neg he]
    repeat' ((conv => whnf); first | (refine vcall_out (l :=  [0, 4]) (cs ) ⟨rfl, rfl, rfl, rfl, (by (repeat' (first | exact trivial | exact GB_wf | exact fun _ _ => rfl | constructor)); first | done | fail), (by (repeat' (first | exact trivial | exact GB_fits rfl | constructor)); first | done | fail)⟩ ?_) | (refine br_dec (fun h => ?_) (fun h => ?_) <;> try (exfalso; (try dsimp only at h); omega)) | (refine br_ndec (fun h => ?_) (fun h => ?_) <;> try (exfalso; (try dsimp only at h); omega)) | refine br_seq (fun h => ?_) (fun h => ?_) | refine br_nseq (fun h => ?_) (fun h => ?_) | refine br_not (fun h => ?_) (fun h => ?_) | refine br_intro (fun h => ?_) (fun h => ?_) | refine cond_intro rfl ?_ | (refine cond_intro ⟨rfl, ?_⟩ ?_; (first | omega | (dsimp only; omega) | decide)) | (refine cond_intro ?_ ?_; (first | omega | (dsimp only; omega) | decide | (simp only [Nat.add_zero, Int.toNat_natCast, *]; omega))))
    all_goals (conv => whnf)
    all_goals first
      | exact ret_out (l := [0, 1]) rfl rfl ⟨rfl, trivial⟩ (allRw_cons allRw_nil)
      | (exfalso; omega)
      | trace_state
  have hA2 := spE_le he
  have hP := sp_bd (A := A) (ws := wtK r s 16) (n := m) (fun i hi => (hW i hi).1)
  rw [if_neg (by simpa using he)] at cs
  rw [ed, if_pos he, he]
  have eR : dvR row A r s = dvK row (plK r s 16) (spP A (wtK r s 16) m) s m := by unfold dvR dvN; rw [hm]
  rw [eR]
  repeat' ((conv => whnf); first | (refine vcall_out (l :=  [0, 4]) (cs ) ⟨rfl, rfl, rfl, rfl, (by (repeat' (first | exact trivial | exact GB_wf | exact fun _ _ => rfl | constructor)); first | done | fail), (by (repeat' (first | exact trivial | exact GB_fits rfl | constructor)); first | done | fail)⟩ ?_) | (refine br_dec (fun h => ?_) (fun h => ?_) <;> try (exfalso; (try dsimp only at h); omega)) | (refine br_ndec (fun h => ?_) (fun h => ?_) <;> try (exfalso; (try dsimp only at h); omega)) | refine br_seq (fun h => ?_) (fun h => ?_) | refine br_nseq (fun h => ?_) (fun h => ?_) | refine br_not (fun h => ?_) (fun h => ?_) | refine br_intro (fun h => ?_) (fun h => ?_) | refine cond_intro rfl ?_ | (refine cond_intro ⟨rfl, ?_⟩ ?_; (first | omega | (dsimp only; omega) | decide)) | (refine cond_intro ?_ ?_; (first | omega | (dsimp only; omega) | decide | (simp only [Nat.add_zero, Int.toNat_natCast, *]; omega))))
  all_goals (conv => whnf)
  all_goals first
    | (exfalso; omega)
    | skip
  refine vloop_lp (fun k : Nat => ⟨[(0, .ptr 1 0 0 0), (3, .int .i64 s), (10, .sl 2 0 0 m), (46, .sl 3 0 0 m), (47, .int .i64 m), (48, .int .i64 k)], [(1, some (.one false (.cols 16 [.sc (.ints .i64 (dvK row (plK r s 16) (spP A (wtK r s 16) m) s k))]))), (2, some (.one false (.cols m [.sc (.ints .i64 (plK r s 16))]))), (3, some (.one false (spB A c (wtK r s 16) m)))], 4⟩) (fun k => k ≤ m) (fun k => m - k) 0 [0, 1, 5, 6] [] ⟨rfl, ⟨rfl, rfl, rfl, rfl, rfl, rfl, trivial⟩, ⟨rfl, rfl, rfl, trivial⟩⟩ (Nat.zero_le _) ?_
  intro k hk
  by_cases hk2 : k < m
  · have hpk := pl_bd r s 16 k (by rw [hpl]; exact hk2)
    obtain ⟨o, eo⟩ := Int.eq_ofNat_of_zero_le hpk.1
    have hPk := hP k
    have eg : (fillK (fun i => (spP A (wtK r s 16) m).getD i 0) 0 m m).getD k 0 = (spP A (wtK r s 16) m).getD k 0 := fillK_get _ _ _ _ _ _ hk2 hk2
    have e1 : IntKind.i64.wrap ((spP A (wtK r s 16) m).getD k 0 * s) = (spP A (wtK r s 16) m).getD k 0 * s := by
      have key : ∀ x : Int, 0 ≤ x → x ≤ (A : Int) + m → IntKind.i64.wrap (x * s) = x * s := fun x g1 g2 => by
        rcases hs with e | e <;> rw [e] <;> exact w64_in (by omega) (by omega)
      exact key _ hPk.1 hPk.2
    have hl := dvK_len row (plK r s 16) (spP A (wtK r s 16) m) s k
    have e2 : dvK row (plK r s 16) (spP A (wtK r s 16) m) s (k + 1) = (dvK row (plK r s 16) (spP A (wtK r s 16) m) s k).set o ((spP A (wtK r s 16) m).getD k 0 * s) := by simp only [dvK]; rw [eo, Int.toNat_natCast]
    have b2 : (some (HB.one false (.cols 16 [.sc (.ints .i64 ((dvK row (plK r s 16) (spP A (wtK r s 16) m) s k).set o ((spP A (wtK r s 16) m).getD k 0 * s)))])) : Option HB) = some (.one false (.cols 16 [.sc (.ints .i64 (dvK row (plK r s 16) (spP A (wtK r s 16) m) s (k + 1)))])) := by rw [e2]
    repeat' ((conv => whnf); first | (refine br_dec (fun h => ?_) (fun h => ?_) <;> try (exfalso; (try dsimp only at h); omega)) | (refine br_ndec (fun h => ?_) (fun h => ?_) <;> try (exfalso; (try dsimp only at h); omega)) | refine br_seq (fun h => ?_) (fun h => ?_) | refine br_nseq (fun h => ?_) (fun h => ?_) | refine br_not (fun h => ?_) (fun h => ?_) | refine br_intro (fun h => ?_) (fun h => ?_) | refine cond_intro rfl ?_ | (refine cond_intro ⟨rfl, ?_⟩ ?_; (first | omega | (dsimp only; omega) | decide)) | (refine cond_intro ?_ ?_; (first | omega | (dsimp only; omega) | decide | (simp only [Nat.add_zero, Int.toNat_natCast, *]; omega))))
    all_goals (conv => whnf)
    all_goals (try simp only [toNat0, Int.toNat_natCast, Nat.add_zero, eo, eg, e1] at *)
    all_goals first
      | exact ⟨k + 1, [0, 1, 2, 3], [], hk2, (show m - (k + 1) < m - k by omega), ⟨rfl, ⟨rfl, rfl, rfl, rfl, rfl, congrArg (fun z => some (SV.int .i64 z)) (i64_succ (by omega)), trivial⟩, ⟨b2, rfl, rfl, trivial⟩⟩⟩
      | (exfalso; omega)
      | trace_state
  · have e : k = m := by omega
    subst e
    repeat' ((conv => whnf); first | (refine br_dec (fun h => ?_) (fun h => ?_) <;> try (exfalso; (try dsimp only at h); omega)) | (refine br_ndec (fun h => ?_) (fun h => ?_) <;> try (exfalso; (try dsimp only at h); omega)) | refine br_seq (fun h => ?_) (fun h => ?_) | refine br_nseq (fun h => ?_) (fun h => ?_) | refine br_not (fun h => ?_) (fun h => ?_) | refine br_intro (fun h => ?_) (fun h => ?_) | refine cond_intro rfl ?_ | (refine cond_intro ⟨rfl, ?_⟩ ?_; (first | omega | (dsimp only; omega) | decide)) | (refine cond_intro ?_ ?_; (first | omega | (dsimp only; omega) | decide | (simp only [Nat.add_zero, Int.toNat_natCast, *]; omega))))
    all_goals (conv => whnf)
    all_goals first
      | exact ret_out (l := [0, 1]) rfl rfl ⟨rfl, trivial⟩ (allRw_cons allRw_nil)
      | (exfalso; omega)
      | trace_state
end Go.Proofs.YtkbidlijinclcaaDoor

/- Contract: the positions of a currency in another one. -/
namespace Go.Proofs.YtkbidlijinclcaaDoor
open Go.RowKit Go.Sy
attribute [local irreducible] vcall vloop vcallD retP
set_option maxRecDepth 100000
set_option linter.unusedVariables false
set_option linter.unusedSimpArgs false

/-- The error and the rate of Find. -/
def fiE (q : RL) (f t p : ByteArray) : Int :=
  if f = t then 11 else
  match dirO q f t with
  | some _ => 0
  | none => match dirO q f p, dirO q p t with
    | some a, some b => crE a.f a.t a.n a.d b.f b.t b.n b.d
    | _, _ => 6
def fiR (q : RL) (f t p : ByteArray) : Rt :=
  match dirO q f t with
  | some r => r
  | none => match dirO q f p, dirO q p t with
    | some a, some b => ⟨a.f, b.t, pA a.n a.d b.n b.d * pC a.n a.d b.n b.d, pB a.n a.d b.n b.d * pD a.n a.d b.n b.d⟩
    | _, _ => Rt.z
theorem findT_ok {q : RL} {f t p : ByteArray} (h : fiE q f t p = 0) : findT q f t p = .tup [(fiR q f t p).sv, .int .i64 0] := by
  unfold fiE at h
  unfold findT fiR
  by_cases e : f = t
  · rw [if_pos e] at h; cases h
  · rw [if_neg e] at h ⊢
    cases h1 : dirO q f t with
    | some r => rfl
    | none =>
      rw [h1] at h
      cases h2 : dirO q f p with
      | none => rw [h2] at h; cases h
      | some a =>
        cases h3 : dirO q p t with
        | none => rw [h2, h3] at h; cases h
        | some b =>
          rw [h2, h3] at h
          dsimp only at h ⊢
          rw [h, rT_ok]; rfl
theorem findT_err {q : RL} {f t p : ByteArray} (h : fiE q f t p ≠ 0) : findT q f t p = .tup [Rt.z.sv, .int .i64 (fiE q f t p)] := by
  unfold fiE at h ⊢
  unfold findT
  by_cases e : f = t
  · rw [if_pos e, if_pos e]
  · rw [if_neg e] at h ⊢
    rw [if_neg e]
    cases h1 : dirO q f t with
    | some r => rw [h1] at h; exact absurd rfl h
    | none =>
      rw [h1] at h
      cases h2 : dirO q f p with
      | none => rfl
      | some a =>
        cases h3 : dirO q p t with
        | none => rfl
        | some b =>
          rw [h2, h3] at h
          dsimp only at h ⊢
          rw [rT_err h]; rfl
theorem fiR_ok {q : RL} {f t p : ByteArray} (h : fiE q f t p = 0) : 0 ≤ (fiR q f t p).n ∧ (fiR q f t p).n ≤ 1099511627776 ∧ (fiR q f t p).f = f ∧ (fiR q f t p).t = t := by
  unfold fiE at h
  unfold fiR
  by_cases e : f = t
  · rw [if_pos e] at h; cases h
  · rw [if_neg e] at h
    cases h1 : dirO q f t with
    | some r =>
      have := dirO_ok h1
      have h2 := this.2.2
      unfold rchk at h2
      refine ⟨?_, ?_, this.1, this.2.1⟩ <;> (dsimp only; split at h2 <;> first | omega | (split at h2 <;> omega))
    | none =>
      rw [h1] at h
      cases h2 : dirO q f p with
      | none => rw [h2] at h; cases h
      | some a =>
        cases h3 : dirO q p t with
        | none => rw [h2, h3] at h; cases h
        | some b =>
          rw [h2, h3] at h
          dsimp only at h ⊢
          have ha := dirO_ok h2
          have hb := dirO_ok h3
          have ka := ha.2.2
          have kb := hb.2.2
          unfold crE at h
          rw [if_neg (by rw [ka]; simp), if_neg (by rw [kb]; simp)] at h
          split at h
          · cases h
          · have hp : 1 ≤ a.n ∧ 1 ≤ a.d := by
              unfold rchk at ka
              split at ka
              · cases ka
              · split at ka
                · cases ka
                · omega
            have hq : 1 ≤ b.n ∧ 1 ≤ b.d := by
              unfold rchk at kb
              split at kb
              · cases kb
              · split at kb
                · cases kb
                · omega
            have := prE_ok hp.1 hp.2 hq.1 hq.2 h
            exact ⟨this.2.1, this.1, ha.1, hb.2.1⟩
/-- The sum of the first positions of creditors. -/
def totK (r : List Int) : Nat → Int
  | 0 => 0
  | k + 1 => if 0 < r.getD k 0 then totK r k + r.getD k 0 else totK r k
theorem tot_bd {r : List Int} (hr : ∀ j, r.getD j 0 ≤ 4503599627370496) : ∀ k, 0 ≤ totK r k ∧ totK r k ≤ 4503599627370496 * (k : Int)
  | 0 => by simp [totK]
  | k + 1 => by
    have ih := tot_bd hr k
    have := hr k
    simp only [totK]
    split <;> omega
abbrev cwA (q : RL) (r : List Int) (f t p : ByteArray) : Nat := (sclA (totK r 16) (fiR q f t p).n (fiR q f t p).d 4).toNat
abbrev cwC (q : RL) (r : List Int) (f t p : ByteArray) : Int := cvE (totK r 16) f (fiR q f t p).f (fiR q f t p).t (fiR q f t p).n (fiR q f t p).d 4
def cwE (q : RL) (r : List Int) (f t p : ByteArray) : Int :=
  if fiE q f t p ≠ 0 then fiE q f t p
  else if cwC q r f t p ≠ 0 then cwC q r f t p
  else if dvE (cwA q r f t p) t r 1 ≠ 0 then dvE (cwA q r f t p) t r 1
  else dvE (cwA q r f t p) t r (-1)
def cwR (q : RL) (r : List Int) (f t p : ByteArray) : List Int := dvR (dvR z16 (cwA q r f t p) r 1) (cwA q r f t p) r (-1)
def cwT (q : RL) (r : List Int) (f t p : ByteArray) : SV := .tup [.arr 16 [.ints .i64 (if cwE q r f t p = 0 then cwR q r f t p else z16)], .int .i64 (cwE q r f t p)]
theorem cwT_err {q : RL} {r : List Int} {f t p : ByteArray} {e : Int} (h : cwE q r f t p = e) (he : e ≠ 0) : cwT q r f t p = .tup [.arr 16 [.ints .i64 z16], .int .i64 e] := by
  unfold cwT; rw [h, if_neg he]
theorem cwT_ok {q : RL} {r : List Int} {f t p : ByteArray} (h : cwE q r f t p = 0) : cwT q r f t p = .tup [.arr 16 [.ints .i64 (cwR q r f t p)], .int .i64 0] := by
  unfold cwT; rw [h, if_pos rfl]
theorem dvR_len (row : List Int) (A : Nat) (r : List Int) (s : Int) : (dvR row A r s).length = row.length := dvK_len _ _ _ _ _
theorem sclA_nn {a n d mode : Int} (ha : 0 ≤ a) (hn : 0 ≤ n) : 0 ≤ sclA a n d mode := by
  unfold sclA
  rw [decide_eq_false (by omega), decide_eq_false (by omega), if_pos rfl]
  exact Int.natCast_nonneg _
theorem cvE_bd {a : Int} {c f t : ByteArray} {n d mode : Int} (h : cvE a c f t n d mode = 0) : sclE a c n d mode = 0 := by
  unfold cvE at h
  split at h
  · contradiction
  · split at h
    · contradiction
    · split at h
      · cases h
      · exact h
theorem sclE_le {a : Int} {c : ByteArray} {n d mode : Int} (ha : 0 ≤ a) (hn : 0 ≤ n) (h : sclE a c n d mode = 0) : sclA a n d mode ≤ 4503599627370496 := by
  unfold sclE at h
  unfold sclA
  rw [decide_eq_false (by omega), decide_eq_false (by omega), if_pos rfl]
  split at h
  · contradiction
  · split at h
    · cases h
    · split at h
      · cases h
      · omega
def cwK (A : Nat) (r : List Int) : Nat → List Int
  | 0 => z16
  | 1 => dvR z16 A r 1
  | _ => dvR (dvR z16 A r 1) A r (-1)
theorem pos_convertRow (q : RL) (hl : q.l ≤ 1000) (r : List Int) (f t p : ByteArray) (hr : ∀ j, -4503599627370496 ≤ r.getD j 0 ∧ r.getD j 0 ≤ 4503599627370496) :
    FC Tryd.prog 2 27 [.arr 16 [.ints .i64 r], .sl 1 0 0 q.l, .str f, .str t, .str p] q.H (isOut (cwT q r f t p) [] 2) := by
  have c1 := rate_Find q hl f t p
  have htb := tot_bd (fun j => (hr j).2)
  refine fc_of mixed T_ok Tryd.func27 rfl (by kernel_rfl) (by kernel_rfl) (by kernel_rfl) ?_
  repeat' ((conv => whnf); first | (refine br_dec (fun h => ?_) (fun h => ?_) <;> try (exfalso; (try dsimp only at h); omega)) | (refine br_ndec (fun h => ?_) (fun h => ?_) <;> try (exfalso; (try dsimp only at h); omega)) | refine br_seq (fun h => ?_) (fun h => ?_) | refine br_nseq (fun h => ?_) (fun h => ?_) | refine br_not (fun h => ?_) (fun h => ?_) | refine br_intro (fun h => ?_) (fun h => ?_) | refine cond_intro rfl ?_ | (refine cond_intro ⟨rfl, ?_⟩ ?_; (first | omega | (dsimp only; omega) | decide)) | (refine cond_intro ?_ ?_; (first | omega | (dsimp only; omega) | decide | (simp only [Nat.add_zero, Int.toNat_natCast, *]; omega))))
  all_goals (conv => whnf)
  refine vloop_lp (fun k : Nat => ⟨[(1, .sl 1 0 0 q.l), (2, .str f), (3, .str t), (4, .str p), (5, .ptr 2 0 0 0), (10, .ptr 3 0 0 0), (12, .ptr 4 0 0 0), (24, .arr 16 [.ints .i64 r]), (25, .int .i64 k)], (2, some (.one false (.cols 16 [.sc (.ints .i64 r)]))) :: (3, some (.one false (.cols 16 [.sc (.ints .i64 z16)]))) :: (4, some (.one false (.cells [.int .i64 (totK r k), .str f]))) :: q.H, 5⟩) (fun k => k ≤ 16) (fun k => 16 - k) 0 [0, 1, 2, 3, 4] [] ⟨rfl, ⟨rfl, rfl, rfl, rfl, rfl, rfl, rfl, rfl, rfl, trivial⟩, ⟨rfl, rfl, rfl, gwk rfl, rfl, trivial⟩⟩ (Nat.zero_le _) ?_
  intro k hk
  have hb := htb k
  by_cases hk2 : k < 16
  · have hrk := hr k
    by_cases g : 0 < r.getD k 0
    · have e1 : IntKind.i64.wrap (totK r k + r.getD k 0) = totK r (k + 1) := by simp only [totK]; rw [if_pos g]; exact w64_in (by omega) (by omega)
      repeat' ((conv => whnf); first | (refine br_dec (fun h => ?_) (fun h => ?_) <;> try (exfalso; (try dsimp only at h); omega)) | (refine br_ndec (fun h => ?_) (fun h => ?_) <;> try (exfalso; (try dsimp only at h); omega)) | refine br_seq (fun h => ?_) (fun h => ?_) | refine br_nseq (fun h => ?_) (fun h => ?_) | refine br_not (fun h => ?_) (fun h => ?_) | refine br_intro (fun h => ?_) (fun h => ?_) | refine cond_intro rfl ?_ | (refine cond_intro ⟨rfl, ?_⟩ ?_; (first | omega | (dsimp only; omega) | decide)) | (refine cond_intro ?_ ?_; (first | omega | (dsimp only; omega) | decide | (simp only [Nat.add_zero, Int.toNat_natCast, *]; omega))))
      all_goals (conv => whnf)
      all_goals (try simp only [toNat0, Int.toNat_natCast, Nat.add_zero, e1] at *)
      all_goals first
        | exact ⟨k + 1, [0, 1, 2, 3, 4], [], hk2, (show 16 - (k + 1) < 16 - k by omega), ⟨rfl, ⟨rfl, rfl, rfl, rfl, rfl, rfl, rfl, rfl, congrArg (fun z => some (SV.int .i64 z)) (i64_succ (by omega)), trivial⟩, ⟨rfl, rfl, rfl, gwk rfl, rfl, trivial⟩⟩⟩
        | (exfalso; omega)
        | trace_state
    · have e1 : totK r (k + 1) = totK r k := by simp only [totK]; rw [if_neg g]
      have b1 : (some (HB.one false (.cells [.int .i64 (totK r k), .str f])) : Option HB) = some (.one false (.cells [.int .i64 (totK r (k + 1)), .str f])) := by rw [e1]
      repeat' ((conv => whnf); first | (refine br_dec (fun h => ?_) (fun h => ?_) <;> try (exfalso; (try dsimp only at h); omega)) | (refine br_ndec (fun h => ?_) (fun h => ?_) <;> try (exfalso; (try dsimp only at h); omega)) | refine br_seq (fun h => ?_) (fun h => ?_) | refine br_nseq (fun h => ?_) (fun h => ?_) | refine br_not (fun h => ?_) (fun h => ?_) | refine br_intro (fun h => ?_) (fun h => ?_) | refine cond_intro rfl ?_ | (refine cond_intro ⟨rfl, ?_⟩ ?_; (first | omega | (dsimp only; omega) | decide)) | (refine cond_intro ?_ ?_; (first | omega | (dsimp only; omega) | decide | (simp only [Nat.add_zero, Int.toNat_natCast, *]; omega))))
      all_goals (conv => whnf)
      all_goals (try simp only [toNat0, Int.toNat_natCast, Nat.add_zero] at *)
      all_goals first
        | exact ⟨k + 1, [0, 1, 2, 3, 4], [], hk2, (show 16 - (k + 1) < 16 - k by omega), ⟨rfl, ⟨rfl, rfl, rfl, rfl, rfl, rfl, rfl, rfl, congrArg (fun z => some (SV.int .i64 z)) (i64_succ (by omega)), trivial⟩, ⟨rfl, rfl, b1, gwk rfl, rfl, trivial⟩⟩⟩
        | (exfalso; omega)
        | trace_state
  have ek : k = 16 := by omega
  subst ek
  by_cases h1 : fiE q f t p = 0
  case neg =>
    rw [findT_err h1] at c1
    rw [cwT_err (e := fiE q f t p) (by unfold cwE; rw [if_pos h1]) h1]
    repeat' ((conv => whnf); first | (refine vcall_out (l :=  [0, 1]) (c1 ) ⟨rfl, rfl, rfl, rfl, (by (repeat' (first | exact trivial | exact GB_wf | exact fun _ _ => rfl | constructor)); first | done | fail), (by (repeat' (first | exact trivial | exact GB_fits rfl | constructor)); first | done | fail)⟩ ?_) | (refine br_dec (fun h => ?_) (fun h => ?_) <;> try (exfalso; (try dsimp only at h); omega)) | (refine br_ndec (fun h => ?_) (fun h => ?_) <;> try (exfalso; (try dsimp only at h); omega)) | refine br_seq (fun h => ?_) (fun h => ?_) | refine br_nseq (fun h => ?_) (fun h => ?_) | refine br_not (fun h => ?_) (fun h => ?_) | refine br_intro (fun h => ?_) (fun h => ?_) | refine cond_intro rfl ?_ | (refine cond_intro ⟨rfl, ?_⟩ ?_; (first | omega | (dsimp only; omega) | decide)) | (refine cond_intro ?_ ?_; (first | omega | (dsimp only; omega) | decide | (simp only [Nat.add_zero, Int.toNat_natCast, *]; omega))))
    all_goals (conv => whnf)
    all_goals first
      | exact ret_out (l := [0, 1]) rfl rfl trivial allRw_nil
      | (exfalso; omega)
      | trace_state
  have hR := fiR_ok h1
  rw [findT_ok h1] at c1
  have c2 := rate_Convert (totK r 16) f (fiR q f t p).f (fiR q f t p).t (fiR q f t p).n (fiR q f t p).d 4 (by omega) (by omega)
  have e2 : cwE q r f t p = if cwC q r f t p ≠ 0 then cwC q r f t p else if dvE (cwA q r f t p) t r 1 ≠ 0 then dvE (cwA q r f t p) t r 1 else dvE (cwA q r f t p) t r (-1) := by unfold cwE; rw [if_neg (by simpa using h1)]
  by_cases h2 : cwC q r f t p = 0
  case neg =>
    rw [cvT_err (e := cwC q r f t p) rfl h2] at c2
    rw [cwT_err (e := cwC q r f t p) (by rw [e2, if_pos h2]) h2]
    repeat' ((conv => whnf); first | (refine vcall_out (l :=  [0, 1]) (c1 ) ⟨rfl, rfl, rfl, rfl, (by (repeat' (first | exact trivial | exact GB_wf | exact fun _ _ => rfl | constructor)); first | done | fail), (by (repeat' (first | exact trivial | exact GB_fits rfl | constructor)); first | done | fail)⟩ ?_) | (refine vcall_glob (c2) rfl rfl rfl rfl ?_) | (refine br_dec (fun h => ?_) (fun h => ?_) <;> try (exfalso; (try dsimp only at h); omega)) | (refine br_ndec (fun h => ?_) (fun h => ?_) <;> try (exfalso; (try dsimp only at h); omega)) | refine br_seq (fun h => ?_) (fun h => ?_) | refine br_nseq (fun h => ?_) (fun h => ?_) | refine br_not (fun h => ?_) (fun h => ?_) | refine br_intro (fun h => ?_) (fun h => ?_) | refine cond_intro rfl ?_ | (refine cond_intro ⟨rfl, ?_⟩ ?_; (first | omega | (dsimp only; omega) | decide)) | (refine cond_intro ?_ ?_; (first | omega | (dsimp only; omega) | decide | (simp only [Nat.add_zero, Int.toNat_natCast, *]; omega))))
    all_goals (conv => whnf)
    all_goals first
      | exact ret_out (l := [0, 1]) rfl rfl trivial allRw_nil
      | (exfalso; omega)
      | trace_state
  rw [if_neg (by simpa using h2)] at e2
  have hA := sclA_nn (d := (fiR q f t p).d) (mode := 4) hb.1 hR.1
  have eA : sclA (totK r 16) (fiR q f t p).n (fiR q f t p).d 4 = ((cwA q r f t p : Nat) : Int) := (Int.toNat_of_nonneg hA).symm
  have eT : cvT (totK r 16) f (fiR q f t p).f (fiR q f t p).t (fiR q f t p).n (fiR q f t p).d 4 = .tup [.agg [.int .i64 ((cwA q r f t p : Nat) : Int), .str t], .int .i64 0] := by rw [cvT_ok h2, eA, hR.2.2.2]
  rw [eT] at c2
  have hA2 := sclE_le (d := (fiR q f t p).d) (mode := 4) hb.1 hR.1 (cvE_bd h2)
  have hA3 : cwA q r f t p ≤ 9223372036854775807 := by omega
  have eR : cwR q r f t p = dvR (dvR z16 (cwA q r f t p) r 1) (cwA q r f t p) r (-1) := rfl
  have hcR : cwE q r f t p = 0 → cwT q r f t p = .tup [.arr 16 [.ints .i64 (dvR (dvR z16 (cwA q r f t p) r 1) (cwA q r f t p) r (-1))], .int .i64 0] := fun h => cwT_ok h
  have hcE := fun (e : Int) => cwT_err (q := q) (r := r) (f := f) (t := t) (p := p) (e := e)
  generalize cwA q r f t p = A at *
  clear eA hA hA2 h2 h1 eR eT
  generalize cwT q r f t p = X at *
  generalize cwE q r f t p = E at *
  repeat' ((conv => whnf); first | (refine vcall_out (l :=  [0, 1]) (c1 ) ⟨rfl, rfl, rfl, rfl, (by (repeat' (first | exact trivial | exact GB_wf | exact fun _ _ => rfl | constructor)); first | done | fail), (by (repeat' (first | exact trivial | exact GB_fits rfl | constructor)); first | done | fail)⟩ ?_) | (refine vcall_glob (c2) rfl rfl rfl rfl ?_) | (refine br_dec (fun h => ?_) (fun h => ?_) <;> try (exfalso; (try dsimp only at h); omega)) | (refine br_ndec (fun h => ?_) (fun h => ?_) <;> try (exfalso; (try dsimp only at h); omega)) | refine br_seq (fun h => ?_) (fun h => ?_) | refine br_nseq (fun h => ?_) (fun h => ?_) | refine br_not (fun h => ?_) (fun h => ?_) | refine br_intro (fun h => ?_) (fun h => ?_) | refine cond_intro rfl ?_ | (refine cond_intro ⟨rfl, ?_⟩ ?_; (first | omega | (dsimp only; omega) | decide)) | (refine cond_intro ?_ ?_; (first | omega | (dsimp only; omega) | decide | (simp only [Nat.add_zero, Int.toNat_natCast, *]; omega))))
  all_goals (conv => whnf)
  all_goals first
    | (exfalso; omega)
    | skip
  refine vloop_lp (fun k : Nat => ⟨[(5, .ptr 2 0 0 0), (10, .ptr 3 0 0 0), (17, .ptr 4 0 0 0), (18, .ptr 5 0 0 0), (58, .arr 2 [.ints .i64 [1, -1]]), (59, .int .i64 k)], (2, some (.one false (.cols 16 [.sc (.ints .i64 r)]))) :: (3, some (.one false (.cols 16 [.sc (.ints .i64 z16)]))) :: (4, some (.one false (.cells [.int .i64 A, .str t]))) :: (5, some (.one false (.cols 16 [.sc (.ints .i64 (cwK A r k))]))) :: q.H, 6⟩) (fun k => k ≤ 2 ∧ (1 ≤ k → dvE A t r 1 = 0) ∧ (2 ≤ k → dvE A t r (-1) = 0)) (fun k => 2 - k) 0 [0, 1, 2, 3, 6, 7] [] ⟨rfl, ⟨rfl, rfl, rfl, rfl, rfl, rfl, trivial⟩, ⟨rfl, rfl, rfl, rfl, gwk rfl, rfl, trivial⟩⟩ ⟨Nat.zero_le _, fun h => absurd h (by decide), fun h => absurd h (by decide)⟩ ?_
  rintro k ⟨hk, i1, i2⟩
  match k, hk, i1, i2 with
  | 0, _, _, _ =>
    have cd := pos_divide z16 A t r 1 hA3 (by decide) (.inl rfl) hr
    unfold dvO at cd
    by_cases g : dvE A t r 1 = 0
    · rw [if_pos g, g] at cd
      repeat' ((conv => whnf); first | (refine vcall_out (l :=  [0, 5]) (cd ) ⟨rfl, rfl, rfl, rfl, (by (repeat' (first | exact trivial | exact GB_wf | exact fun _ _ => rfl | constructor)); first | done | fail), (by (repeat' (first | exact trivial | exact GB_fits rfl | constructor)); first | done | fail)⟩ ?_) | (refine br_dec (fun h => ?_) (fun h => ?_) <;> try (exfalso; (try dsimp only at h); omega)) | (refine br_ndec (fun h => ?_) (fun h => ?_) <;> try (exfalso; (try dsimp only at h); omega)) | refine br_seq (fun h => ?_) (fun h => ?_) | refine br_nseq (fun h => ?_) (fun h => ?_) | refine br_not (fun h => ?_) (fun h => ?_) | refine br_intro (fun h => ?_) (fun h => ?_) | refine cond_intro rfl ?_ | (refine cond_intro ⟨rfl, ?_⟩ ?_; (first | omega | (dsimp only; omega) | decide)) | (refine cond_intro ?_ ?_; (first | omega | (dsimp only; omega) | decide | (simp only [Nat.add_zero, Int.toNat_natCast, *]; omega))))
      all_goals (conv => whnf)
      all_goals first
        | exact ⟨1, [0, 1, 2, 3, 4, 5], [], ⟨by decide, fun _ => g, fun h => absurd h (by decide)⟩, by decide, ⟨rfl, ⟨rfl, rfl, rfl, rfl, rfl, rfl, trivial⟩, ⟨rfl, rfl, rfl, rfl, gwk rfl, rfl, trivial⟩⟩⟩
        | (exfalso; omega)
        | trace_state
    · rw [if_neg g] at cd
      rw [if_pos g] at e2
      rw [hcE _ e2 g]
      repeat' ((conv => whnf); first | (refine vcall_out (l :=  [0, 5]) (cd ) ⟨rfl, rfl, rfl, rfl, (by (repeat' (first | exact trivial | exact GB_wf | exact fun _ _ => rfl | constructor)); first | done | fail), (by (repeat' (first | exact trivial | exact GB_fits rfl | constructor)); first | done | fail)⟩ ?_) | (refine br_dec (fun h => ?_) (fun h => ?_) <;> try (exfalso; (try dsimp only at h); omega)) | (refine br_ndec (fun h => ?_) (fun h => ?_) <;> try (exfalso; (try dsimp only at h); omega)) | refine br_seq (fun h => ?_) (fun h => ?_) | refine br_nseq (fun h => ?_) (fun h => ?_) | refine br_not (fun h => ?_) (fun h => ?_) | refine br_intro (fun h => ?_) (fun h => ?_) | refine cond_intro rfl ?_ | (refine cond_intro ⟨rfl, ?_⟩ ?_; (first | omega | (dsimp only; omega) | decide)) | (refine cond_intro ?_ ?_; (first | omega | (dsimp only; omega) | decide | (simp only [Nat.add_zero, Int.toNat_natCast, *]; omega))))
      all_goals (conv => whnf)
      all_goals first
        | exact ret_out (l := [0, 1]) rfl rfl trivial allRw_nil
        | (exfalso; omega)
        | trace_state
  | 1, _, i1, _ =>
    have g1 := i1 (by decide)
    rw [if_neg (by simpa using g1)] at e2
    have cd := pos_divide (dvR z16 A r 1) A t r (-1) hA3 (by rw [dvR_len]; rfl) (.inr rfl) hr
    unfold dvO at cd
    by_cases g : dvE A t r (-1) = 0
    · rw [if_pos g, g] at cd
      repeat' ((conv => whnf); first | (refine vcall_out (l :=  [0, 5]) (cd ) ⟨rfl, rfl, rfl, rfl, (by (repeat' (first | exact trivial | exact GB_wf | exact fun _ _ => rfl | constructor)); first | done | fail), (by (repeat' (first | exact trivial | exact GB_fits rfl | constructor)); first | done | fail)⟩ ?_) | (refine br_dec (fun h => ?_) (fun h => ?_) <;> try (exfalso; (try dsimp only at h); omega)) | (refine br_ndec (fun h => ?_) (fun h => ?_) <;> try (exfalso; (try dsimp only at h); omega)) | refine br_seq (fun h => ?_) (fun h => ?_) | refine br_nseq (fun h => ?_) (fun h => ?_) | refine br_not (fun h => ?_) (fun h => ?_) | refine br_intro (fun h => ?_) (fun h => ?_) | refine cond_intro rfl ?_ | (refine cond_intro ⟨rfl, ?_⟩ ?_; (first | omega | (dsimp only; omega) | decide)) | (refine cond_intro ?_ ?_; (first | omega | (dsimp only; omega) | decide | (simp only [Nat.add_zero, Int.toNat_natCast, *]; omega))))
      all_goals (conv => whnf)
      all_goals first
        | exact ⟨2, [0, 1, 2, 3, 4, 5], [], ⟨by decide, fun _ => g1, fun _ => g⟩, by decide, ⟨rfl, ⟨rfl, rfl, rfl, rfl, rfl, rfl, trivial⟩, ⟨rfl, rfl, rfl, rfl, gwk rfl, rfl, trivial⟩⟩⟩
        | (exfalso; omega)
        | trace_state
    · rw [if_neg g] at cd
      rw [hcE _ e2 g]
      repeat' ((conv => whnf); first | (refine vcall_out (l :=  [0, 5]) (cd ) ⟨rfl, rfl, rfl, rfl, (by (repeat' (first | exact trivial | exact GB_wf | exact fun _ _ => rfl | constructor)); first | done | fail), (by (repeat' (first | exact trivial | exact GB_fits rfl | constructor)); first | done | fail)⟩ ?_) | (refine br_dec (fun h => ?_) (fun h => ?_) <;> try (exfalso; (try dsimp only at h); omega)) | (refine br_ndec (fun h => ?_) (fun h => ?_) <;> try (exfalso; (try dsimp only at h); omega)) | refine br_seq (fun h => ?_) (fun h => ?_) | refine br_nseq (fun h => ?_) (fun h => ?_) | refine br_not (fun h => ?_) (fun h => ?_) | refine br_intro (fun h => ?_) (fun h => ?_) | refine cond_intro rfl ?_ | (refine cond_intro ⟨rfl, ?_⟩ ?_; (first | omega | (dsimp only; omega) | decide)) | (refine cond_intro ?_ ?_; (first | omega | (dsimp only; omega) | decide | (simp only [Nat.add_zero, Int.toNat_natCast, *]; omega))))
      all_goals (conv => whnf)
      all_goals first
        | exact ret_out (l := [0, 1]) rfl rfl trivial allRw_nil
        | (exfalso; omega)
        | trace_state
  | 2, _, i1, i2 =>
    rw [if_neg (by simpa using i1 (by decide)), i2 (by decide)] at e2
    rw [hcR e2]
    repeat' ((conv => whnf); first | (refine br_dec (fun h => ?_) (fun h => ?_) <;> try (exfalso; (try dsimp only at h); omega)) | (refine br_ndec (fun h => ?_) (fun h => ?_) <;> try (exfalso; (try dsimp only at h); omega)) | refine br_seq (fun h => ?_) (fun h => ?_) | refine br_nseq (fun h => ?_) (fun h => ?_) | refine br_not (fun h => ?_) (fun h => ?_) | refine br_intro (fun h => ?_) (fun h => ?_) | refine cond_intro rfl ?_ | (refine cond_intro ⟨rfl, ?_⟩ ?_; (first | omega | (dsimp only; omega) | decide)) | (refine cond_intro ?_ ?_; (first | omega | (dsimp only; omega) | decide | (simp only [Nat.add_zero, Int.toNat_natCast, *]; omega))))
    all_goals (conv => whnf)
    all_goals first
      | exact ret_out (l := [0, 1]) rfl rfl trivial allRw_nil
      | (exfalso; omega)
      | trace_state
end Go.Proofs.YtkbidlijinclcaaDoor

/- Contracts: sums of 128 bits in an array. -/
namespace Go.Proofs.YtkbidlijinclcaaDoor
open Go.RowKit Go.Sy
attribute [local irreducible] vcall vloop vcallD retP
set_option maxRecDepth 100000
set_option linter.unusedVariables false
set_option linter.unusedSimpArgs false

def exA (SS : List Int) : Blk := .cols 16 [.sc (.ints .i64 (SS.map exH)), .sc (.ints .u64 (SS.map exL))]
theorem exA_at (SS : List Int) (i : Nat) (S : Int) (h : SS.getD i 0 = S) : (SS.map exH).getD i 0 = exH S ∧ (SS.map exL).getD i 0 = exL S := by
  subst h
  rw [List.getD, List.getD, List.getD, List.getElem?_map, List.getElem?_map]
  cases SS[i]? with
  | none => exact ⟨rfl, rfl⟩
  | some x => exact ⟨rfl, rfl⟩
theorem ex_addA (SS : List Int) (i : Nat) (hi : i < 16) (S n : Int) (hSS : SS.getD i 0 = S) (hS : okS S) (h1 : -9223372036854775808 ≤ n) (h2 : n ≤ 9223372036854775807) : FC Tryd.prog 2 17 [.ptr 1 0 i 0, .int .i64 n] [(1, some (.one false (exA SS)))] (isOut (.tup []) [(1, some (.one false (exA (SS.set i (S + n)))))] 2) := by
  have hu := u64_of h1 h2
  have hs := ishr63 n h1 h2
  obtain ⟨e1, e2, e3⟩ := ex_eq S
  have hb := exH_bd hS
  obtain ⟨x, hx⟩ := Int.eq_ofNat_of_zero_le e2
  obtain ⟨y, hy⟩ : ∃ y : Nat, IntKind.u64.wrap n = (y : Int) := Int.eq_ofNat_of_zero_le (by rw [hu]; split <;> omega)
  have c1 := bits_Add64 x y
  have hy2 : (y : Int) = if n < 0 then n + 18446744073709551616 else n := by rw [← hy, hu]
  have hc : IntKind.i64.wrap (((x + y) / 18446744073709551616 : Nat) : Int) = (((x + y) / 18446744073709551616 : Nat) : Int) := w64_in (by omega) (by split at hy2 <;> omega)
  obtain ⟨q1, q2⟩ := ex_uniq (S := S + n) (h := exH S + ((if n < 0 then -1 else 0) + (((x + y) / 18446744073709551616 : Nat) : Int))) (l := (((x + y) % 18446744073709551616 : Nat) : Int)) (by split at hy2 <;> rename_i q <;> simp only [q, if_true, if_false] <;> omega) (by omega) (by omega)
  obtain ⟨hH, hL⟩ := exA_at SS i S hSS
  rw [hx] at hL
  unfold exA
  rw [List.map_set, List.map_set, q1, q2]
  generalize SS.map exH = hs' at *
  generalize SS.map exL = ls' at *
  generalize exH S = H at *
  rw [← hy, ← hL] at c1
  refine fc_of mixed T_ok Tryd.func17 rfl (by kernel_rfl) (by kernel_rfl) (by kernel_rfl) ?_
  repeat' ((conv => whnf); first | (refine vcall_pure (c1) rfl rfl rfl ?_) | (refine vcallD_pure (c1) rfl rfl rfl ?_) | (refine br_dec (fun h => ?_) (fun h => ?_) <;> try (exfalso; (try dsimp only at h); omega)) | (refine br_ndec (fun h => ?_) (fun h => ?_) <;> try (exfalso; (try dsimp only at h); omega)) | refine br_seq (fun h => ?_) (fun h => ?_) | refine br_nseq (fun h => ?_) (fun h => ?_) | refine br_not (fun h => ?_) (fun h => ?_) | refine br_intro (fun h => ?_) (fun h => ?_) | refine cond_intro rfl ?_ | (refine cond_intro ⟨rfl, ?_⟩ ?_; (first | omega | (dsimp only; omega) | decide)) | (refine cond_intro ?_ ?_; (first | omega | (dsimp only; omega) | decide | (simp only [Nat.add_zero, Int.toNat_natCast, *]; omega))))
  all_goals (conv => whnf)
  have e9 : IntKind.i64.wrap (H + IntKind.i64.wrap (ishr .i64 n 63 + IntKind.i64.wrap (((x + y) / 18446744073709551616 : Nat) : Int))) = H + ((if n < 0 then -1 else 0) + (((x + y) / 18446744073709551616 : Nat) : Int)) := by
    rw [hs, hc]
    have hy3 : y < 18446744073709551616 := by split at hy2 <;> omega
    have ht : (if n < 0 then (-1 : Int) else 0) = -1 ∨ (if n < 0 then (-1 : Int) else 0) = 0 := by split; exact .inl rfl; exact .inr rfl
    generalize (if n < 0 then (-1 : Int) else 0) = t at *
    have hx3 : x < 18446744073709551616 := by omega
    have hq : (x + y) / 18446744073709551616 ≤ 1 := by omega
    generalize (x + y) / 18446744073709551616 = c at *
    rw [w64_in (n := t + (c : Int)) (by omega) (by omega), w64_in (by omega) (by omega)]
  have hr : (some (HB.one false (.cols 16 [.sc (.ints .i64 (hs'.set i (IntKind.i64.wrap (hs'.getD i 0 + IntKind.i64.wrap (ishr .i64 n 63 + IntKind.i64.wrap (((x + y) / 18446744073709551616 : Nat) : Int)))))), .sc (.ints .u64 (ls'.set i (((x + y) % 18446744073709551616 : Nat) : Int)))])) : Option HB) = some (.one false (.cols 16 [.sc (.ints .i64 (hs'.set i (H + ((if n < 0 then -1 else 0) + (((x + y) / 18446744073709551616 : Nat) : Int))))), .sc (.ints .u64 (ls'.set i (((x + y) % 18446744073709551616 : Nat) : Int)))])) := by rw [hH, e9]
  all_goals exact ret_out (l := [0, 1]) rfl rfl ⟨hr, trivial⟩ (allRw_cons allRw_nil)
theorem ex_clampedA (SS : List Int) (i : Nat) (hi : i < 16) (S l : Int) (hSS : SS.getD i 0 = S) (hS : okS S) (h1 : 0 ≤ l) (h2 : l ≤ 4611686018427387904) : FC Tryd.prog 2 18 [.ptr 1 0 i 0, .int .i64 l] [(1, some (.one true (exA SS)))] (isOut (.int .i64 (clampI S l)) [] 2) := by
  obtain ⟨e1, e2, e3⟩ := ex_eq S
  have hb := exH_bd hS
  have hz := i64_of e2 e3
  have hsh := ishr63 (IntKind.i64.wrap (exL S)) (by rw [hz]; split <;> omega) (by rw [hz]; split <;> omega)
  have hn : IntKind.i64.wrap (0 - l) = -l := by rw [w64_in (by omega) (by omega)]; omega
  obtain ⟨hH, hL⟩ := exA_at SS i S hSS
  unfold exA
  generalize SS.map exH = hs' at *
  generalize SS.map exL = ls' at *
  generalize exH S = H at *
  generalize exL S = L at *
  refine fc_of mixed T_ok Tryd.func18 rfl (by kernel_rfl) (by kernel_rfl) (by kernel_rfl) ?_
  repeat' ((conv => whnf); first | (refine br_dec (fun h => ?_) (fun h => ?_) <;> try (exfalso; (try dsimp only at h); omega)) | (refine br_ndec (fun h => ?_) (fun h => ?_) <;> try (exfalso; (try dsimp only at h); omega)) | refine br_seq (fun h => ?_) (fun h => ?_) | refine br_nseq (fun h => ?_) (fun h => ?_) | refine br_not (fun h => ?_) (fun h => ?_) | refine br_intro (fun h => ?_) (fun h => ?_) | refine cond_intro rfl ?_ | (refine cond_intro ⟨rfl, ?_⟩ ?_; (first | omega | (dsimp only; omega) | decide)) | (refine cond_intro ?_ ?_; (first | omega | (dsimp only; omega) | decide | (simp only [Nat.add_zero, Int.toNat_natCast, *]; omega))))
  all_goals (conv => whnf)
  all_goals (try dsimp only at *)
  all_goals simp only [hn, hH, hL] at *
  all_goals first
    | (refine ret_out (l := [0, 1]) (r0 := .int .i64 (clampI S l)) rfl ?_ trivial allRw_nil
       refine congrArg (SV.int .i64) ?_
       unfold clampI
       split at hz <;> split at hsh <;> split <;> (try split) <;> omega)
    | (exfalso; split at hz <;> split at hsh <;> omega)
    | trace_state
end Go.Proofs.YtkbidlijinclcaaDoor

/- Contract: all positions in one currency. -/
namespace Go.Proofs.YtkbidlijinclcaaDoor
open Go.RowKit Go.Sy
attribute [local irreducible] vcall vloop vcallD retP
set_option maxRecDepth 100000
set_option linter.unusedVariables false
set_option linter.unusedSimpArgs false

/-- A row is added to sums. -/
def addK (SS r : List Int) : Nat → List Int
  | 0 => SS
  | i + 1 => (addK SS r i).set i (SS.getD i 0 + r.getD i 0)
theorem addK_len (SS r : List Int) : ∀ i, (addK SS r i).length = SS.length
  | 0 => rfl
  | i + 1 => by simp only [addK, List.length_set]; exact addK_len SS r i
theorem addK_get {SS r : List Int} {n : Nat} (hl : SS.length = n) : ∀ i j, i ≤ n → (addK SS r i).getD j 0 = if j < i then SS.getD j 0 + r.getD j 0 else SS.getD j 0
  | 0, j, _ => by rw [if_neg (by omega)]; rfl
  | i + 1, j, h => by
    have ih := addK_get (r := r) hl i j (by omega)
    simp only [addK]
    rw [set_getD2 _ _ _ _ (by rw [addK_len]; omega)]
    by_cases e : j = i
    · subst e; rw [if_pos rfl, if_pos (by omega)]
    · rw [if_neg e, ih]
      by_cases e2 : j < i
      · rw [if_pos e2, if_pos (by omega)]
      · rw [if_neg e2, if_neg (by omega)]
/-- The row of a currency in another one; the first error; the sums. -/
def cvR (q : RL) (b : Bk) (t p c : ByteArray) : List Int := if c = t then b.row c else cwR q (b.row c) c t p
def cvEK (q : RL) (b : Bk) (cs : List ByteArray) (t p : ByteArray) : Nat → Int
  | 0 => 0
  | k + 1 => if cvEK q b cs t p k ≠ 0 then cvEK q b cs t p k else if cs.getD k ⟨#[]⟩ = t then 0 else cwE q (b.row (cs.getD k ⟨#[]⟩)) (cs.getD k ⟨#[]⟩) t p
def cvSK (q : RL) (b : Bk) (cs : List ByteArray) (t p : ByteArray) : Nat → List Int
  | 0 => z16
  | k + 1 => addK (cvSK q b cs t p k) (cvR q b t p (cs.getD k ⟨#[]⟩)) 16
theorem cvEK_stop {q : RL} {b : Bk} {cs : List ByteArray} {t p : ByteArray} {k : Nat} {e : Int} (h0 : cvEK q b cs t p k = 0) (h1 : cs.getD k ⟨#[]⟩ ≠ t) (h2 : cwE q (b.row (cs.getD k ⟨#[]⟩)) (cs.getD k ⟨#[]⟩) t p = e) (he : e ≠ 0) : ∀ n, k < n → cvEK q b cs t p n = e
  | 0, h => by omega
  | n + 1, h => by
    simp only [cvEK]
    by_cases g : k = n
    · subst g; rw [if_neg (by omega), if_neg h1, h2]
    · rw [cvEK_stop h0 h1 h2 he n (by omega), if_pos he]
theorem cvSK_len (q : RL) (b : Bk) (cs : List ByteArray) (t p : ByteArray) : ∀ k, (cvSK q b cs t p k).length = 16
  | 0 => rfl
  | k + 1 => by simp only [cvSK]; rw [addK_len]; exact cvSK_len q b cs t p k
def fitK (SS : List Int) : Nat → Bool
  | 0 => true
  | i + 1 => fitK SS i && fitB (SS.getD i 0)
theorem fitK_stop {SS : List Int} {i : Nat} (h : fitB (SS.getD i 0) = false) : ∀ n, i < n → fitK SS n = false
  | 0, q => by omega
  | n + 1, q => by
    simp only [fitK]
    by_cases e : i = n
    · subst e; rw [h, Bool.and_false]
    · rw [fitK_stop h n (by omega), Bool.false_and]
theorem clamp_fit {S : Int} (h : fitB S = true) : clampI S 4611686018427387904 = S := by
  rw [fitB_t] at h
  unfold clampI
  rw [if_neg (by omega), if_neg (by omega)]
theorem clamp_nofit {S : Int} (h : fitB S = false) : fitB (clampI S 4611686018427387904) = false := by
  rw [fitB_f] at h ⊢
  unfold clampI
  split
  · omega
  · split <;> omega
theorem dvK_bd {row pl P : List Int} {s B : Int} (hs : s = 1 ∨ s = -1) (hr : ∀ j, -B ≤ row.getD j 0 ∧ row.getD j 0 ≤ B) (hP : ∀ j, 0 ≤ P.getD j 0 ∧ P.getD j 0 ≤ B) : ∀ k j, -B ≤ (dvK row pl P s k).getD j 0 ∧ (dvK row pl P s k).getD j 0 ≤ B
  | 0, j => hr j
  | k + 1, j => by
    have ih := dvK_bd (pl := pl) hs hr hP k
    simp only [dvK]
    by_cases e : (pl.getD k 0).toNat < (dvK row pl P s k).length
    · rw [set_getD2 _ _ _ _ e]
      split
      · have := hP k
        rcases hs with e | e <;> rw [e] <;> omega
      · exact ih j
    · rw [List.set_eq_of_length_le (by omega)]
      exact ih j
theorem dvR_bd {row r : List Int} {A : Nat} {s B : Int} (hs : s = 1 ∨ s = -1) (hr : ∀ j, -B ≤ row.getD j 0 ∧ row.getD j 0 ≤ B) (hA : (A : Int) + 16 ≤ B) (j : Nat) : -B ≤ (dvR row A r s).getD j 0 ∧ (dvR row A r s).getD j 0 ≤ B := by
  unfold dvR
  refine dvK_bd hs hr (fun j => ?_) _ j
  have hW : ∃ M, ∀ j, r.getD j 0 * s ≤ M := by
    have : ∀ l : List Int, ∃ M, 0 ≤ M ∧ ∀ j, l.getD j 0 * s ≤ M := by
      intro l
      induction l with
      | nil => exact ⟨0, Int.le_refl _, fun j => by simp⟩
      | cons x l ih =>
        obtain ⟨M, h0, h⟩ := ih
        refine ⟨max M (x * s), by omega, fun j => ?_⟩
        cases j with
        | zero => rw [List.getD_cons_zero]; omega
        | succ j => rw [List.getD_cons_succ]; have := h j; omega
    obtain ⟨M, _, h⟩ := this r
    exact ⟨M, h⟩
  obtain ⟨M, hM⟩ := hW
  have hl := wt_len r s 16
  have := sp_bd (A := A) (ws := wtK r s 16) (n := dvN r s) (fun i hi => (wt_bd hM 16 i hi).1) j
  unfold dvN at this ⊢
  omega
theorem dvE_le {A : Nat} {c : ByteArray} {r : List Int} {s : Int} (h : dvE A c r s = 0) : A ≤ 4503599627370496 := spE_le h
theorem z16_get (j : Nat) : z16.getD j 0 = 0 := by
  rw [List.getD, List.getElem?_replicate]; split <;> rfl
theorem cwR_bd {q : RL} {r : List Int} {f t p : ByteArray} (h : cwE q r f t p = 0) (j : Nat) : -9007199254740992 ≤ (cwR q r f t p).getD j 0 ∧ (cwR q r f t p).getD j 0 ≤ 9007199254740992 := by
  unfold cwE at h
  split at h
  · contradiction
  · split at h
    · contradiction
    · split at h
      · contradiction
      · have hA := dvE_le h
        unfold cwR
        exact dvR_bd (.inr rfl) (fun j => dvR_bd (.inl rfl) (fun j => by rw [z16_get]; omega) (by omega) j) (by omega) j
theorem cvSK_bd {q : RL} {b : Bk} {cs : List ByteArray} {t p : ByteArray} (hb : ∀ i j, -4503599627370496 ≤ (b.vs.getD i z16).getD j 0 ∧ (b.vs.getD i z16).getD j 0 ≤ 4503599627370496) : ∀ k, cvEK q b cs t p k = 0 → ∀ j, -9007199254740992 * (k : Int) ≤ (cvSK q b cs t p k).getD j 0 ∧ (cvSK q b cs t p k).getD j 0 ≤ 9007199254740992 * (k : Int)
  | 0, _, j => by simp only [cvSK]; rw [z16_get]; omega
  | k + 1, h, j => by
    simp only [cvEK] at h
    by_cases h0 : cvEK q b cs t p k = 0
    case neg => rw [if_pos h0] at h; exact absurd h h0
    rw [if_neg (by simpa using h0)] at h
    have ih := cvSK_bd hb k h0 j
    simp only [cvSK]
    rw [addK_get (cvSK_len q b cs t p k) _ _ (Nat.le_refl _)]
    have hR : -9007199254740992 ≤ (cvR q b t p (cs.getD k ⟨#[]⟩)).getD j 0 ∧ (cvR q b t p (cs.getD k ⟨#[]⟩)).getD j 0 ≤ 9007199254740992 := by
      unfold cvR
      by_cases g : cs.getD k ⟨#[]⟩ = t
      · rw [if_pos g]; have := hb (sidx b.cs (cs.getD k ⟨#[]⟩)) j; unfold Bk.row; omega
      · rw [if_neg g] at h ⊢; exact cwR_bd h j
    split <;> omega
abbrev Bk.cvS (b : Bk) (q : RL) (t p : ByteArray) : List Int := cvSK q b (sortS b.cs) t p b.m
abbrev Bk.cvX (b : Bk) (q : RL) (t p : ByteArray) : Int := cvEK q b (sortS b.cs) t p b.m
def Bk.cvE (b : Bk) (q : RL) (t p : ByteArray) : Int := if curB t = false then 11 else if b.cvX q t p ≠ 0 then b.cvX q t p else if fitK (b.cvS q t p) b.n = true then 0 else 4
def Bk.cvL (b : Bk) (q : RL) (t p : ByteArray) : List Px := liR (b.cvS q t p) b.ps t b.n
def cvOut (b : Bk) (q : RL) (t p : ByteArray) : SV → Heap → Nat → Prop :=
  if b.cvE q t p ≠ 0 then isOut (.tup [.nsl, .int .i64 (b.cvE q t p)]) [] 5 else isOut (.tup [.sl 5 0 0 (b.cvL q t p).length, .int .i64 0]) [(5, some (.one false (pxB (b.cvL q t p).length (pxOf (b.cvL q t p)))))] 6
abbrev cvH (b : Bk) (q : RL) : Heap := (0, some (GB glT)) :: (4, some (.one true (.cols q.l [.sc (.strs q.f), .sc (.strs q.t), .sc (.ints .i64 q.n), .sc (.ints .i64 q.d)]))) :: bkR b
theorem exA_z : exA z16 = .cols 16 [.sc (.ints .i64 z16), .sc (.ints .u64 z16)] := by unfold exA; simp [exH, exL]; rfl
set_option maxHeartbeats 3200000 in
theorem pos_Convert (b : Bk) (hb : b.Ok) (hc : b.Cok) (q : RL) (hq : q.l ≤ 1000) (t p : ByteArray) :
    FC Tryd.prog 5 15 [.ptr 1 0 0 0, .sl 4 0 0 q.l, .str t, .str p] (cvH b q) (cvOut b q t p) := by
  have hn := hb.n
  have hm := hc.m
  have c1 := pos_isCurrency t
  have c2 := pos_Currencies b hc
  unfold cvOut
  cases ht : curB t with
  | false =>
    rw [ht] at c1
    have e : b.cvE q t p = 11 := by unfold Bk.cvE; rw [if_pos ht]
    rw [e, if_pos (by decide)]
    refine fc_of mixed T_ok Tryd.func15 rfl (by kernel_rfl) (by kernel_rfl) (by kernel_rfl) ?_
    repeat' ((conv => whnf); first | (refine vcall_pure (c1) rfl rfl rfl ?_) | (refine br_dec (fun h => ?_) (fun h => ?_) <;> try (exfalso; (try dsimp only at h); omega)) | (refine br_ndec (fun h => ?_) (fun h => ?_) <;> try (exfalso; (try dsimp only at h); omega)) | refine br_seq (fun h => ?_) (fun h => ?_) | refine br_nseq (fun h => ?_) (fun h => ?_) | refine br_not (fun h => ?_) (fun h => ?_) | refine br_intro (fun h => ?_) (fun h => ?_) | refine cond_intro rfl ?_ | (refine cond_intro ⟨rfl, ?_⟩ ?_; (first | omega | (dsimp only; omega) | decide)) | (refine cond_intro ?_ ?_; (first | omega | (dsimp only; omega) | decide | (simp only [Nat.add_zero, Int.toNat_natCast, *]; omega))))
    all_goals (conv => whnf)
    all_goals first
      | exact ret_out (l := [0, 1, 2, 3, 4]) rfl rfl trivial allRw_nil
      | (exfalso; omega)
      | trace_state
  | true =>
  rw [ht] at c1
  have e0 : b.cvE q t p = if b.cvX q t p ≠ 0 then b.cvX q t p else if fitK (b.cvS q t p) b.n = true then 0 else 4 := by unfold Bk.cvE; rw [if_neg (by rw [ht]; simp)]
  have hSbd := cvSK_bd (q := q) (cs := sortS b.cs) (t := t) (p := p) hb.bd
  have hSlen := cvSK_len q b (sortS b.cs) t p
  refine fc_of mixed T_ok Tryd.func15 rfl (by kernel_rfl) (by kernel_rfl) (by kernel_rfl) ?_
  repeat' ((conv => whnf); first | (refine vcall_pure (c1) rfl rfl rfl ?_) | (refine vcall_out (l :=  [0, 1, 2, 3]) (c2 ) ⟨rfl, rfl, rfl, rfl, (by (repeat' (first | exact trivial | exact GB_wf | exact fun _ _ => rfl | constructor)); first | done | fail), (by (repeat' (first | exact trivial | exact GB_fits rfl | constructor)); first | done | fail)⟩ ?_) | (refine br_dec (fun h => ?_) (fun h => ?_) <;> try (exfalso; (try dsimp only at h); omega)) | (refine br_ndec (fun h => ?_) (fun h => ?_) <;> try (exfalso; (try dsimp only at h); omega)) | refine br_seq (fun h => ?_) (fun h => ?_) | refine br_nseq (fun h => ?_) (fun h => ?_) | refine br_not (fun h => ?_) (fun h => ?_) | refine br_intro (fun h => ?_) (fun h => ?_) | refine cond_intro rfl ?_ | (refine cond_intro ⟨rfl, ?_⟩ ?_; (first | omega | (dsimp only; omega) | decide)) | (refine cond_intro ?_ ?_; (first | omega | (dsimp only; omega) | decide | (simp only [Nat.add_zero, Int.toNat_natCast, *]; omega))))
  all_goals (conv => whnf)
  refine vloop_lp (fun k : Nat => ⟨[(0, .ptr 1 0 0 0), (1, .sl 4 0 0 q.l), (2, .str t), (3, .str p), (10, .ptr 5 0 0 0), (28, .sl 6 0 0 b.m), (29, .int .i64 b.m), (30, .int .i64 k)], (5, some (.one false (exA (cvSK q b (sortS b.cs) t p k)))) :: (6, some (.one false (.cols b.m [.sc (.strs (sortS b.cs))]))) :: cvH b q, 7⟩) (fun k => k ≤ b.m ∧ cvEK q b (sortS b.cs) t p k = 0) (fun k => b.m - k) 0 [0, 1, 2, 3, 4, 5, 6] [] ⟨rfl, ⟨rfl, rfl, rfl, rfl, rfl, rfl, rfl, rfl, trivial⟩, ⟨congrArg (fun x => some (HB.one false x)) exA_z.symm, rfl, gwk rfl, rfl, rfl, rfl, rfl, trivial⟩⟩ ⟨Nat.zero_le _, rfl⟩ ?_
  rintro k ⟨hk, hE⟩
  by_cases hk2 : k < b.m
  · have hr := hb.bd (sidx b.cs ((sortS b.cs).getD k ⟨#[]⟩))
    have hSk := hSbd k hE
    have hSl := hSlen k
    have hE2 : cvEK q b (sortS b.cs) t p (k + 1) = if (sortS b.cs).getD k ⟨#[]⟩ = t then 0 else cwE q (b.row ((sortS b.cs).getD k ⟨#[]⟩)) ((sortS b.cs).getD k ⟨#[]⟩) t p := by simp only [cvEK]; rw [if_neg (by simpa using hE)]
    have hS2 : cvSK q b (sortS b.cs) t p (k + 1) = addK (cvSK q b (sortS b.cs) t p k) (cvR q b t p ((sortS b.cs).getD k ⟨#[]⟩)) 16 := rfl
    have hstop := @cvEK_stop q b (sortS b.cs) t p k
    have cw := pos_convertRow q hq (b.row ((sortS b.cs).getD k ⟨#[]⟩)) ((sortS b.cs).getD k ⟨#[]⟩) t p hr
    by_cases g : (sortS b.cs).getD k ⟨#[]⟩ = t
    · rw [if_pos g] at hE2
      have hR : cvR q b t p ((sortS b.cs).getD k ⟨#[]⟩) = b.row ((sortS b.cs).getD k ⟨#[]⟩) := if_pos g
      have hRb : ∀ j, -9007199254740992 ≤ (b.row ((sortS b.cs).getD k ⟨#[]⟩)).getD j 0 ∧ (b.row ((sortS b.cs).getD k ⟨#[]⟩)).getD j 0 ≤ 9007199254740992 := fun j => by have := hr j; unfold Bk.row; omega
      rw [hR] at hS2
      repeat' ((conv => whnf); first | (refine br_dec (fun h => ?_) (fun h => ?_) <;> try (exfalso; (try dsimp only at h); omega)) | (refine br_ndec (fun h => ?_) (fun h => ?_) <;> try (exfalso; (try dsimp only at h); omega)) | refine br_seq (fun h => ?_) (fun h => ?_) | refine br_nseq (fun h => ?_) (fun h => ?_) | refine br_not (fun h => ?_) (fun h => ?_) | refine br_intro (fun h => ?_) (fun h => ?_) | refine cond_intro rfl ?_ | (refine cond_intro ⟨rfl, ?_⟩ ?_; (first | omega | (dsimp only; omega) | decide)) | (refine cond_intro ?_ ?_; (first | omega | (dsimp only; omega) | decide | (simp only [Nat.add_zero, Int.toNat_natCast, *]; omega))))
      all_goals (conv => whnf)
      all_goals first
        | (exfalso; omega)
        | contradiction
        | skip
      refine vloop_lp (fun i : Nat => ⟨[(0, .ptr 1 0 0 0), (1, .sl 4 0 0 q.l), (2, .str t), (3, .str p), (10, .ptr 5 0 0 0), (28, .sl 6 0 0 b.m), (29, .int .i64 b.m), (30, .int .i64 k), (56, .arr 16 [.ints .i64 (b.row ((sortS b.cs).getD k ⟨#[]⟩))]), (57, .int .i64 i)], (5, some (.one false (exA (addK (cvSK q b (sortS b.cs) t p k) (b.row ((sortS b.cs).getD k ⟨#[]⟩)) i)))) :: (6, some (.one false (.cols b.m [.sc (.strs (sortS b.cs))]))) :: cvH b q, 7⟩) (fun i => i ≤ 16) (fun i => 16 - i) 0 [0, 1, 2, 3, 4, 5, 6] [] ⟨rfl, ⟨rfl, rfl, rfl, rfl, rfl, rfl, rfl, rfl, rfl, rfl, trivial⟩, ⟨rfl, rfl, gwk rfl, rfl, rfl, rfl, rfl, trivial⟩⟩ (Nat.zero_le _) ?_
      intro i hi
      by_cases hi2 : i < 16
      · have hx : (addK (cvSK q b (sortS b.cs) t p k) (b.row ((sortS b.cs).getD k ⟨#[]⟩)) i).getD i 0 = (cvSK q b (sortS b.cs) t p k).getD i 0 := by rw [addK_get hSl i i (by omega), if_neg (by omega)]
        have hSi := hSk i
        have hRi := hRb i
        have ca := ex_addA (addK (cvSK q b (sortS b.cs) t p k) (b.row ((sortS b.cs).getD k ⟨#[]⟩)) i) i hi2 ((cvSK q b (sortS b.cs) t p k).getD i 0) ((b.row ((sortS b.cs).getD k ⟨#[]⟩)).getD i 0) hx (by unfold okS; omega) (by omega) (by omega)
        repeat' ((conv => whnf); first | (refine vcall_out (l :=  [0, 5]) (ca ) ⟨rfl, rfl, rfl, rfl, (by (repeat' (first | exact trivial | exact GB_wf | exact fun _ _ => rfl | constructor)); first | done | fail), (by (repeat' (first | exact trivial | exact GB_fits rfl | constructor)); first | done | fail)⟩ ?_) | (refine br_dec (fun h => ?_) (fun h => ?_) <;> try (exfalso; (try dsimp only at h); omega)) | (refine br_ndec (fun h => ?_) (fun h => ?_) <;> try (exfalso; (try dsimp only at h); omega)) | refine br_seq (fun h => ?_) (fun h => ?_) | refine br_nseq (fun h => ?_) (fun h => ?_) | refine br_not (fun h => ?_) (fun h => ?_) | refine br_intro (fun h => ?_) (fun h => ?_) | refine cond_intro rfl ?_ | (refine cond_intro ⟨rfl, ?_⟩ ?_; (first | omega | (dsimp only; omega) | decide)) | (refine cond_intro ?_ ?_; (first | omega | (dsimp only; omega) | decide | (simp only [Nat.add_zero, Int.toNat_natCast, *]; omega))))
        all_goals (conv => whnf)
        all_goals first
          | exact ⟨i + 1, [0, 1, 2, 3, 4, 5, 6], [], hi2, (show 16 - (i + 1) < 16 - i by omega), ⟨rfl, ⟨rfl, rfl, rfl, rfl, rfl, rfl, rfl, rfl, rfl, congrArg (fun z => some (SV.int .i64 z)) (i64_succ (by omega)), trivial⟩, ⟨rfl, rfl, gwk rfl, rfl, rfl, rfl, rfl, trivial⟩⟩⟩
          | (exfalso; omega)
          | trace_state
      · have ei : i = 16 := by omega
        subst ei
        have bS : (some (HB.one false (exA (addK (cvSK q b (sortS b.cs) t p k) (b.row ((sortS b.cs).getD k ⟨#[]⟩)) 16))) : Option HB) = some (.one false (exA (cvSK q b (sortS b.cs) t p (k + 1)))) := by rw [hS2]
        repeat' ((conv => whnf); first | (refine br_dec (fun h => ?_) (fun h => ?_) <;> try (exfalso; (try dsimp only at h); omega)) | (refine br_ndec (fun h => ?_) (fun h => ?_) <;> try (exfalso; (try dsimp only at h); omega)) | refine br_seq (fun h => ?_) (fun h => ?_) | refine br_nseq (fun h => ?_) (fun h => ?_) | refine br_not (fun h => ?_) (fun h => ?_) | refine br_intro (fun h => ?_) (fun h => ?_) | refine cond_intro rfl ?_ | (refine cond_intro ⟨rfl, ?_⟩ ?_; (first | omega | (dsimp only; omega) | decide)) | (refine cond_intro ?_ ?_; (first | omega | (dsimp only; omega) | decide | (simp only [Nat.add_zero, Int.toNat_natCast, *]; omega))))
        all_goals (conv => whnf)
        all_goals first
          | exact ⟨k + 1, [0, 1, 2, 3, 4, 5, 6], [], ⟨hk2, hE2⟩, (show b.m - (k + 1) < b.m - k by omega), ⟨rfl, ⟨rfl, rfl, rfl, rfl, rfl, rfl, rfl, congrArg (fun z => some (SV.int .i64 z)) (i64_succ (by omega)), trivial⟩, ⟨bS, rfl, gwk rfl, rfl, rfl, rfl, rfl, trivial⟩⟩⟩
          | (exfalso; omega)
          | trace_state
    · rw [if_neg g] at hE2
      by_cases g2 : cwE q (b.row ((sortS b.cs).getD k ⟨#[]⟩)) ((sortS b.cs).getD k ⟨#[]⟩) t p = 0
      case neg =>
        have e1 := hstop hE g rfl g2 b.m hk2
        rw [cwT_err rfl g2] at cw
        have e2 : b.cvE q t p = cwE q (b.row ((sortS b.cs).getD k ⟨#[]⟩)) ((sortS b.cs).getD k ⟨#[]⟩) t p := by rw [e0]; unfold Bk.cvX; rw [e1, if_pos g2]
        rw [e2, if_pos g2]
        repeat' ((conv => whnf); first | (refine vcall_out (l :=  [0, 4]) (cw ) ⟨rfl, rfl, rfl, rfl, (by (repeat' (first | exact trivial | exact GB_wf | exact fun _ _ => rfl | constructor)); first | done | fail), (by (repeat' (first | exact trivial | exact GB_fits rfl | constructor)); first | done | fail)⟩ ?_) | (refine br_dec (fun h => ?_) (fun h => ?_) <;> try (exfalso; (try dsimp only at h); omega)) | (refine br_ndec (fun h => ?_) (fun h => ?_) <;> try (exfalso; (try dsimp only at h); omega)) | refine br_seq (fun h => ?_) (fun h => ?_) | refine br_nseq (fun h => ?_) (fun h => ?_) | refine br_not (fun h => ?_) (fun h => ?_) | refine br_intro (fun h => ?_) (fun h => ?_) | refine cond_intro rfl ?_ | (refine cond_intro ⟨rfl, ?_⟩ ?_; (first | omega | (dsimp only; omega) | decide)) | (refine cond_intro ?_ ?_; (first | omega | (dsimp only; omega) | decide | (simp only [Nat.add_zero, Int.toNat_natCast, *]; omega))))
        all_goals (conv => whnf)
        all_goals first
          | exact ret_out (l := [0, 1, 2, 3, 4]) rfl rfl trivial allRw_nil
          | (exfalso; omega)
          | contradiction
          | trace_state
      rw [cwT_ok g2] at cw
      rw [g2] at hE2
      have hR : cvR q b t p ((sortS b.cs).getD k ⟨#[]⟩) = cwR q (b.row ((sortS b.cs).getD k ⟨#[]⟩)) ((sortS b.cs).getD k ⟨#[]⟩) t p := if_neg g
      have hRb := cwR_bd g2
      rw [hR] at hS2
      repeat' ((conv => whnf); first | (refine vcall_out (l :=  [0, 4]) (cw ) ⟨rfl, rfl, rfl, rfl, (by (repeat' (first | exact trivial | exact GB_wf | exact fun _ _ => rfl | constructor)); first | done | fail), (by (repeat' (first | exact trivial | exact GB_fits rfl | constructor)); first | done | fail)⟩ ?_) | (refine br_dec (fun h => ?_) (fun h => ?_) <;> try (exfalso; (try dsimp only at h); omega)) | (refine br_ndec (fun h => ?_) (fun h => ?_) <;> try (exfalso; (try dsimp only at h); omega)) | refine br_seq (fun h => ?_) (fun h => ?_) | refine br_nseq (fun h => ?_) (fun h => ?_) | refine br_not (fun h => ?_) (fun h => ?_) | refine br_intro (fun h => ?_) (fun h => ?_) | refine cond_intro rfl ?_ | (refine cond_intro ⟨rfl, ?_⟩ ?_; (first | omega | (dsimp only; omega) | decide)) | (refine cond_intro ?_ ?_; (first | omega | (dsimp only; omega) | decide | (simp only [Nat.add_zero, Int.toNat_natCast, *]; omega))))
      all_goals (conv => whnf)
      all_goals first
        | (exfalso; omega)
        | contradiction
        | skip
      refine vloop_lp (fun i : Nat => ⟨[(0, .ptr 1 0 0 0), (1, .sl 4 0 0 q.l), (2, .str t), (3, .str p), (10, .ptr 5 0 0 0), (28, .sl 6 0 0 b.m), (29, .int .i64 b.m), (30, .int .i64 k), (56, .arr 16 [.ints .i64 (cwR q (b.row ((sortS b.cs).getD k ⟨#[]⟩)) ((sortS b.cs).getD k ⟨#[]⟩) t p)]), (57, .int .i64 i)], (5, some (.one false (exA (addK (cvSK q b (sortS b.cs) t p k) (cwR q (b.row ((sortS b.cs).getD k ⟨#[]⟩)) ((sortS b.cs).getD k ⟨#[]⟩) t p) i)))) :: (6, some (.one false (.cols b.m [.sc (.strs (sortS b.cs))]))) :: cvH b q, 7⟩) (fun i => i ≤ 16) (fun i => 16 - i) 0 [0, 1, 2, 3, 4, 5, 6] [] ⟨rfl, ⟨rfl, rfl, rfl, rfl, rfl, rfl, rfl, rfl, rfl, rfl, trivial⟩, ⟨rfl, rfl, gwk rfl, rfl, rfl, rfl, rfl, trivial⟩⟩ (Nat.zero_le _) ?_
      intro i hi
      by_cases hi2 : i < 16
      · have hx : (addK (cvSK q b (sortS b.cs) t p k) (cwR q (b.row ((sortS b.cs).getD k ⟨#[]⟩)) ((sortS b.cs).getD k ⟨#[]⟩) t p) i).getD i 0 = (cvSK q b (sortS b.cs) t p k).getD i 0 := by rw [addK_get hSl i i (by omega), if_neg (by omega)]
        have hSi := hSk i
        have hRi := hRb i
        have ca := ex_addA (addK (cvSK q b (sortS b.cs) t p k) (cwR q (b.row ((sortS b.cs).getD k ⟨#[]⟩)) ((sortS b.cs).getD k ⟨#[]⟩) t p) i) i hi2 ((cvSK q b (sortS b.cs) t p k).getD i 0) ((cwR q (b.row ((sortS b.cs).getD k ⟨#[]⟩)) ((sortS b.cs).getD k ⟨#[]⟩) t p).getD i 0) hx (by unfold okS; omega) (by omega) (by omega)
        repeat' ((conv => whnf); first | (refine vcall_out (l :=  [0, 5]) (ca ) ⟨rfl, rfl, rfl, rfl, (by (repeat' (first | exact trivial | exact GB_wf | exact fun _ _ => rfl | constructor)); first | done | fail), (by (repeat' (first | exact trivial | exact GB_fits rfl | constructor)); first | done | fail)⟩ ?_) | (refine br_dec (fun h => ?_) (fun h => ?_) <;> try (exfalso; (try dsimp only at h); omega)) | (refine br_ndec (fun h => ?_) (fun h => ?_) <;> try (exfalso; (try dsimp only at h); omega)) | refine br_seq (fun h => ?_) (fun h => ?_) | refine br_nseq (fun h => ?_) (fun h => ?_) | refine br_not (fun h => ?_) (fun h => ?_) | refine br_intro (fun h => ?_) (fun h => ?_) | refine cond_intro rfl ?_ | (refine cond_intro ⟨rfl, ?_⟩ ?_; (first | omega | (dsimp only; omega) | decide)) | (refine cond_intro ?_ ?_; (first | omega | (dsimp only; omega) | decide | (simp only [Nat.add_zero, Int.toNat_natCast, *]; omega))))
        all_goals (conv => whnf)
        all_goals first
          | exact ⟨i + 1, [0, 1, 2, 3, 4, 5, 6], [], hi2, (show 16 - (i + 1) < 16 - i by omega), ⟨rfl, ⟨rfl, rfl, rfl, rfl, rfl, rfl, rfl, rfl, rfl, congrArg (fun z => some (SV.int .i64 z)) (i64_succ (by omega)), trivial⟩, ⟨rfl, rfl, gwk rfl, rfl, rfl, rfl, rfl, trivial⟩⟩⟩
          | (exfalso; omega)
          | trace_state
      · have ei : i = 16 := by omega
        subst ei
        have bS : (some (HB.one false (exA (addK (cvSK q b (sortS b.cs) t p k) (cwR q (b.row ((sortS b.cs).getD k ⟨#[]⟩)) ((sortS b.cs).getD k ⟨#[]⟩) t p) 16))) : Option HB) = some (.one false (exA (cvSK q b (sortS b.cs) t p (k + 1)))) := by rw [hS2]
        repeat' ((conv => whnf); first | (refine br_dec (fun h => ?_) (fun h => ?_) <;> try (exfalso; (try dsimp only at h); omega)) | (refine br_ndec (fun h => ?_) (fun h => ?_) <;> try (exfalso; (try dsimp only at h); omega)) | refine br_seq (fun h => ?_) (fun h => ?_) | refine br_nseq (fun h => ?_) (fun h => ?_) | refine br_not (fun h => ?_) (fun h => ?_) | refine br_intro (fun h => ?_) (fun h => ?_) | refine cond_intro rfl ?_ | (refine cond_intro ⟨rfl, ?_⟩ ?_; (first | omega | (dsimp only; omega) | decide)) | (refine cond_intro ?_ ?_; (first | omega | (dsimp only; omega) | decide | (simp only [Nat.add_zero, Int.toNat_natCast, *]; omega))))
        all_goals (conv => whnf)
        all_goals first
          | exact ⟨k + 1, [0, 1, 2, 3, 4, 5, 6], [], ⟨hk2, hE2⟩, (show b.m - (k + 1) < b.m - k by omega), ⟨rfl, ⟨rfl, rfl, rfl, rfl, rfl, rfl, rfl, congrArg (fun z => some (SV.int .i64 z)) (i64_succ (by omega)), trivial⟩, ⟨bS, rfl, gwk rfl, rfl, rfl, rfl, rfl, trivial⟩⟩⟩
          | (exfalso; omega)
          | trace_state
  have ek : k = b.m := by omega
  subst ek
  have hSk := hSbd b.m hE
  have hSl := hSlen b.m
  have e1 : b.cvE q t p = if fitK (b.cvS q t p) b.n = true then 0 else 4 := by
    rw [e0]; unfold Bk.cvX; rw [hE]; rfl
  have eL : b.cvL q t p = liR (cvSK q b (sortS b.cs) t p b.m) b.ps t b.n := rfl
  have eS : b.cvS q t p = cvSK q b (sortS b.cs) t p b.m := rfl
  rw [eS] at e1
  have hokS : ∀ j, okS ((cvSK q b (sortS b.cs) t p b.m).getD j 0) := fun j => by have := hSk j; unfold okS; omega
  generalize hL : b.cvL q t p = LL at *
  generalize hX : b.cvE q t p = XX at *
  generalize cvSK q b (sortS b.cs) t p b.m = SS at *
  clear hL hX eS
  repeat' ((conv => whnf); first | (refine br_dec (fun h => ?_) (fun h => ?_) <;> try (exfalso; (try dsimp only at h); omega)) | (refine br_ndec (fun h => ?_) (fun h => ?_) <;> try (exfalso; (try dsimp only at h); omega)) | refine br_seq (fun h => ?_) (fun h => ?_) | refine br_nseq (fun h => ?_) (fun h => ?_) | refine br_not (fun h => ?_) (fun h => ?_) | refine br_intro (fun h => ?_) (fun h => ?_) | refine cond_intro rfl ?_ | (refine cond_intro ⟨rfl, ?_⟩ ?_; (first | omega | (dsimp only; omega) | decide)) | (refine cond_intro ?_ ?_; (first | omega | (dsimp only; omega) | decide | (simp only [Nat.add_zero, Int.toNat_natCast, *]; omega))))
  all_goals (conv => whnf)
  all_goals first
    | (exfalso; omega)
    | skip
  refine vloop_lp (fun x : Nat × Nat => ⟨[(2, .str t), (10, .ptr 5 0 0 0), (70, .sl 2 0 0 b.n), (71, .int .i64 b.n), (72, .int .i64 x.1), (18, .sl 6 0 0 x.2)], (5, some (.one false (exA SS))) :: (6, some (.one false (pxB x.2 (pxOf (liR SS b.ps t x.1))))) :: cvH b q, 7⟩) (fun x => x.1 ≤ b.n ∧ (liR SS b.ps t x.1).length = x.2 ∧ fitK SS x.1 = true) (fun x => b.n - x.1) (0, 0) [0, 1, 2, 3, 4, 5, 7] [.slot 18 [.sc (.strs []), .sc (.ints .i64 []), .sc (.strs [])]] ⟨rfl, ⟨rfl, rfl, rfl, rfl, rfl, rfl, trivial⟩, ⟨rfl, rfl, gwk rfl, rfl, rfl, rfl, rfl, trivial⟩⟩ ⟨Nat.zero_le _, rfl, rfl⟩ ?_
  rintro ⟨i, m2⟩ ⟨hi, hl2, hf⟩
  dsimp only at hi hl2 hf
  by_cases hi2 : i < b.n
  · have cc := ex_clampedA SS i (by omega) (SS.getD i 0) 4611686018427387904 rfl (hokS i) (by decide) (by decide)
    have cf := pos_within (clampI (SS.getD i 0) 4611686018427387904)
    cases hfi : fitB (SS.getD i 0) with
    | false =>
      rw [clamp_nofit hfi] at cf
      rw [fitK_stop hfi b.n hi2, if_neg (by simp)] at e1
      rw [e1, if_pos (by decide)]
      repeat' ((conv => whnf); first | (refine vcall_out (l :=  [0, 5]) (cc ) ⟨rfl, rfl, rfl, rfl, (by (repeat' (first | exact trivial | exact GB_wf | exact fun _ _ => rfl | constructor)); first | done | fail), (by (repeat' (first | exact trivial | exact GB_fits rfl | constructor)); first | done | fail)⟩ ?_) | (refine vcall_pure (cf) rfl rfl rfl ?_) | (refine vcallD_pure (cf) rfl rfl rfl ?_) | (refine br_dec (fun h => ?_) (fun h => ?_) <;> try (exfalso; (try dsimp only at h); omega)) | (refine br_ndec (fun h => ?_) (fun h => ?_) <;> try (exfalso; (try dsimp only at h); omega)) | refine br_seq (fun h => ?_) (fun h => ?_) | refine br_nseq (fun h => ?_) (fun h => ?_) | refine br_not (fun h => ?_) (fun h => ?_) | refine br_intro (fun h => ?_) (fun h => ?_) | refine cond_intro rfl ?_ | (refine cond_intro ⟨rfl, ?_⟩ ?_; (first | omega | (dsimp only; omega) | decide)) | (refine cond_intro ?_ ?_; (first | omega | (dsimp only; omega) | decide | (simp only [Nat.add_zero, Int.toNat_natCast, *]; omega))))
      all_goals (conv => whnf)
      all_goals first
        | exact ret_out (l := [0, 1, 2, 3, 4]) rfl rfl trivial allRw_nil
        | (exfalso; omega)
        | contradiction
        | trace_state
    | true =>
      rw [clamp_fit hfi, hfi] at cf
      rw [clamp_fit hfi] at cc
      have hf2 : fitK SS (i + 1) = true := by simp only [fitK]; rw [hf, hfi]; rfl
      have hml := liR_len SS b.ps t i
      by_cases hz : SS.getD i 0 = 0
      · have h3 : liR SS b.ps t (i + 1) = liR SS b.ps t i := by simp only [liR]; rw [if_pos hz]
        have b3 : (some (HB.one false (pxB m2 (pxOf (liR SS b.ps t i)))) : Option HB) = some (.one false (pxB m2 (pxOf (liR SS b.ps t (i + 1))))) := by rw [h3]
        have h4 : (liR SS b.ps t (i + 1)).length = m2 := by rw [h3, hl2]
        repeat' ((conv => whnf); first | (refine vcall_out (l :=  [0, 5]) (cc ) ⟨rfl, rfl, rfl, rfl, (by (repeat' (first | exact trivial | exact GB_wf | exact fun _ _ => rfl | constructor)); first | done | fail), (by (repeat' (first | exact trivial | exact GB_fits rfl | constructor)); first | done | fail)⟩ ?_) | (refine vcall_pure (cf) rfl rfl rfl ?_) | (refine vcallD_pure (cf) rfl rfl rfl ?_) | (refine br_dec (fun h => ?_) (fun h => ?_) <;> try (exfalso; (try dsimp only at h); omega)) | (refine br_ndec (fun h => ?_) (fun h => ?_) <;> try (exfalso; (try dsimp only at h); omega)) | refine br_seq (fun h => ?_) (fun h => ?_) | refine br_nseq (fun h => ?_) (fun h => ?_) | refine br_not (fun h => ?_) (fun h => ?_) | refine br_intro (fun h => ?_) (fun h => ?_) | refine cond_intro rfl ?_ | (refine cond_intro ⟨rfl, ?_⟩ ?_; (first | omega | (dsimp only; omega) | decide)) | (refine cond_intro ?_ ?_; (first | omega | (dsimp only; omega) | decide | (simp only [Nat.add_zero, Int.toNat_natCast, *]; omega))))
        all_goals (conv => whnf)
        all_goals first
          | exact ⟨(i + 1, m2), [0, 1, 2, 3, 4, 5, 6], [], ⟨hi2, h4, hf2⟩, (show b.n - (i + 1) < b.n - i by omega), ⟨rfl, ⟨rfl, rfl, rfl, rfl, congrArg (fun z => some (SV.int .i64 z)) (i64_succ (by omega)), rfl, trivial⟩, ⟨rfl, b3, gwk rfl, rfl, rfl, rfl, rfl, trivial⟩⟩⟩
          | (exfalso; omega)
          | contradiction
          | trace_state
      · have h3 : liR SS b.ps t (i + 1) = liR SS b.ps t i ++ [⟨b.ps.getD i ⟨#[]⟩, SS.getD i 0, t⟩] := by simp only [liR]; rw [if_neg hz]
        have h5 := pxOf_snoc (liR SS b.ps t i) ⟨b.ps.getD i ⟨#[]⟩, SS.getD i 0, t⟩
        have b3 : (some (HB.one false (pxB (m2 + 1) ⟨(pxOf (liR SS b.ps t i)).p ++ [b.ps.getD i ⟨#[]⟩], (pxOf (liR SS b.ps t i)).a ++ [SS.getD i 0], (pxOf (liR SS b.ps t i)).c ++ [t]⟩)) : Option HB) = some (.one false (pxB (m2 + 1) (pxOf (liR SS b.ps t (i + 1))))) := by rw [h3, h5]
        have h4 : (liR SS b.ps t (i + 1)).length = m2 + 1 := by rw [h3, List.length_append, hl2]; rfl
        repeat' ((conv => whnf); first | (refine vcall_out (l :=  [0, 5]) (cc ) ⟨rfl, rfl, rfl, rfl, (by (repeat' (first | exact trivial | exact GB_wf | exact fun _ _ => rfl | constructor)); first | done | fail), (by (repeat' (first | exact trivial | exact GB_fits rfl | constructor)); first | done | fail)⟩ ?_) | (refine vcall_pure (cf) rfl rfl rfl ?_) | (refine vcallD_pure (cf) rfl rfl rfl ?_) | (refine br_dec (fun h => ?_) (fun h => ?_) <;> try (exfalso; (try dsimp only at h); omega)) | (refine br_ndec (fun h => ?_) (fun h => ?_) <;> try (exfalso; (try dsimp only at h); omega)) | refine br_seq (fun h => ?_) (fun h => ?_) | refine br_nseq (fun h => ?_) (fun h => ?_) | refine br_not (fun h => ?_) (fun h => ?_) | refine br_intro (fun h => ?_) (fun h => ?_) | refine cond_intro rfl ?_ | (refine cond_intro ⟨rfl, ?_⟩ ?_; (first | omega | (dsimp only; omega) | decide)) | (refine cond_intro ?_ ?_; (first | omega | (dsimp only; omega) | decide | (simp only [Nat.add_zero, Int.toNat_natCast, *]; omega))))
        all_goals (conv => whnf)
        all_goals first
          | exact ⟨(i + 1, m2 + 1), [0, 1, 2, 3, 4, 5, 8], [], ⟨hi2, h4, hf2⟩, (show b.n - (i + 1) < b.n - i by omega), ⟨rfl, ⟨rfl, rfl, rfl, rfl, congrArg (fun z => some (SV.int .i64 z)) (i64_succ (by omega)), rfl, trivial⟩, ⟨rfl, b3, gwk rfl, rfl, rfl, rfl, rfl, trivial⟩⟩⟩
          | (exfalso; omega)
          | contradiction
          | trace_state
  · have ei : i = b.n := by omega
    subst ei
    rw [if_pos hf] at e1
    rw [e1, if_neg (by decide), eL, hl2]
    repeat' ((conv => whnf); first | (refine br_dec (fun h => ?_) (fun h => ?_) <;> try (exfalso; (try dsimp only at h); omega)) | (refine br_ndec (fun h => ?_) (fun h => ?_) <;> try (exfalso; (try dsimp only at h); omega)) | refine br_seq (fun h => ?_) (fun h => ?_) | refine br_nseq (fun h => ?_) (fun h => ?_) | refine br_not (fun h => ?_) (fun h => ?_) | refine br_intro (fun h => ?_) (fun h => ?_) | refine cond_intro rfl ?_ | (refine cond_intro ⟨rfl, ?_⟩ ?_; (first | omega | (dsimp only; omega) | decide)) | (refine cond_intro ?_ ?_; (first | omega | (dsimp only; omega) | decide | (simp only [Nat.add_zero, Int.toNat_natCast, *]; omega))))
    all_goals (conv => whnf)
    all_goals first
      | exact ret_out (l := [0, 1, 2, 3, 4, 6]) rfl rfl ⟨rfl, trivial⟩ (allRw_cons allRw_nil)
      | (exfalso; omega)
      | trace_state
end Go.Proofs.YtkbidlijinclcaaDoor

/- The examples of the chapter on positions. -/
namespace Go.Proofs.YtkbidlijinclcaaDoor
open Go.RowKit Go.Sy
attribute [local irreducible] vcall vloop vcallD retP
set_option maxRecDepth 100000
set_option linter.unusedVariables false
set_option linter.unusedSimpArgs false

def sEur : ByteArray := ⟨#[69, 85, 82]⟩
def sUsd : ByteArray := ⟨#[85, 83, 68]⟩
def p3 : List ByteArray := [⟨#[97]⟩, ⟨#[98]⟩, ⟨#[99]⟩]
def k0 : Bk := ⟨3, p3, 0, [], [], [], 0⟩
def k1 : Bk := ⟨3, p3, 1, [sEur], [[-100, 100, 0, 0, 0, 0, 0, 0, 0, 0, 0, 0, 0, 0, 0, 0]], [0], 1⟩
def k2 : Bk := ⟨3, p3, 1, [sEur], [[-100, 70, 30, 0, 0, 0, 0, 0, 0, 0, 0, 0, 0, 0, 0, 0]], [0], 1⟩
def q0 : RL := ⟨[sEur], [sUsd], [11], [10], 1⟩
def l0 : List Px := [⟨⟨#[97]⟩, -110, sUsd⟩, ⟨⟨#[98]⟩, 77, sUsd⟩, ⟨⟨#[99]⟩, 33, sUsd⟩]
theorem fcEq {P : Program} {n : Nat} {f : FuncId} {args : List SV} {H H1 H2 : Heap} {r r' : SV} {n' : Nat} (h : FC P n f args H (isOut r H1 n')) (hr : r = r') (hh : H1 = H2) : FC P n f args H (isOut r' H2 n') := by subst hr hh; exact h
theorem p3_sort : sortS p3 = p3 := by
  exact sortS_of (List.Perm.refl _) (by unfold p3; refine .cons (fun a h => ?_) (.cons (fun a h => ?_) (.cons (fun a h => absurd h (List.not_mem_nil)) .nil)) <;> simp only [List.mem_cons, List.not_mem_nil, or_false] at h <;> (first | (rcases h with rfl | rfl <;> kernel_rfl) | (subst h; kernel_rfl)))
theorem one_sort (s : ByteArray) : sortS [s] = [s] := sortS_of (List.Perm.refl _) (List.pairwise_singleton _ _)
theorem row_ok {r : List Int} (hl : r.length = 16) (h : ∀ x ∈ r, -4503599627370496 ≤ x ∧ x ≤ 4503599627370496) : (∀ i, (([r] : List (List Int)).getD i z16).length = 16) ∧ ∀ i j, -4503599627370496 ≤ (([r] : List (List Int)).getD i z16).getD j 0 ∧ (([r] : List (List Int)).getD i z16).getD j 0 ≤ 4503599627370496 := by
  refine ⟨fun i => ?_, fun i j => ?_⟩
  · cases i with
    | zero => exact hl
    | succ i => rfl
  · cases i with
    | zero =>
      show -4503599627370496 ≤ r.getD j 0 ∧ r.getD j 0 ≤ 4503599627370496
      by_cases e : j < r.length
      · rw [List.getD, List.getElem?_eq_getElem e]; exact h _ (List.getElem_mem e)
      · rw [List.getD, List.getElem?_eq_none (by omega)]; decide
    | succ i =>
      show -4503599627370496 ≤ z16.getD j 0 ∧ z16.getD j 0 ≤ 4503599627370496
      rw [z16_get]; decide
theorem k0_ok : k0.Ok := ⟨by decide, rfl, fun i => rfl, fun i j => by show _ ≤ z16.getD j 0 ∧ z16.getD j 0 ≤ _; rw [z16_get]; decide⟩
theorem k1_ok : k1.Ok := ⟨by decide, rfl, (row_ok rfl (by decide)).1, (row_ok rfl (by decide)).2⟩
theorem k2_ok : k2.Ok := ⟨by decide, rfl, (row_ok rfl (by decide)).1, (row_ok rfl (by decide)).2⟩
theorem k2_cok : k2.Cok := ⟨by decide, by intro s hs; simp only [k2, List.mem_singleton] at hs; subst hs; decide, by simp [k2]⟩
theorem law_eur (n : Int) : Pure Tryd.prog 16 [.int .i64 n] (.agg [.int .i64 n, .str ⟨#[69, 85, 82]⟩]) := by
  refine fc_of mixed T_ok Tryd.func16 rfl (by kernel_rfl) (by kernel_rfl) (by kernel_rfl) ?_
  repeat' ((conv => whnf); first | (refine br_dec (fun h => ?_) (fun h => ?_) <;> try (exfalso; (try dsimp only at h); omega)) | (refine br_ndec (fun h => ?_) (fun h => ?_) <;> try (exfalso; (try dsimp only at h); omega)) | refine br_seq (fun h => ?_) (fun h => ?_) | refine br_nseq (fun h => ?_) (fun h => ?_) | refine br_not (fun h => ?_) (fun h => ?_) | refine br_intro (fun h => ?_) (fun h => ?_) | refine cond_intro rfl ?_ | (refine cond_intro ⟨rfl, ?_⟩ ?_; (first | omega | (dsimp only; omega) | decide)) | (refine cond_intro ?_ ?_; (first | omega | (dsimp only; omega) | decide | (simp only [Nat.add_zero, Int.toNat_natCast, *]; omega))))
  all_goals (conv => whnf)
  all_goals exact ret_pure rfl
theorem law_awake : FC Tryd.prog 1 6 [] [(0, some (GB glT))] (isOut (.bool true) [] 1) := by
  have c0 : FC Tryd.prog 2 9 [.sl 1 0 0 3] [(1, some (.one true (.cols 3 [.sc (.strs p3)])))] (isOut (.tup [.ptr 2 0 0 0, .int .i64 0]) [(2, bkC false 3 4 3), (3, bkP false k0), (4, bkM false k0)] 5) := by
    have c := pos_New p3 3 rfl (by decide)
    have e : nwErr p3 = 0 := by kernel_rfl
    have e2 : nwB p3 = k0 := by unfold nwB; rw [p3_sort]; rfl
    unfold nwOut at c
    rw [e, if_neg (by decide), e2] at c
    exact c
  have m1 : FC Tryd.prog 4 11 [.ptr 1 0 0 0, .str ⟨#[97]⟩, .str ⟨#[98]⟩, .agg [.int .i64 100, .str ⟨#[69, 85, 82]⟩]] (bkH k0) (isOut (.int .i64 0) [(3, bkM false k1)] 4) := fcEq (pos_Move k0 k0_ok _ _ _ _) (by kernel_rfl) (by kernel_rfl)
  have m2 : FC Tryd.prog 4 11 [.ptr 1 0 0 0, .str ⟨#[98]⟩, .str ⟨#[99]⟩, .agg [.int .i64 30, .str ⟨#[69, 85, 82]⟩]] (bkH k1) (isOut (.int .i64 0) [(3, bkM false k2)] 4) := fcEq (pos_Move k1 k1_ok _ _ _ _) (by kernel_rfl) (by kernel_rfl)
  have m3 : FC Tryd.prog 4 11 [.ptr 1 0 0 0, .str ⟨#[97]⟩, .str ⟨#[97]⟩, .agg [.int .i64 1, .str ⟨#[69, 85, 82]⟩]] (bkH k2) (isOut (.int .i64 4) [(3, bkM false k2)] 4) := fcEq (pos_Move k2 k2_ok _ _ _ _) (by kernel_rfl) (by kernel_rfl)
  have n2 : FC Tryd.prog 4 14 [.ptr 1 0 0 0, .str ⟨#[98]⟩, .str ⟨#[69, 85, 82]⟩] (bkR k2) (isOut (.int .i64 70) [] 4) := fcEq (pos_Net k2 k2_ok _ _) (by kernel_rfl) rfl
  have v2 : FC Tryd.prog 5 15 [.ptr 1 0 0 0, .sl 4 0 0 1, .str ⟨#[85, 83, 68]⟩, .str ⟨#[85, 83, 68]⟩] (cvH k2 q0) (isOut (.tup [.sl 5 0 0 3, .int .i64 0]) [(5, some (.one false (pxB 3 (pxOf l0))))] 6) := by
    have c := pos_Convert k2 k2_ok k2_cok q0 (by decide) sUsd sUsd
    have hs : sortS k2.cs = [sEur] := one_sort sEur
    have e : k2.cvE q0 sUsd sUsd = 0 := by unfold Bk.cvE Bk.cvX Bk.cvS; rw [hs]; kernel_rfl
    have e2 : k2.cvL q0 sUsd sUsd = l0 := by unfold Bk.cvL Bk.cvS; rw [hs]; kernel_rfl
    unfold cvOut at c
    rw [e, if_neg (by decide), e2] at c
    exact c
  refine fc_of mixed T_ok Tryd.func6 rfl (by kernel_rfl) (by kernel_rfl) (by kernel_rfl) ?_
  repeat' ((conv => whnf); first | (refine vcall_pure (law_eur _) rfl rfl rfl ?_) | (refine vcall_out (l :=  [0, 1]) (c0 ) ⟨rfl, rfl, rfl, rfl, (by (repeat' (first | exact trivial | exact GB_wf | exact fun _ _ => rfl | constructor)); first | done | fail), (by (repeat' (first | exact trivial | exact GB_fits rfl | constructor)); first | done | fail)⟩ ?_) | (refine vcall_out (l :=  [0, 2, 3, 4]) (m1 ) ⟨rfl, rfl, rfl, rfl, (by (repeat' (first | exact trivial | exact GB_wf | exact fun _ _ => rfl | constructor)); first | done | fail), (by (repeat' (first | exact trivial | exact GB_fits rfl | constructor)); first | done | fail)⟩ ?_) | (refine vcall_out (l :=  [0, 2, 3, 4]) (m2 ) ⟨rfl, rfl, rfl, rfl, (by (repeat' (first | exact trivial | exact GB_wf | exact fun _ _ => rfl | constructor)); first | done | fail), (by (repeat' (first | exact trivial | exact GB_fits rfl | constructor)); first | done | fail)⟩ ?_) | (refine vcall_out (l :=  [0, 2, 3, 4, 5]) (v2 ) ⟨rfl, rfl, rfl, rfl, (by (repeat' (first | exact trivial | exact GB_wf | exact fun _ _ => rfl | constructor)); first | done | fail), (by (repeat' (first | exact trivial | exact GB_fits rfl | constructor)); first | done | fail)⟩ ?_) | (refine vcall_out (l :=  [0, 2, 3, 4]) (n2 ) ⟨rfl, rfl, rfl, rfl, (by (repeat' (first | exact trivial | exact GB_wf | exact fun _ _ => rfl | constructor)); first | done | fail), (by (repeat' (first | exact trivial | exact GB_fits rfl | constructor)); first | done | fail)⟩ ?_) | (refine vcall_out (l :=  [0, 2, 3, 4]) (m3 ) ⟨rfl, rfl, rfl, rfl, (by (repeat' (first | exact trivial | exact GB_wf | exact fun _ _ => rfl | constructor)); first | done | fail), (by (repeat' (first | exact trivial | exact GB_fits rfl | constructor)); first | done | fail)⟩ ?_) | (refine br_dec (fun h => ?_) (fun h => ?_) <;> try (exfalso; (try dsimp only at h); omega)) | (refine br_ndec (fun h => ?_) (fun h => ?_) <;> try (exfalso; (try dsimp only at h); omega)) | refine br_seq (fun h => ?_) (fun h => ?_) | refine br_nseq (fun h => ?_) (fun h => ?_) | refine br_not (fun h => ?_) (fun h => ?_) | refine br_intro (fun h => ?_) (fun h => ?_) | refine cond_intro rfl ?_ | (refine cond_intro ⟨rfl, ?_⟩ ?_; (first | omega | (dsimp only; omega) | decide)) | (refine cond_intro ?_ ?_; (first | omega | (dsimp only; omega) | decide | (simp only [Nat.add_zero, Int.toNat_natCast, *]; omega))))
  all_goals (conv => whnf)
  all_goals first
    | exact ret_pure rfl
    | trace_state
end Go.Proofs.YtkbidlijinclcaaDoor

