/- Several texts in one: XPzF, XPzH, XPzI, XPzK, XPzL, XPzM, XPzN, XPzO, XPosV, XPzQ. -/
import Derived.Test.YtkbidlijinclcaaGreatDoorPc2
/- The law PositionMoves. -/
namespace Go.Proofs.YtkbidlijinclcaaGreatDoor
open Go.RowKit Go.Sy
attribute [local irreducible] vcall vloop vcallD retP
set_option maxRecDepth 100000
set_option linter.unusedVariables false
set_option linter.unusedSimpArgs false

def shK (ps : List ByteArray) : Nat → Bool
  | 0 => true
  | k + 1 => shK ps k && !decide (50 < ((ps.getD k ⟨#[]⟩).size : Int))
theorem shK_stop {ps : List ByteArray} {k : Nat} (h : 50 < ((ps.getD k ⟨#[]⟩).size : Int)) : ∀ n, k < n → shK ps n = false
  | 0, q => by omega
  | n + 1, q => by
    simp only [shK]
    by_cases e : k = n
    · subst e; rw [decide_eq_true h]; simp
    · rw [shK_stop h n (by omega), Bool.false_and]
def shB (ps : List ByteArray) (n : Nat) : Bool := shK ps n && decide (n ≤ 20)
theorem law_short (n : Nat) (ps : List ByteArray) (hn : n ≤ maxLen) : FC Tryz.prog 2 5 [.sl 1 0 0 n] [(1, some (.one true (.cols n [.sc (.strs ps)])))] (isOut (.bool (shB ps n)) [] 2) := by
  have eM : maxLen = 9223372036854775807 := rfl
  refine fc_of mixed T_ok Tryz.func5 rfl (by kernel_rfl) (by kernel_rfl) (by kernel_rfl) ?_
  repeat' ((conv => whnf); first | ((first | apply br_dec | apply br_ndec) <;> intro h <;> try (exfalso; (try dsimp only at h); omega)) | ((first | apply br_seq | apply br_nseq | apply br_not | apply br_intro) <;> intro h) | refine cond_a ?_)
  all_goals (conv => whnf)
  refine vloop_lp (fun k : Nat => ⟨[(0, .sl 1 0 0 n), (3, .int .i64 k)], [(1, some (.one true (.cols n [.sc (.strs ps)])))], 2⟩) (fun k => k ≤ n ∧ shK ps k = true) (fun k => n - k) 0 [0, 1] [] ⟨rfl, ⟨rfl, rfl, trivial⟩, ⟨rfl, trivial⟩⟩ ⟨Nat.zero_le _, rfl⟩ ?_
  rintro k ⟨hk, hs⟩
  by_cases hk2 : k < n
  · by_cases g : 50 < ((ps.getD k ⟨#[]⟩).size : Int)
    · have e : shB ps n = false := by unfold shB; rw [shK_stop g n hk2, Bool.false_and]
      rw [e]
      repeat' ((conv => whnf); first | ((first | apply br_dec | apply br_ndec) <;> intro h <;> try (exfalso; (try dsimp only at h); omega)) | ((first | apply br_seq | apply br_nseq | apply br_not | apply br_intro) <;> intro h) | refine cond_a ?_)
      all_goals (conv => whnf)
      all_goals first
        | exact ret_out (l := [0, 1]) rfl rfl trivial allRw_nil
        | (exfalso; first | omega | contradiction)
        | trace_state
    · have e : shK ps (k + 1) = true := by simp only [shK]; rw [hs, decide_eq_false g]; rfl
      repeat' ((conv => whnf); first | ((first | apply br_dec | apply br_ndec) <;> intro h <;> try (exfalso; (try dsimp only at h); omega)) | ((first | apply br_seq | apply br_nseq | apply br_not | apply br_intro) <;> intro h) | refine cond_a ?_)
      all_goals (conv => whnf)
      all_goals first
        | exact ⟨k + 1, [0, 1], [], ⟨hk2, e⟩, (show n - (k + 1) < n - k by omega), ⟨rfl, ⟨rfl, congrArg (fun z => some (SV.int .i64 z)) (i64_succ' (by omega)), trivial⟩, ⟨rfl, trivial⟩⟩⟩
        | (exfalso; first | omega | contradiction)
        | trace_state
  have ek : k = n := by omega
  subst ek
  have e : shB ps k = decide (k ≤ 20) := by unfold shB; rw [hs]; rfl
  rw [e]
  by_cases w1 : k ≤ 20
  all_goals simp only [w1, decide_true, decide_false]
  all_goals repeat' ((conv => whnf); first | ((first | apply br_dec | apply br_ndec) <;> intro h <;> try (exfalso; (try dsimp only at h); omega)) | ((first | apply br_seq | apply br_nseq | apply br_not | apply br_intro) <;> intro h) | refine cond_a ?_)
  all_goals (conv => whnf)
  all_goals first
    | exact ret_out (l := [0, 1]) rfl rfl trivial allRw_nil
    | exact ret_out (l := [0, 1]) rfl (congrArg SV.bool (decide_eq_true (by omega))) trivial allRw_nil
    | exact ret_out (l := [0, 1]) rfl (congrArg SV.bool (decide_eq_false (by omega))) trivial allRw_nil
    | (exfalso; omega)
    | trace_state
theorem shK_sz {ps : List ByteArray} : ∀ n, shK ps n = true → ∀ j, j < n → (ps.getD j ⟨#[]⟩).size ≤ 50
  | 0, _, j, hj => by omega
  | n + 1, h, j, hj => by
    simp only [shK, Bool.and_eq_true, Bool.not_eq_true', decide_eq_false_iff_not] at h
    by_cases e : j = n
    · subst e; have := h.2; omega
    · exact shK_sz n h.1 j (by omega)
theorem shB_ok {ps : List ByteArray} {n : Nat} (h : shB ps n = true) (hl : ps.length = n) : n ≤ 20 ∧ ∀ j, (ps.getD j ⟨#[]⟩).size ≤ 9223372036854775807 := by
  unfold shB at h
  simp only [Bool.and_eq_true, decide_eq_true_eq] at h
  refine ⟨h.2, fun j => ?_⟩
  by_cases e : j < n
  · have := shK_sz n h.1 j e; omega
  · rw [List.getD, List.getElem?_eq_none (by omega)]; decide
theorem rmE_np {n np : Nat} (h : n = np) {ps : List ByteArray} {R : List Px} {f t c : ByteArray} {a : Int} : rmE n ps R f t c a = rmE np ps R f t c a := by rw [h]
theorem rl_new {ps : List ByteArray} : RlB (nwB ps) [] := by
  refine ⟨List.Pairwise.nil, fun p c => ?_⟩
  unfold netI
  have e : (nwB ps).row c = z16 := rfl
  rw [e, z16_get]
  split <;> rfl
end Go.Proofs.YtkbidlijinclcaaGreatDoor

/- Contract: the reference splits an amount. -/
namespace Go.Proofs.YtkbidlijinclcaaGreatDoor
open Go.RowKit Go.Sy
attribute [local irreducible] vcall vloop vcallD retP
set_option maxRecDepth 100000
set_option linter.unusedVariables false
set_option linter.unusedSimpArgs false

theorem ref01_weights (ws : List Int) (n : Nat) (hn : n ≤ 64) (hw : ∀ k, k < n → 1 ≤ ws.getD k 0) : FC Tryz.prog 2 92 [.sl 1 0 0 n] [(1, some (.one true (.cols n [.sc (.ints .i64 ws)])))] (isOut (.int .i64 (if wMx ws n = true then swK ws n else 0)) [] 2) := by
  refine fc_of mixed T_ok Tryz.func92 rfl (by kernel_rfl) (by kernel_rfl) (by kernel_rfl) ?_
  repeat' ((conv => whnf); first | ((first | apply br_dec | apply br_ndec) <;> intro h <;> try (exfalso; (try dsimp only at h); omega)) | ((first | apply br_seq | apply br_nseq | apply br_not | apply br_intro) <;> intro h) | refine cond_a ?_)
  all_goals (conv => whnf)
  all_goals first
    | (exfalso; omega)
    | skip
  refine vloop_lp (fun k : Nat => ⟨[(0, .sl 1 0 0 n), (3, .int .i64 (swK ws k)), (4, .int .i64 k)], [(1, some (.one true (.cols n [.sc (.ints .i64 ws)])))], 2⟩) (fun k => k ≤ n ∧ wMx ws k = true) (fun k => n - k) 0 [0, 1] [] ⟨rfl, ⟨rfl, rfl, rfl, trivial⟩, ⟨rfl, trivial⟩⟩ ⟨Nat.zero_le _, rfl⟩ ?_
  rintro k ⟨hk, hm⟩
  by_cases hk2 : k < n
  · have hb := swK_bd hw k (by omega) hm
    have h1 := hw k hk2
    by_cases q : ws.getD k 0 ≤ 1099511627776
    · have hm2 : wMx ws (k + 1) = true := by simp only [wMx]; rw [hm, decide_eq_true q]; rfl
      have e1 : IntKind.i64.wrap (swK ws k + ws.getD k 0) = swK ws (k + 1) := by rw [w64_in (by omega) (by omega)]; rfl
      repeat' ((conv => whnf); first | ((first | apply br_dec | apply br_ndec) <;> intro h <;> try (exfalso; (try dsimp only at h); omega)) | ((first | apply br_seq | apply br_nseq | apply br_not | apply br_intro) <;> intro h) | refine cond_a ?_)
      all_goals (conv => whnf)
      all_goals (try simp only [toNat0, Int.toNat_natCast, Nat.add_zero] at *)
      all_goals first
        | exact ⟨k + 1, [0, 1], [], ⟨hk2, hm2⟩, (show n - (k + 1) < n - k by omega), ⟨rfl, ⟨rfl, congrArg (fun z => some (SV.int .i64 z)) e1, congrArg (fun z => some (SV.int .i64 z)) (i64_succ (by omega)), trivial⟩, ⟨rfl, trivial⟩⟩⟩
        | (exfalso; first | omega | contradiction)
        | trace_state
    · rw [wMx_stop q n hk2, if_neg (by simp)]
      repeat' ((conv => whnf); first | ((first | apply br_dec | apply br_ndec) <;> intro h <;> try (exfalso; (try dsimp only at h); omega)) | ((first | apply br_seq | apply br_nseq | apply br_not | apply br_intro) <;> intro h) | refine cond_a ?_)
      all_goals (conv => whnf)
      all_goals (try simp only [toNat0, Int.toNat_natCast, Nat.add_zero] at *)
      all_goals first
        | exact ret_out (l := [0, 1]) rfl rfl trivial allRw_nil
        | (exfalso; first | omega | contradiction)
        | trace_state
  · have e : k = n := by omega
    subst e
    rw [if_pos hm]
    repeat' ((conv => whnf); first | ((first | apply br_dec | apply br_ndec) <;> intro h <;> try (exfalso; (try dsimp only at h); omega)) | ((first | apply br_seq | apply br_nseq | apply br_not | apply br_intro) <;> intro h) | refine cond_a ?_)
    all_goals (conv => whnf)
    all_goals first
      | exact ret_out (l := [0, 1]) rfl rfl trivial allRw_nil
      | (exfalso; first | omega | contradiction)
      | trace_state
end Go.Proofs.YtkbidlijinclcaaGreatDoor

/- Contract: the reference splits an amount (the walk). -/
namespace Go.Proofs.YtkbidlijinclcaaGreatDoor
open Go.RowKit Go.Sy
attribute [local irreducible] vcall vloop vcallD retP
set_option maxRecDepth 100000
set_option linter.unusedVariables false
set_option linter.unusedSimpArgs false

def qlK (A : Nat) (ws : List Int) (n : Nat) : Nat → List Int
  | 0 => []
  | k + 1 => qlK A ws n k ++ [(qN A ws n k : Int)]
def rlK (A : Nat) (ws : List Int) (n : Nat) : Nat → List Int
  | 0 => []
  | k + 1 => rlK A ws n k ++ [(rN A ws n k : Int)]
theorem snocs_get {L : Nat → List Int} {f : Nat → Int} (h0 : L 0 = []) (hs : ∀ k, L (k + 1) = L k ++ [f k]) : ∀ k, (L k).length = k ∧ ∀ i, i < k → (L k).getD i 0 = f i
  | 0 => by rw [h0]; exact ⟨rfl, fun i hi => by omega⟩
  | k + 1 => by
    obtain ⟨h1, h2⟩ := snocs_get h0 hs k
    rw [hs]
    refine ⟨by rw [List.length_append, h1]; rfl, fun i hi => ?_⟩
    rw [snoc_getD, h1]
    by_cases e : i = k
    · rw [if_pos e, e]
    · rw [if_neg e]; exact h2 i (by omega)
theorem ql_eq (A : Nat) (ws : List Int) (n : Nat) : qlK A ws n n = spQ A ws n := by
  obtain ⟨h1, h2⟩ := snocs_get (L := qlK A ws n) (f := fun i => (qN A ws n i : Int)) rfl (fun _ => rfl) n
  refine List.ext_getElem (by rw [h1]; unfold spQ; rw [fillK_len]) fun i hi hj => ?_
  rw [h1] at hi
  have e := h2 i hi
  have e2 : (spQ A ws n).getD i 0 = (qN A ws n i : Int) := by unfold spQ; rw [fillK_get _ _ _ _ _ _ hi hi]
  rw [List.getD, List.getElem?_eq_getElem (by omega)] at e
  rw [List.getD, List.getElem?_eq_getElem hj] at e2
  exact e.trans e2.symm
theorem rl_eq (A : Nat) (ws : List Int) (n : Nat) : rlK A ws n n = spR A ws n := by
  obtain ⟨h1, h2⟩ := snocs_get (L := rlK A ws n) (f := fun i => (rN A ws n i : Int)) rfl (fun _ => rfl) n
  refine List.ext_getElem (by rw [h1]; unfold spR; rw [fillK_len]) fun i hi hj => ?_
  rw [h1] at hi
  have e := h2 i hi
  have e2 : (spR A ws n).getD i 0 = (rN A ws n i : Int) := by unfold spR; rw [fillK_get _ _ _ _ _ _ hi hi]
  rw [List.getD, List.getElem?_eq_getElem (by omega)] at e
  rw [List.getD, List.getElem?_eq_getElem hj] at e2
  exact e.trans e2.symm
abbrev rsB (n : Nat) (c : ByteArray) (P : List Int) : Blk := .cols n [.sc (.ints .i64 P), .sc (.strs (List.replicate n c))]
def rsOut (A : Nat) (c : ByteArray) (ws : List Int) (n : Nat) : SV → Heap → Nat → Prop := if spE A c ws n ≠ 0 then isOut (.tup [.nsl, .int .i64 (spE A c ws n)]) [] 2 else isOut (.tup [.sl 2 0 0 n, .int .i64 0]) [(2, some (.one false (rsB n c (spP A ws n))))] 3
theorem left_is {A : Nat} {ws : List Int} {n : Nat} (hw : ∀ k, k < n → 1 ≤ ws.getD k 0) (hn : 1 ≤ n) : qsK A ws n n ≤ A ∧ A - qsK A ws n n = spL A ws n ∧ spL A ws n < n := by
  have hle := qs_leA (A := A) hw (k := n) (Nat.le_refl _) hn
  have hS1 := sw_mono hw n 0 (by omega)
  rw [Nat.zero_add] at hS1
  have e0 : swK ws 0 = 0 := rfl
  have hS : 0 < (swK ws n).toNat := by omega
  have hN : swN ws n = (swK ws n).toNat := by have := swN_eq hw n (Nat.le_refl _); omega
  have h1 := qr_sum A ws n n
  have h2 := rs_bd A ws n hS n
  rw [hN] at h1
  have h3 : A < qsK A ws n n + n := by
    refine Nat.lt_of_mul_lt_mul_right (a := (swK ws n).toNat) ?_
    rw [Nat.add_mul, h1]; omega
  unfold spL
  refine ⟨hle, ?_, ?_⟩ <;> omega
theorem take_snocI {P : List Int} {k : Nat} (hk : k < P.length) : P.take (k + 1) = P.take k ++ [P.getD k 0] := by
  rw [List.take_succ_eq_append_getElem hk, List.getD, List.getElem?_eq_getElem hk]; rfl
theorem repl_snoc (c : ByteArray) (k : Nat) : List.replicate (k + 1) c = List.replicate k c ++ [c] := List.replicate_succ'
abbrev sqH (n : Nat) (ws : List Int) (A : Int) (c : ByteArray) : Heap := [(1, some (.one true (.cols n [.sc (.ints .i64 ws)]))), (2, some (.one false (.cells [.int .i64 A, .str c])))]
abbrev sqP (n : Nat) (P R : List Int) : Heap := [(3, some (.one false (.cols n [.sc (.ints .i64 P)]))), (4, some (.one false (.cols n [.sc (.ints .i64 R)])))]
abbrev sqO (k : Nat) (P : List Int) (c : ByteArray) (i : Nat) : Heap := [(3, some (.one false (.cols k [.sc (.ints .i64 P)]))), (4, some (.one false (rsB i c (P.take i))))]
theorem ref01_Split (A : Nat) (c : ByteArray) (ws : List Int) (n : Nat) (hA : A ≤ 9223372036854775807) (hn : n ≤ 16) (hw : ∀ k, k < n → 1 ≤ ws.getD k 0) (hw2 : ∀ k, k < n → ws.getD k 0 ≤ 9223372036854775807) : FC Tryz.prog 2 66 [.agg [.int .i64 A, .str c], .sl 1 0 0 n] [(1, some (.one true (.cols n [.sc (.ints .i64 ws)])))] (rsOut A c ws n) := by
  have c1 := ref01_Check A c
  have c2 := ref01_weights ws n (by omega) hw
  unfold rsOut
  by_cases h1 : mchk A c = 0
  case neg =>
    have e : spE A c ws n = mchk A c := by unfold spE; rw [if_pos h1]
    rw [e, if_pos h1]
    refine fc_of mixed T_ok Tryz.func66 rfl (by kernel_rfl) (by kernel_rfl) (by kernel_rfl) ?_
    repeat' ((conv => whnf); first | (refine vcall_pure (c1) rfl rfl rfl ?_) | ((first | apply br_dec | apply br_ndec) <;> intro h <;> try (exfalso; (try dsimp only at h); omega)) | ((first | apply br_seq | apply br_nseq | apply br_not | apply br_intro) <;> intro h) | refine cond_a ?_)
    all_goals (conv => whnf)
    all_goals first
      | exact ret_out (l := [0, 1]) rfl rfl trivial allRw_nil
      | (exfalso; omega)
      | trace_state
  have hA2 : A ≤ 4503599627370496 := by
    have := mchk_or A c
    rw [h1] at this
    omega
  have e0 : spE A c ws n = if wMx ws n = true ∧ 0 < swK ws n then 0 else 4 := by unfold spE; rw [if_neg (by simpa using h1)]
  rw [h1] at c1
  by_cases h2 : wMx ws n = true ∧ 0 < swK ws n
  case neg =>
    rw [if_neg h2] at e0
    rw [e0, if_pos (by decide)]
    have ez : (if wMx ws n = true then swK ws n else 0) = 0 := by
      by_cases h3 : wMx ws n = true
      · rw [if_pos h3]
        have := swK_bd hw n (Nat.le_refl _) h3
        have h4 : ¬ 0 < swK ws n := fun q => h2 ⟨h3, q⟩
        omega
      · rw [if_neg h3]
    rw [ez] at c2
    refine fc_of mixed T_ok Tryz.func66 rfl (by kernel_rfl) (by kernel_rfl) (by kernel_rfl) ?_
    repeat' ((conv => whnf); first | (refine vcall_pure (c1) rfl rfl rfl ?_) | refine vcall_o (l := [0, 1]) (c2) ?_ | ((first | apply br_dec | apply br_ndec) <;> intro h <;> try (exfalso; (try dsimp only at h); omega)) | ((first | apply br_seq | apply br_nseq | apply br_not | apply br_intro) <;> intro h) | refine cond_a ?_)
    all_goals (conv => whnf)
    all_goals first
      | exact ret_out (l := [0, 1]) rfl rfl trivial allRw_nil
      | (exfalso; omega)
      | trace_state
  rw [if_pos h2] at e0
  rw [e0, if_neg (by decide)]
  obtain ⟨hm, hS⟩ := h2
  rw [if_pos hm] at c2
  have hn1 : 1 ≤ n := by
    rcases Nat.eq_zero_or_pos n with q | q
    · subst q; simp [swK] at hS
    · exact q
  have hbS := swK_bd hw n (Nat.le_refl _) hm
  obtain ⟨l1, l2, l3⟩ := left_is (A := A) hw hn1
  have emx : (max (A : Int) (IntKind.i64.wrap (0 - (A : Int)))) = (A : Int) := by rw [w64_in (by omega) (by omega)]; omega
  refine fc_of mixed T_ok Tryz.func66 rfl (by kernel_rfl) (by kernel_rfl) (by kernel_rfl) ?_
  repeat' ((conv => whnf); first | (refine vcall_pure (c1) rfl rfl rfl ?_) | refine vcall_o (l := [0, 1]) (c2) ?_ | ((first | apply br_dec | apply br_ndec) <;> intro h <;> try (exfalso; (try dsimp only at h); omega)) | ((first | apply br_seq | apply br_nseq | apply br_not | apply br_intro) <;> intro h) | refine cond_a ?_)
  all_goals (conv => whnf)
  all_goals first
    | (exfalso; omega)
    | skip
  refine vloop_lp (fun k : Nat => ⟨[(1, .sl 1 0 0 n), (2, .ptr 2 0 0 0), (7, .int .i64 (swK ws n)), (8, .int .i64 ((A - qsK A ws n k : Nat) : Int)), (9, .sl 3 0 0 k), (10, .sl 4 0 0 k), (11, .int .i64 k)], sqH n ws A c ++ sqP k (qlK A ws n k) (rlK A ws n k), 5⟩) (fun k => k ≤ n) (fun k => n - k) 0 [0, 1, 2, 3, 4] [.slot 9 [.sc (.ints .i64 [])], .slot 10 [.sc (.ints .i64 [])]] ⟨rfl, ⟨rfl, rfl, rfl, congrArg (fun z => some (SV.int .i64 z)) emx, rfl, rfl, rfl, trivial⟩, ⟨rfl, rfl, rfl, rfl, trivial⟩⟩ (Nat.zero_le _) ?_
  intro k hk
  by_cases hk2 : k < n
  · have d1 := hw k hk2
    obtain ⟨W, S, eW, eS, hW, hSS, _, eq, er, hW40⟩ := bits_share A ws n hA2 hw hm (by omega) hk2
    have c3 := ref01_Divide A W S 4503599627370496 hA2 (by omega) (by omega) (by omega) (Nat.le_refl _)
    have hqA := q_le (A := A) hw hk2
    have hqs := qs_leA (A := A) hw (k := k + 1) (by omega) hn1
    have hst : qsK A ws n (k + 1) = qsK A ws n k + qN A ws n k := rfl
    rw [eq, er, Nat.min_eq_left (by omega)] at c3
    have e5 : IntKind.i64.wrap (((A - qsK A ws n k : Nat) : Int) - ((qN A ws n k : Nat) : Int)) = ((A - qsK A ws n (k + 1) : Nat) : Int) := by
      rw [hst]
      rw [w64_in (by omega) (by omega)]; omega
    rw [← eW, ← eS] at c3
    have emx2 := emx
    repeat' ((conv => whnf); first | (simp only [emx]) | (refine vcall_pure (c3) rfl rfl rfl ?_) | (refine vcallD_pure (c3) rfl rfl rfl ?_) | ((first | apply br_dec | apply br_ndec) <;> intro h <;> try (exfalso; (try dsimp only at h); omega)) | ((first | apply br_seq | apply br_nseq | apply br_not | apply br_intro) <;> intro h) | refine cond_a ?_)
    all_goals (conv => whnf)
    all_goals (try simp only [toNat0, Int.toNat_natCast, Nat.add_zero] at *)
    all_goals first
      | exact ⟨k + 1, [0, 1, 2, 6, 8], [], hk2, (show n - (k + 1) < n - k by omega), ⟨rfl, ⟨rfl, rfl, rfl, congrArg (fun z => some (SV.int .i64 z)) e5, rfl, rfl, congrArg (fun z => some (SV.int .i64 z)) (i64_succ (by omega)), trivial⟩, ⟨rfl, rfl, rfl, rfl, trivial⟩⟩⟩
      | (exfalso; first | omega | contradiction)
      | trace_state
  have ek : k = n := by omega
  subst ek
  rw [ql_eq, rl_eq, l2]
  have hO := spO_in A ws k hn1
  have hRl : (spR A ws k).length = k := by unfold spR; exact fillK_len _ _ _ _
  have hQl : (spQ A ws k).length = k := by unfold spQ; exact fillK_len _ _ _ _
  have hR0 : ∀ i, 0 ≤ (spR A ws k).getD i 0 := fun i => by
    unfold spR
    by_cases e : i < k
    · rw [fillK_get _ _ _ _ _ _ e e]; omega
    · rw [List.getD, List.getElem?_eq_none (by rw [fillK_len]; omega)]; exact Int.le_refl _
  have hQb : ∀ i, 0 ≤ (spQ A ws k).getD i 0 ∧ (spQ A ws k).getD i 0 ≤ (A : Int) := fun i => fillK_bd (Int.natCast_nonneg A) (fun i hi => ⟨Int.natCast_nonneg _, Int.ofNat_le.2 (q_le hw hi)⟩) k (Nat.le_refl _) i
  have hbb := bumpK_bd (P := spQ A ws k) (ord := spO A ws k) hQb (Int.natCast_nonneg A)
  have hbl := bumpK_len (spQ A ws k) (spO A ws k)
  have hbest := fun t ht => best_is (R := spR A ws k) hRl hn1 hR0 (t := t) ht
  have hPL : spP A ws k = bumpK (spQ A ws k) (spO A ws k) (spL A ws k) := rfl
  have hPb := sp_bd (A := A) hw
  have hPlen := spP_len A ws k
  have hstB : ∀ t, bumpK (spQ A ws k) (spO A ws k) (t + 1) = (bumpK (spQ A ws k) (spO A ws k) t).set ((spO A ws k).getD t 0).toNat ((bumpK (spQ A ws k) (spO A ws k) t).getD ((spO A ws k).getD t 0).toNat 0 + 1) := fun _ => rfl
  have hstR : ∀ t, rsT (spR A ws k) (spO A ws k) (t + 1) = (rsT (spR A ws k) (spO A ws k) t).set ((spO A ws k).getD t 0).toNat (-1) := fun _ => rfl
  have eO : insO (spR A ws k) (spI k) (k - 1) = spO A ws k := rfl
  rw [eO] at hbest
  repeat' ((conv => whnf); first | ((first | apply br_dec | apply br_ndec) <;> intro h <;> try (exfalso; (try dsimp only at h); omega)) | ((first | apply br_seq | apply br_nseq | apply br_not | apply br_intro) <;> intro h) | refine cond_a ?_)
  all_goals (conv => whnf)
  all_goals first
    | (exfalso; omega)
    | skip
  refine vloop_lp (fun t : Nat => ⟨[(2, .ptr 2 0 0 0), (8, .int .i64 ((spL A ws k - t : Nat) : Int)), (9, .sl 3 0 0 k), (10, .sl 4 0 0 k)], sqH k ws A c ++ sqP k (bumpK (spQ A ws k) (spO A ws k) t) (rsT (spR A ws k) (spO A ws k) t), 5⟩) (fun t => t ≤ spL A ws k) (fun t => spL A ws k - t) 0 [0, 1, 2, 3, 4] [] ⟨rfl, ⟨rfl, rfl, rfl, rfl, trivial⟩, ⟨rfl, rfl, rfl, rfl, trivial⟩⟩ (Nat.zero_le _) ?_
  intro t ht
  by_cases ht2 : t < spL A ws k
  · have htk : t < k := by omega
    have hot := hO.2 t htk
    have hbt := hbest t htk
    have hb1 := fun j => bsK_spec (rsT (spR A ws k) (spO A ws k) t) j
    have hbd1 := hbb t
    have hb1l := hbl t
    rw [hQl] at hb1l
    have hst1 := hstB t
    have hst2 := hstR t
    have e7 : IntKind.i64.wrap (((spL A ws k - t : Nat) : Int) - 1) = ((spL A ws k - (t + 1) : Nat) : Int) := by rw [w64_in (by omega) (by omega)]; omega
    generalize rsT (spR A ws k) (spO A ws k) t = RR at *
    generalize bumpK (spQ A ws k) (spO A ws k) t = PP at *
    generalize hob : ((spO A ws k).getD t 0).toNat = ob at *
    repeat' ((conv => whnf); first | ((first | apply br_dec | apply br_ndec) <;> intro h <;> try (exfalso; (try dsimp only at h); omega)) | ((first | apply br_seq | apply br_nseq | apply br_not | apply br_intro) <;> intro h) | refine cond_a ?_)
    all_goals (conv => whnf)
    all_goals first
      | (exfalso; omega)
      | skip
    refine vloop_lp (fun i : Nat => ⟨[(2, .ptr 2 0 0 0), (8, .int .i64 ((spL A ws k - t : Nat) : Int)), (9, .sl 3 0 0 k), (10, .sl 4 0 0 k), (14, .int .i64 (bsK RR i)), (15, .int .i64 i)], sqH k ws A c ++ sqP k PP RR, 5⟩) (fun i => i ≤ k) (fun i => k - i) 0 [0, 1, 2, 3, 4] [] ⟨rfl, ⟨rfl, rfl, rfl, rfl, rfl, rfl, trivial⟩, ⟨rfl, rfl, rfl, rfl, trivial⟩⟩ (Nat.zero_le _) ?_
    intro i hi
    by_cases hi2 : i < k
    · have hbi : bsK RR i < k := by
        rcases Nat.eq_zero_or_pos i with e | e
        · subst e; simp only [bsK]; omega
        · have := (hb1 i).1 e; omega
      have hs : bsK RR (i + 1) = if RR.getD (bsK RR i) 0 < RR.getD i 0 then i else bsK RR i := rfl
      by_cases g : RR.getD (bsK RR i) 0 < RR.getD i 0
      · rw [if_pos g] at hs
        have es : some (SV.int .i64 (i : Int)) = some (SV.int .i64 ((bsK RR (i + 1) : Nat) : Int)) := by rw [hs]
        repeat' ((conv => whnf); first | ((first | apply br_dec | apply br_ndec) <;> intro h <;> try (exfalso; (try dsimp only at h); omega)) | ((first | apply br_seq | apply br_nseq | apply br_not | apply br_intro) <;> intro h) | refine cond_a ?_)
        all_goals (conv => whnf)
        all_goals (try simp only [toNat0, Int.toNat_natCast, Nat.add_zero] at *)
        all_goals first
          | exact ⟨i + 1, [0, 1, 2, 3, 4], [], hi2, (show k - (i + 1) < k - i by omega), ⟨rfl, ⟨rfl, rfl, rfl, rfl, es, congrArg (fun z => some (SV.int .i64 z)) (i64_succ (by omega)), trivial⟩, ⟨rfl, rfl, rfl, rfl, trivial⟩⟩⟩
          | (exfalso; first | omega | contradiction)
          | trace_state
      · rw [if_neg g] at hs
        have es : some (SV.int .i64 ((bsK RR i : Nat) : Int)) = some (SV.int .i64 ((bsK RR (i + 1) : Nat) : Int)) := by rw [hs]
        repeat' ((conv => whnf); first | ((first | apply br_dec | apply br_ndec) <;> intro h <;> try (exfalso; (try dsimp only at h); omega)) | ((first | apply br_seq | apply br_nseq | apply br_not | apply br_intro) <;> intro h) | refine cond_a ?_)
        all_goals (conv => whnf)
        all_goals (try simp only [toNat0, Int.toNat_natCast, Nat.add_zero] at *)
        all_goals first
          | exact ⟨i + 1, [0, 1, 2, 3, 4], [], hi2, (show k - (i + 1) < k - i by omega), ⟨rfl, ⟨rfl, rfl, rfl, rfl, es, congrArg (fun z => some (SV.int .i64 z)) (i64_succ (by omega)), trivial⟩, ⟨rfl, rfl, rfl, rfl, trivial⟩⟩⟩
          | (exfalso; first | omega | contradiction)
          | trace_state
    · have ei : i = k := by omega
      subst ei
      rw [hbt]
      have hobk : ob < i := by omega
      have hx := hbd1 ob
      have ew : IntKind.i64.wrap (PP.getD ob 0 + 1) = PP.getD ob 0 + 1 := w64_in (by omega) (by omega)
      have r1 : (some (HB.one false (.cols i [.sc (.ints .i64 (PP.set ob (IntKind.i64.wrap (PP.getD ob 0 + 1))))])) : Option HB) = some (.one false (.cols i [.sc (.ints .i64 (bumpK (spQ A ws i) (spO A ws i) (t + 1)))])) := by rw [ew, ← hst1]
      have r2 : (some (HB.one false (.cols i [.sc (.ints .i64 (RR.set ob (-1)))])) : Option HB) = some (.one false (.cols i [.sc (.ints .i64 (rsT (spR A ws i) (spO A ws i) (t + 1)))])) := by rw [← hst2]
      repeat' ((conv => whnf); first | ((first | apply br_dec | apply br_ndec) <;> intro h <;> try (exfalso; (try dsimp only at h); omega)) | ((first | apply br_seq | apply br_nseq | apply br_not | apply br_intro) <;> intro h) | refine cond_a ?_)
      all_goals (conv => whnf)
      all_goals (try simp only [toNat0, Int.toNat_natCast, Nat.add_zero] at *)
      all_goals first
        | exact ⟨t + 1, [0, 1, 2, 3, 4], [], ht2, (show spL A ws i - (t + 1) < spL A ws i - t by omega), ⟨rfl, ⟨rfl, rfl, congrArg (fun z => some (SV.int .i64 z)) e7, rfl, rfl, trivial⟩, ⟨rfl, rfl, r1, r2, trivial⟩⟩⟩
        | exact ⟨t + 1, [0, 1, 2, 3, 4], [], ht2, (show spL A ws i - (t + 1) < spL A ws i - t by omega), ⟨rfl, ⟨rfl, congrArg (fun z => some (SV.int .i64 z)) e7, rfl, rfl, trivial⟩, ⟨rfl, rfl, r1, r2, trivial⟩⟩⟩
        | (exfalso; first | omega | contradiction)
        | trace_state
  have et : t = spL A ws k := by omega
  subst et
  rw [← hPL]
  have hPb2 := fun i => hPb i
  generalize spP A ws k = P at *
  repeat' ((conv => whnf); first | ((first | apply br_dec | apply br_ndec) <;> intro h <;> try (exfalso; (try dsimp only at h); omega)) | ((first | apply br_seq | apply br_nseq | apply br_not | apply br_intro) <;> intro h) | refine cond_a ?_)
  all_goals (conv => whnf)
  all_goals first
    | (exfalso; omega)
    | skip
  refine vloop_lp (fun i : Nat => ⟨[(2, .ptr 2 0 0 0), (9, .sl 3 0 0 k), (17, .int .i64 i), (16, .sl 4 0 0 i)], sqH k ws A c ++ sqO k P c i, 5⟩) (fun i => i ≤ k) (fun i => k - i) 0 [0, 1, 2, 3, 5] [.slot 16 [.sc (.ints .i64 []), .sc (.strs [])]] ⟨rfl, ⟨rfl, rfl, rfl, rfl, trivial⟩, ⟨rfl, rfl, rfl, rfl, trivial⟩⟩ (Nat.zero_le _) ?_
  intro i hi
  by_cases hi2 : i < k
  · have htk := take_snocI (P := P) (k := i) (by omega)
    have hrr := repl_snoc c i
    have r1 : (some (HB.one false (.cols (i + 1) [.sc (.ints .i64 (P.take i ++ [P.getD i 0])), .sc (.strs (List.replicate i c ++ [c]))])) : Option HB) = some (.one false (rsB (i + 1) c (P.take (i + 1)))) := by
      show _ = some (HB.one false (.cols (i + 1) [.sc (.ints .i64 (P.take (i + 1))), .sc (.strs (List.replicate (i + 1) c))]))
      rw [htk, hrr]
    repeat' ((conv => whnf); first | ((first | apply br_dec | apply br_ndec) <;> intro h <;> try (exfalso; (try dsimp only at h); omega)) | ((first | apply br_seq | apply br_nseq | apply br_not | apply br_intro) <;> intro h) | refine cond_a ?_)
    all_goals (conv => whnf)
    all_goals (try simp only [toNat0, Int.toNat_natCast, Nat.add_zero] at *)
    all_goals first
      | exact ⟨i + 1, [0, 1, 2, 3, 6], [], hi2, (show k - (i + 1) < k - i by omega), ⟨rfl, ⟨rfl, rfl, congrArg (fun z => some (SV.int .i64 z)) (i64_succ (by omega)), rfl, trivial⟩, ⟨rfl, rfl, rfl, r1, trivial⟩⟩⟩
      | (exfalso; first | omega | contradiction)
      | trace_state
  have ei : i = k := by omega
  subst ei
  have eT : P.take i = P := by rw [← hPlen, List.take_length]
  have rE : (some (HB.one false (rsB i c (P.take i))) : Option HB) = some (.one false (rsB i c P)) := by rw [eT]
  repeat' ((conv => whnf); first | ((first | apply br_dec | apply br_ndec) <;> intro h <;> try (exfalso; (try dsimp only at h); omega)) | ((first | apply br_seq | apply br_nseq | apply br_not | apply br_intro) <;> intro h) | refine cond_a ?_)
  all_goals (conv => whnf)
  all_goals first
    | exact ret_out (l := [0, 1, 4]) rfl rfl ⟨rE, trivial⟩ (allRw_cons allRw_nil)
    | (exfalso; first | omega | contradiction)
    | trace_state
end Go.Proofs.YtkbidlijinclcaaGreatDoor

/- Contracts: totals; an amount is divided among positions (the reference). -/
namespace Go.Proofs.YtkbidlijinclcaaGreatDoor
open Go.RowKit Go.Sy
attribute [local irreducible] vcall vloop vcallD retP
set_option maxRecDepth 100000
set_option linter.unusedVariables false
set_option linter.unusedSimpArgs false

def toK (L : List Px) (c : ByteArray) : Nat → Int
  | 0 => 0
  | k + 1 => if (L.getD k px0).c = c ∧ 0 < (L.getD k px0).a then toK L c k + (L.getD k px0).a else toK L c k
theorem toK_bd {L : List Px} {c : ByteArray} (h : ∀ j, (L.getD j px0).a ≤ 4503599627370496) : ∀ k, 0 ≤ toK L c k ∧ toK L c k ≤ 4503599627370496 * (k : Int)
  | 0 => by simp [toK]
  | k + 1 => by
    have ih := toK_bd (c := c) h k
    have := h k
    simp only [toK]
    split <;> omega
theorem ref40_total (L : List Px) (n : Nat) (hn : L.length = n) (hl : n ≤ 1500) (hL : ∀ j, (L.getD j px0).a ≤ 4503599627370496) (c : ByteArray) : FC Tryz.prog 2 41 [.sl 1 0 0 n, .str c] [(1, some (.one true (pxB n (pxOf L))))] (isOut (.int .i64 (toK L c n)) [] 2) := by
  refine fc_of mixed T_ok Tryz.func41 rfl (by kernel_rfl) (by kernel_rfl) (by kernel_rfl) ?_
  repeat' ((conv => whnf); first | ((first | apply br_dec | apply br_ndec) <;> intro h <;> try (exfalso; (try dsimp only at h); omega)) | ((first | apply br_seq | apply br_nseq | apply br_not | apply br_intro) <;> intro h) | refine cond_a ?_)
  all_goals (conv => whnf)
  refine vloop_lp (fun k : Nat => ⟨[(0, .sl 1 0 0 n), (1, .str c), (5, .int .i64 (toK L c k)), (6, .int .i64 k)], [(1, some (.one true (pxB n (pxOf L))))], 2⟩) (fun k => k ≤ n) (fun k => n - k) 0 [0, 1] [] ⟨rfl, ⟨rfl, rfl, rfl, rfl, trivial⟩, ⟨rfl, trivial⟩⟩ (Nat.zero_le _) ?_
  intro k hk
  by_cases hk2 : k < n
  · obtain ⟨b1, b2, b3⟩ := atP L k
    have hb := toK_bd (c := c) hL k
    have hx := hL k
    have hst : toK L c (k + 1) = if (L.getD k px0).c = c ∧ 0 < (L.getD k px0).a then toK L c k + (L.getD k px0).a else toK L c k := rfl
    by_cases g : (L.getD k px0).c = c ∧ 0 < (L.getD k px0).a
    · rw [if_pos g] at hst
      have e1 : IntKind.i64.wrap (toK L c k + (pxOf L).a.getD k 0) = toK L c (k + 1) := by rw [b2, hst]; exact w64_in (by omega) (by omega)
      rw [← b2, ← b3] at g
      have g1 := g.1
      repeat' ((conv => whnf); first | ((first | apply br_dec | apply br_ndec) <;> intro h <;> try (exfalso; (try dsimp only at h); omega)) | ((first | apply br_seq | apply br_nseq | apply br_not | apply br_intro) <;> intro h) | refine cond_a ?_)
      all_goals (conv => whnf)
      all_goals (try simp only [toNat0, Int.toNat_natCast, Nat.add_zero] at *)
      all_goals first
        | exact ⟨k + 1, [0, 1], [], hk2, (show n - (k + 1) < n - k by omega), ⟨rfl, ⟨rfl, rfl, congrArg (fun z => some (SV.int .i64 z)) e1, congrArg (fun z => some (SV.int .i64 z)) (i64_succ (by omega)), trivial⟩, ⟨rfl, trivial⟩⟩⟩
        | (exfalso; first | omega | contradiction | exact absurd g1.symm (by assumption))
        | trace_state
    · rw [if_neg g] at hst
      rw [← b2, ← b3] at g
      have es : some (SV.int .i64 (toK L c k)) = some (SV.int .i64 (toK L c (k + 1))) := by rw [hst]
      repeat' ((conv => whnf); first | ((first | apply br_dec | apply br_ndec) <;> intro h <;> try (exfalso; (try dsimp only at h); omega)) | ((first | apply br_seq | apply br_nseq | apply br_not | apply br_intro) <;> intro h) | refine cond_a ?_)
      all_goals (conv => whnf)
      all_goals (try simp only [toNat0, Int.toNat_natCast, Nat.add_zero] at *)
      all_goals first
        | exact ⟨k + 1, [0, 1], [], hk2, (show n - (k + 1) < n - k by omega), ⟨rfl, ⟨rfl, rfl, es, congrArg (fun z => some (SV.int .i64 z)) (i64_succ (by omega)), trivial⟩, ⟨rfl, trivial⟩⟩⟩
        | (exfalso; first | omega | contradiction | exact g ⟨by assumption, by assumption⟩)
        | trace_state
  · have e : k = n := by omega
    subst e
    repeat' ((conv => whnf); first | ((first | apply br_dec | apply br_ndec) <;> intro h <;> try (exfalso; (try dsimp only at h); omega)) | ((first | apply br_seq | apply br_nseq | apply br_not | apply br_intro) <;> intro h) | refine cond_a ?_)
    all_goals (conv => whnf)
    all_goals first
      | exact ret_out (l := [0, 1]) rfl rfl trivial allRw_nil
      | (exfalso; omega)
      | trace_state
/-- What is added: the k-th part with the sign. -/
def zdK (who : List ByteArray) (P : List Int) (s : Int) : Nat → List (ByteArray × Int)
  | 0 => []
  | k + 1 => zdK who P s k ++ [(who.getD k ⟨#[]⟩, s * P.getD k 0)]
theorem zdK_len (who : List ByteArray) (P : List Int) (s : Int) : ∀ k, (zdK who P s k).length = k
  | 0 => rfl
  | k + 1 => by simp only [zdK, List.length_append, zdK_len who P s k]; rfl
theorem zdK_mem {who : List ByteArray} {P : List Int} {s : Int} : ∀ {k : Nat} {z : ByteArray × Int}, z ∈ zdK who P s k → ∃ i, i < k ∧ z = (who.getD i ⟨#[]⟩, s * P.getD i 0)
  | 0, z, h => by simp [zdK] at h
  | k + 1, z, h => by
    simp only [zdK] at h
    rcases List.mem_append.1 h with q | q
    · obtain ⟨i, hi, e⟩ := zdK_mem q
      exact ⟨i, by omega, e⟩
    · exact ⟨k, by omega, List.mem_singleton.1 q⟩
abbrev fW (L : List Px) (c : ByteArray) (s : Int) : List Int := (fS L c s).map (fun x => x.a * s)
abbrev fN (L : List Px) (c : ByteArray) (s : Int) : List ByteArray := (fS L c s).map Px.p
abbrev fL (L : List Px) (c : ByteArray) (s : Int) : Nat := (fS L c s).length
abbrev dvP (A : Nat) (L : List Px) (c : ByteArray) (s : Int) : List Int := spP A (fW L c s) (fL L c s)
def dvZ (A : Nat) (L : List Px) (c : ByteArray) (s : Int) : List (ByteArray × Int) := zdK (fN L c s) (dvP A L c s) s (fL L c s)
def diE (A : Nat) (L : List Px) (c t : ByteArray) (s : Int) : Int := spE A t (fW L c s) (fL L c s)
def diOut (A : Nat) (O L : List Px) (c t : ByteArray) (s : Int) : SV → Heap → Nat → Prop :=
  if diE A L c t s ≠ 0 then isOut (.tup [.nsl, .int .i64 (diE A L c t s)]) [] 3
  else isOut (.tup [.sl 3 0 0 (stL t (dvZ A L c s) O).length, .int .i64 0]) [(3, some (.one false (pxB (stL t (dvZ A L c s) O).length (pxOf (stL t (dvZ A L c s) O)))))] 4
abbrev ddH (m n : Nat) (O L : List Px) : Heap := [(1, some (.one true (pxB m (pxOf O)))), (2, some (.one true (pxB n (pxOf L))))]
abbrev ddW (w : Nat) (a : List Int) (p : List ByteArray) : Heap := [(3, some (.one false (.cols w [.sc (.ints .i64 a)]))), (4, some (.one false (.cols w [.sc (.strs p)])))]
abbrev ddL (w : Nat) (WH : List ByteArray) (t : ByteArray) (PP : List Int) : Heap := [(3, some (.one false (.cols w [.sc (.strs WH)]))), (4, some (.one false (rsB w t PP)))]
abbrev ddR (w : Nat) (WH : List ByteArray) (t : ByteArray) (PP : List Int) (X : List Px) : Heap := [(3, some (.one false (.cols w [.sc (.strs WH)]))), (4, some (.one false (rsB w t PP))), (5, some (.one false (pxB X.length (pxOf X))))]
theorem map_get0 {L : List Px} {f : Px → Int} {k : Nat} (hk : k < L.length) : (L.map f).getD k 0 = f (L.getD k px0) := by
  simp [List.getD, hk]
theorem fS_mem {L : List Px} {c : ByteArray} {s : Int} {k : Nat} (hk : k < fL L c s) : ((fS L c s).getD k px0) ∈ L ∧ ((fS L c s).getD k px0).c = c ∧ 0 < ((fS L c s).getD k px0).a * s := by
  have hm : (fS L c s).getD k px0 ∈ fS L c s := by rw [List.getD, List.getElem?_eq_getElem hk]; exact List.getElem_mem _
  have h2 := List.mem_filter.1 hm
  rw [decide_eq_true_eq] at h2
  exact ⟨h2.1, h2.2.1, h2.2.2⟩
theorem ref40_divide (A : Nat) (hA : A ≤ 9223372036854775807) (O L : List Px) (m n : Nat) (hm : O.length = m) (hn : L.length = n) (hml : m ≤ 2000) (hnl : n ≤ 2000) (hL : ∀ x ∈ L, -4503599627370496 ≤ x.a ∧ x.a ≤ 4503599627370496) (c t : ByteArray) (s : Int) (hs : s = 1 ∨ s = -1) (h16 : fL L c s ≤ 16) (B : Int) (hO : OneC t B O) (hB : B ≤ 2305843009213693952) :
    FC Tryz.prog 3 44 [.sl 1 0 0 m, .sl 2 0 0 n, .str c, .str t, .int .i64 s, .int .i64 A] (ddH m n O L) (diOut A O L c t s) := by
  have hLd : ∀ j, -4503599627370496 ≤ (L.getD j px0).a ∧ (L.getD j px0).a ≤ 4503599627370496 := fun j => by
    by_cases e : j < L.length
    · rw [List.getD, List.getElem?_eq_getElem e]; exact hL _ (List.getElem_mem e)
    · rw [List.getD, List.getElem?_eq_none (by omega)]; decide
  have hLs : ∀ j, -4503599627370496 ≤ (L.getD j px0).a * s ∧ (L.getD j px0).a * s ≤ 4503599627370496 := fun j => by
    have := hLd j
    rcases hs with e | e <;> subst e <;> omega
  refine fc_of mixed T_ok Tryz.func44 rfl (by kernel_rfl) (by kernel_rfl) (by kernel_rfl) ?_
  repeat' ((conv => whnf); first | ((first | apply br_dec | apply br_ndec) <;> intro h <;> try (exfalso; (try dsimp only at h); omega)) | ((first | apply br_seq | apply br_nseq | apply br_not | apply br_intro) <;> intro h) | refine cond_a ?_)
  all_goals (conv => whnf)
  refine vloop_lp (fun x : Nat × Nat => ⟨[(0, .sl 1 0 0 m), (1, .sl 2 0 0 n), (2, .str c), (3, .str t), (4, .int .i64 s), (5, .int .i64 A), (14, .sl 3 0 0 x.2), (15, .sl 4 0 0 x.2), (16, .int .i64 x.1)], ddH m n O L ++ ddW x.2 (fW (L.take x.1) c s) (fN (L.take x.1) c s), 5⟩) (fun x => x.1 ≤ n ∧ fL (L.take x.1) c s = x.2) (fun x => n - x.1) (0, 0) [0, 1, 2, 3, 4] [.slot 14 [.sc (.ints .i64 [])], .slot 15 [.sc (.strs [])]] ⟨rfl, ⟨rfl, rfl, rfl, rfl, rfl, rfl, rfl, rfl, rfl, trivial⟩, ⟨rfl, rfl, rfl, rfl, trivial⟩⟩ ⟨Nat.zero_le _, rfl⟩ ?_
  rintro ⟨k, w⟩ ⟨hk, hw⟩
  dsimp only at hk hw
  have hwk : w ≤ 2000 := by
    have := List.length_filter_le (fun x : Px => decide (x.c = c ∧ 0 < x.a * s)) (L.take k)
    rw [List.length_take] at this
    have e : fL (L.take k) c s = (List.filter (fun x : Px => decide (x.c = c ∧ 0 < x.a * s)) (L.take k)).length := rfl
    omega
  by_cases hk2 : k < n
  · obtain ⟨b1, b2, b3⟩ := atP L k
    have hx := hLs k
    have hst := fS_succ (L := L) (c := c) (s := s) (k := k) (by omega)
    have e1 : IntKind.i64.wrap ((pxOf L).a.getD k 0 * s) = (pxOf L).a.getD k 0 * s := by rw [b2]; exact w64_in (by omega) (by omega)
    by_cases g : (L.getD k px0).c = c ∧ 0 < (L.getD k px0).a * s
    · rw [if_pos g] at hst
      have hl : fL (L.take (k + 1)) c s = w + 1 := by show (fS _ c s).length = _; rw [hst, List.length_append]; show fL (L.take k) c s + 1 = w + 1; rw [hw]
      have r1 : (some (HB.one false (.cols (w + 1) [.sc (.ints .i64 (fW (L.take k) c s ++ [(pxOf L).a.getD k 0 * s]))])) : Option HB) = some (.one false (.cols (w + 1) [.sc (.ints .i64 (fW (L.take (k + 1)) c s))])) := by
        show _ = some (HB.one false (.cols (w + 1) [.sc (.ints .i64 ((fS (L.take (k + 1)) c s).map (fun x => x.a * s)))]))
        rw [hst, List.map_append, b2]; rfl
      have r2 : (some (HB.one false (.cols (w + 1) [.sc (.strs (fN (L.take k) c s ++ [(pxOf L).p.getD k ⟨#[]⟩]))])) : Option HB) = some (.one false (.cols (w + 1) [.sc (.strs (fN (L.take (k + 1)) c s))])) := by
        show _ = some (HB.one false (.cols (w + 1) [.sc (.strs ((fS (L.take (k + 1)) c s).map Px.p))]))
        rw [hst, List.map_append, b1]; rfl
      rw [← b2, ← b3] at g
      have g1 := g.1
      repeat' ((conv => whnf); first | (simp only [e1]) | ((first | apply br_dec | apply br_ndec) <;> intro h <;> try (exfalso; (try dsimp only at h); omega)) | ((first | apply br_seq | apply br_nseq | apply br_not | apply br_intro) <;> intro h) | refine cond_a ?_)
      all_goals (conv => whnf)
      all_goals (try simp only [toNat0, Int.toNat_natCast, Nat.add_zero, e1] at *)
      all_goals first
        | exact ⟨(k + 1, w + 1), [0, 1, 2, 6, 8], [], ⟨hk2, hl⟩, (show n - (k + 1) < n - k by omega), ⟨rfl, ⟨rfl, rfl, rfl, rfl, rfl, rfl, rfl, rfl, congrArg (fun z => some (SV.int .i64 z)) (i64_succ (by omega)), trivial⟩, ⟨rfl, rfl, r1, r2, trivial⟩⟩⟩
        | (exfalso; first | omega | contradiction | exact absurd g1.symm (by assumption))
        | trace_state
    · rw [if_neg g] at hst
      have hl : fL (L.take (k + 1)) c s = w := by show (fS _ c s).length = _; rw [hst]; exact hw
      have r1 : (some (HB.one false (.cols w [.sc (.ints .i64 (fW (L.take k) c s))])) : Option HB) = some (.one false (.cols w [.sc (.ints .i64 (fW (L.take (k + 1)) c s))])) := by
        show _ = some (HB.one false (.cols w [.sc (.ints .i64 ((fS (L.take (k + 1)) c s).map (fun x => x.a * s)))]))
        rw [hst]
      have r2 : (some (HB.one false (.cols w [.sc (.strs (fN (L.take k) c s))])) : Option HB) = some (.one false (.cols w [.sc (.strs (fN (L.take (k + 1)) c s))])) := by
        show _ = some (HB.one false (.cols w [.sc (.strs ((fS (L.take (k + 1)) c s).map Px.p))]))
        rw [hst]
      rw [← b2, ← b3] at g
      repeat' ((conv => whnf); first | (simp only [e1]) | ((first | apply br_dec | apply br_ndec) <;> intro h <;> try (exfalso; (try dsimp only at h); omega)) | ((first | apply br_seq | apply br_nseq | apply br_not | apply br_intro) <;> intro h) | refine cond_a ?_)
      all_goals (conv => whnf)
      all_goals (try simp only [toNat0, Int.toNat_natCast, Nat.add_zero, e1] at *)
      all_goals first
        | exact ⟨(k + 1, w), [0, 1, 2, 3, 4], [], ⟨hk2, hl⟩, (show n - (k + 1) < n - k by omega), ⟨rfl, ⟨rfl, rfl, rfl, rfl, rfl, rfl, rfl, rfl, congrArg (fun z => some (SV.int .i64 z)) (i64_succ (by omega)), trivial⟩, ⟨rfl, rfl, r1, r2, trivial⟩⟩⟩
        | (exfalso; first | omega | contradiction | exact g ⟨by assumption, by assumption⟩)
        | trace_state
  have ek : n = k := by omega
  subst ek
  have eT : L.take n = L := by rw [← hn, List.take_length]
  rw [eT] at hw ⊢
  have hwe : w = fL L c s := hw.symm
  have hws : ∀ i, i < w → 1 ≤ (fW L c s).getD i 0 ∧ (fW L c s).getD i 0 ≤ 9223372036854775807 := fun i hi => by
    have h1 := fS_mem (L := L) (c := c) (s := s) (k := i) (by omega)
    have e : (fW L c s).getD i 0 = ((fS L c s).getD i px0).a * s := map_get0 (by rw [hwe] at hi; exact hi)
    have h2 := hL _ h1.1
    rw [e]
    have h3 := h1.2.2
    rcases hs with q | q <;> subst q <;> omega
  have cS := ref01_Split A t (fW L c s) w hA (by omega) (fun i hi => (hws i hi).1) (fun i hi => (hws i hi).2)
  unfold rsOut at cS
  have eE : spE A t (fW L c s) w = diE A L c t s := by rw [hwe]; rfl
  have eP : spP A (fW L c s) w = dvP A L c s := by rw [hwe]
  rw [eE] at cS
  unfold diOut
  by_cases hE : diE A L c t s = 0
  case neg =>
    rw [if_pos hE] at cS ⊢
    repeat' ((conv => whnf); first | refine vcall_o (l := [0, 3]) (cS) ?_ | refine vcallD_o (l := [0, 3]) (cS) ?_ | ((first | apply br_dec | apply br_ndec) <;> intro h <;> try (exfalso; (try dsimp only at h); omega)) | ((first | apply br_seq | apply br_nseq | apply br_not | apply br_intro) <;> intro h) | refine cond_a ?_)
    all_goals (conv => whnf)
    all_goals first
      | exact ret_out (l := [0, 1, 2]) rfl rfl trivial allRw_nil
      | (exfalso; omega)
      | trace_state
  rw [if_neg (by simpa using hE)] at cS ⊢
  rw [eP] at cS
  have hA2 : A ≤ 4503599627370496 := spE_le (n := fL L c s) (ws := fW L c s) (c := t) hE
  have hP : ∀ i, 0 ≤ (dvP A L c s).getD i 0 ∧ (dvP A L c s).getD i 0 ≤ 4503599627370512 := fun i => by
    have := sp_bd (A := A) (ws := fW L c s) (n := fL L c s) (fun k hk => (hws k (by omega)).1) i
    show 0 ≤ (spP A (fW L c s) (fL L c s)).getD i 0 ∧ (spP A (fW L c s) (fL L c s)).getD i 0 ≤ 4503599627370512
    omega
  have hw1 : 1 ≤ w := by
    have h2 := hE
    unfold diE spE at h2
    split at h2
    · contradiction
    · split at h2
      · rename_i q
        rcases Nat.eq_zero_or_pos w with z | z
        · exfalso
          have := q.2
          rw [← hwe, z] at this
          simp [swK] at this
        · exact z
      · cases h2
  have hZd : dvZ A L c s = zdK (fN L c s) (dvP A L c s) s w := by rw [hwe]; rfl
  rw [hZd]
  have hone : ∀ i, i ≤ w → OneC t (B + 9007199254740992 * (i : Int)) (stL t (zdK (fN L c s) (dvP A L c s) s i) O) := fun i hi => by
    have h := stL_one hO (V := 9007199254740992) (by decide) (zdK (fN L c s) (dvP A L c s) s i) (fun z hz => by
      obtain ⟨j, _, rfl⟩ := zdK_mem hz
      have := hP j
      dsimp only
      rcases hs with q | q <;> subst q <;> omega)
    rw [zdK_len] at h; exact h
  have hlen : ∀ i, (stL t (zdK (fN L c s) (dvP A L c s) s i) O).length ≤ m + i := fun i => by
    have := stL_len t (zdK (fN L c s) (dvP A L c s) s i) O
    rw [zdK_len, hm] at this; exact this
  have hstep : ∀ i, stL t (zdK (fN L c s) (dvP A L c s) s (i + 1)) O = putR (stL t (zdK (fN L c s) (dvP A L c s) s i) O) ((fN L c s).getD i ⟨#[]⟩) t (netR (stL t (zdK (fN L c s) (dvP A L c s) s i) O) ((fN L c s).getD i ⟨#[]⟩) t + s * (dvP A L c s).getD i 0) := fun i => by
    simp only [zdK]
    rw [stL_snoc]; rfl
  have hsb : ∀ i, -4503599627370512 ≤ s * (dvP A L c s).getD i 0 ∧ s * (dvP A L c s).getD i 0 ≤ 4503599627370512 := fun i => by
    have := hP i
    rcases hs with q | q <;> subst q <;> omega
  have h0 : stL t (zdK (fN L c s) (dvP A L c s) s 0) O = O := rfl
  generalize hQ : (fun i => stL t (zdK (fN L c s) (dvP A L c s) s i) O) = Q at *
  have hQi : ∀ i, stL t (zdK (fN L c s) (dvP A L c s) s i) O = Q i := fun i => by rw [← hQ]
  simp only [hQi] at *
  generalize fN L c s = WH at *
  generalize fW L c s = WS at *
  generalize dvP A L c s = PP at *
  have hQ0 : Q 0 = O := h0
  subst hQ0
  subst hm
  have round : ∀ (i : Nat), i < w → ∀ p, oldK (Q i) p (Q i).length = netR (Q i) p t := fun i hi p => oldK_net (hone i (by omega)).d (hone i (by omega)).c p
  have putc : ∀ (i : Nat), i < w → FC Tryz.prog 2 32 [.sl 1 0 0 (Q i).length, .str (WH.getD i ⟨#[]⟩), .str t, .int .i64 (IntKind.i64.wrap (netR (Q i) (WH.getD i ⟨#[]⟩) t + IntKind.i64.wrap (s * PP.getD i 0)))] [(1, some (.one true (pxB (Q i).length (pxOf (Q i)))))] (isOut (.sl 2 0 0 (Q (i + 1)).length) [(2, some (.one false (pxB (Q (i + 1)).length (pxOf (Q (i + 1))))))] 3) := fun i hi => by
    have h1 := hsb i
    have h2 := (hone i (by omega)).b (WH.getD i ⟨#[]⟩)
    rw [w64_in (n := s * PP.getD i 0) (by omega) (by omega), w64_in (by omega) (by omega), hstep i]
    exact ref40_put (Q i) _ rfl (by have := hlen i; omega) _ _ _ _ rfl
  have Ldef := hLd
  repeat' ((conv => whnf); first | refine vcall_o (l := [0, 3]) (cS) ?_ | refine vcallD_o (l := [0, 3]) (cS) ?_ | ((first | apply br_dec | apply br_ndec) <;> intro h <;> try (exfalso; (try dsimp only at h); omega)) | ((first | apply br_seq | apply br_nseq | apply br_not | apply br_intro) <;> intro h) | refine cond_a ?_)
  all_goals (conv => whnf)
  all_goals first
    | (exfalso; omega)
    | skip
  refine vloop_lp (fun x : Sum Unit Nat => match x with
    | .inl _ => ⟨[(0, .sl 1 0 0 (Q 0).length), (3, .str t), (4, .int .i64 s), (15, .sl 3 0 0 w), (18, .sl 4 0 0 w), (20, .int .i64 0)], ddH (Q 0).length n (Q 0) L ++ ddL w WH t PP, 5⟩
    | .inr i => ⟨[(0, .sl 5 0 0 (Q i).length), (3, .str t), (4, .int .i64 s), (15, .sl 3 0 0 w), (18, .sl 4 0 0 w), (20, .int .i64 i)], ddH (Q 0).length n (Q 0) L ++ ddR w WH t PP (Q i), 6⟩) (fun x => match x with | .inl _ => True | .inr i => 1 ≤ i ∧ i ≤ w) (fun x => match x with | .inl _ => w | .inr i => w - i) (.inl ()) [0, 1, 2, 4, 5] [] ⟨rfl, ⟨rfl, rfl, rfl, rfl, rfl, rfl, trivial⟩, ⟨rfl, rfl, rfl, rfl, trivial⟩⟩ trivial ?_
  rintro (u | i) hi
  · have hi2 : 0 < w := hw1
    have cP := putc 0 hi2
    have hr := round 0 hi2 (WH.getD 0 ⟨#[]⟩)
    have hlQ := hlen 0
    generalize hpw : WH.getD 0 ⟨#[]⟩ = pw at cP hr
    repeat' ((conv => whnf); first | ((first | apply br_dec | apply br_ndec) <;> intro h <;> try (exfalso; (try dsimp only at h); omega)) | ((first | apply br_seq | apply br_nseq | apply br_not | apply br_intro) <;> intro h) | refine cond_a ?_)
    all_goals (conv => whnf)
    all_goals first
      | (exfalso; omega)
      | skip
    refine vloop_lp (fun k : Nat => ⟨[(0, .sl 1 0 0 (Q 0).length), (3, .str t), (4, .int .i64 s), (15, .sl 3 0 0 w), (18, .sl 4 0 0 w), (20, .int .i64 0), (21, .int .i64 (oldK (Q 0) pw k)), (22, .int .i64 k)], ddH (Q 0).length n (Q 0) L ++ ddL w WH t PP, 5⟩) (fun k => k ≤ (Q 0).length) (fun k => (Q 0).length - k) 0 [0, 1, 2, 3, 4] [] ⟨rfl, ⟨rfl, rfl, rfl, rfl, rfl, rfl, rfl, rfl, trivial⟩, ⟨rfl, rfl, rfl, rfl, trivial⟩⟩ (Nat.zero_le _) ?_
    intro k hk
    by_cases hk2 : k < (Q 0).length
    · obtain ⟨b1, b2, b3⟩ := atP (Q 0) k
      have hst : oldK (Q 0) pw (k + 1) = if ((Q 0).getD k px0).p = pw then ((Q 0).getD k px0).a else oldK (Q 0) pw k := rfl
      by_cases g : ((Q 0).getD k px0).p = pw
      · rw [if_pos g] at hst
        have es : some (SV.int .i64 ((pxOf (Q 0)).a.getD k 0)) = some (SV.int .i64 (oldK (Q 0) pw (k + 1))) := by rw [hst, b2]
        rw [← b1, ← hpw] at g
        repeat' ((conv => whnf); first | ((first | apply br_dec | apply br_ndec) <;> intro h <;> try (exfalso; (try dsimp only at h); omega)) | ((first | apply br_seq | apply br_nseq | apply br_not | apply br_intro) <;> intro h) | refine cond_a ?_)
        all_goals (conv => whnf)
        all_goals (try simp only [toNat0, Int.toNat_natCast, Nat.add_zero] at *)
        all_goals first
          | exact ⟨k + 1, [0, 1, 2, 3, 4], [], hk2, (show (Q 0).length - (k + 1) < (Q 0).length - k by omega), ⟨rfl, ⟨rfl, rfl, rfl, rfl, rfl, rfl, es, congrArg (fun z => some (SV.int .i64 z)) (i64_succ (by omega)), trivial⟩, ⟨rfl, rfl, rfl, rfl, trivial⟩⟩⟩
          | (exfalso; first | omega | contradiction | exact absurd g.symm (by assumption))
          | trace_state
      · rw [if_neg g] at hst
        have es : some (SV.int .i64 (oldK (Q 0) pw k)) = some (SV.int .i64 (oldK (Q 0) pw (k + 1))) := by rw [hst]
        rw [← b1, ← hpw] at g
        repeat' ((conv => whnf); first | ((first | apply br_dec | apply br_ndec) <;> intro h <;> try (exfalso; (try dsimp only at h); omega)) | ((first | apply br_seq | apply br_nseq | apply br_not | apply br_intro) <;> intro h) | refine cond_a ?_)
        all_goals (conv => whnf)
        all_goals (try simp only [toNat0, Int.toNat_natCast, Nat.add_zero] at *)
        all_goals first
          | exact ⟨k + 1, [0, 1, 2, 3, 4], [], hk2, (show (Q 0).length - (k + 1) < (Q 0).length - k by omega), ⟨rfl, ⟨rfl, rfl, rfl, rfl, rfl, rfl, es, congrArg (fun z => some (SV.int .i64 z)) (i64_succ (by omega)), trivial⟩, ⟨rfl, rfl, rfl, rfl, trivial⟩⟩⟩
          | (exfalso; first | omega | contradiction | exact g ((by assumption : pw = _).symm) | exact g (by assumption))
          | trace_state
    · have ek : k = (Q 0).length := by omega
      rw [ek, hr]
      rw [← hpw] at cP ⊢
      have hinv : (1 ≤ 1 ∧ 1 ≤ w) := ⟨by omega, by omega⟩
      repeat' ((conv => whnf); first | refine vcall_o (l := [0, 1]) (cP) ?_ | refine vcallD_o (l := [0, 1]) (cP) ?_ | ((first | apply br_dec | apply br_ndec) <;> intro h <;> try (exfalso; (try dsimp only at h); omega)) | ((first | apply br_seq | apply br_nseq | apply br_not | apply br_intro) <;> intro h) | refine cond_a ?_)
      all_goals (conv => whnf)
      all_goals (try simp only [toNat0, Int.toNat_natCast, Nat.add_zero] at *)
      all_goals first
        | exact ⟨.inr 1, [0, 1, 2, 3, 4, 5], [], hinv, (show w - 1 < w by omega), ⟨rfl, ⟨rfl, rfl, rfl, rfl, rfl, rfl, trivial⟩, ⟨rfl, rfl, rfl, rfl, rfl, trivial⟩⟩⟩
        | (exfalso; first | omega | contradiction)
        | trace_state
  · dsimp only at hi ⊢
    obtain ⟨hi1, hiw⟩ := hi
    by_cases hi2 : i < w
    case neg =>
      have ei : i = w := by omega
      subst ei
      repeat' ((conv => whnf); first | ((first | apply br_dec | apply br_ndec) <;> intro h <;> try (exfalso; (try dsimp only at h); omega)) | ((first | apply br_seq | apply br_nseq | apply br_not | apply br_intro) <;> intro h) | refine cond_a ?_)
      all_goals (conv => whnf)
      all_goals first
        | exact ret_out (l := [0, 1, 2, 5]) rfl rfl ⟨rfl, trivial⟩ (allRw_cons allRw_nil)
        | (exfalso; omega)
        | trace_state
    have cP := putc i hi2
    have hr := round i hi2 (WH.getD i ⟨#[]⟩)
    have hlQ := hlen i
    generalize hpw : WH.getD i ⟨#[]⟩ = pw at cP hr
    repeat' ((conv => whnf); first | ((first | apply br_dec | apply br_ndec) <;> intro h <;> try (exfalso; (try dsimp only at h); omega)) | ((first | apply br_seq | apply br_nseq | apply br_not | apply br_intro) <;> intro h) | refine cond_a ?_)
    all_goals (conv => whnf)
    all_goals first
      | (exfalso; omega)
      | skip
    refine vloop_lp (fun k : Nat => ⟨[(0, .sl 5 0 0 (Q i).length), (3, .str t), (4, .int .i64 s), (15, .sl 3 0 0 w), (18, .sl 4 0 0 w), (20, .int .i64 i), (21, .int .i64 (oldK (Q i) pw k)), (22, .int .i64 k)], ddH (Q 0).length n (Q 0) L ++ ddR w WH t PP (Q i), 6⟩) (fun k => k ≤ (Q i).length) (fun k => (Q i).length - k) 0 [0, 1, 2, 3, 4, 5] [] ⟨rfl, ⟨rfl, rfl, rfl, rfl, rfl, rfl, rfl, rfl, trivial⟩, ⟨rfl, rfl, rfl, rfl, rfl, trivial⟩⟩ (Nat.zero_le _) ?_
    intro k hk
    by_cases hk2 : k < (Q i).length
    · obtain ⟨b1, b2, b3⟩ := atP (Q i) k
      have hst : oldK (Q i) pw (k + 1) = if ((Q i).getD k px0).p = pw then ((Q i).getD k px0).a else oldK (Q i) pw k := rfl
      by_cases g : ((Q i).getD k px0).p = pw
      · rw [if_pos g] at hst
        have es : some (SV.int .i64 ((pxOf (Q i)).a.getD k 0)) = some (SV.int .i64 (oldK (Q i) pw (k + 1))) := by rw [hst, b2]
        rw [← b1, ← hpw] at g
        repeat' ((conv => whnf); first | ((first | apply br_dec | apply br_ndec) <;> intro h <;> try (exfalso; (try dsimp only at h); omega)) | ((first | apply br_seq | apply br_nseq | apply br_not | apply br_intro) <;> intro h) | refine cond_a ?_)
        all_goals (conv => whnf)
        all_goals (try simp only [toNat0, Int.toNat_natCast, Nat.add_zero] at *)
        all_goals first
          | exact ⟨k + 1, [0, 1, 2, 3, 4, 5], [], hk2, (show (Q i).length - (k + 1) < (Q i).length - k by omega), ⟨rfl, ⟨rfl, rfl, rfl, rfl, rfl, rfl, es, congrArg (fun z => some (SV.int .i64 z)) (i64_succ (by omega)), trivial⟩, ⟨rfl, rfl, rfl, rfl, rfl, trivial⟩⟩⟩
          | (exfalso; first | omega | contradiction | exact absurd g.symm (by assumption))
          | trace_state
      · rw [if_neg g] at hst
        have es : some (SV.int .i64 (oldK (Q i) pw k)) = some (SV.int .i64 (oldK (Q i) pw (k + 1))) := by rw [hst]
        rw [← b1, ← hpw] at g
        repeat' ((conv => whnf); first | ((first | apply br_dec | apply br_ndec) <;> intro h <;> try (exfalso; (try dsimp only at h); omega)) | ((first | apply br_seq | apply br_nseq | apply br_not | apply br_intro) <;> intro h) | refine cond_a ?_)
        all_goals (conv => whnf)
        all_goals (try simp only [toNat0, Int.toNat_natCast, Nat.add_zero] at *)
        all_goals first
          | exact ⟨k + 1, [0, 1, 2, 3, 4, 5], [], hk2, (show (Q i).length - (k + 1) < (Q i).length - k by omega), ⟨rfl, ⟨rfl, rfl, rfl, rfl, rfl, rfl, es, congrArg (fun z => some (SV.int .i64 z)) (i64_succ (by omega)), trivial⟩, ⟨rfl, rfl, rfl, rfl, rfl, trivial⟩⟩⟩
          | (exfalso; first | omega | contradiction | exact g ((by assumption : pw = _).symm) | exact g (by assumption))
          | trace_state
    · have ek : k = (Q i).length := by omega
      rw [ek, hr]
      rw [← hpw] at cP ⊢
      have hinv : (1 ≤ (i + 1) ∧ (i + 1) ≤ w) := ⟨by omega, by omega⟩
      repeat' ((conv => whnf); first | refine vcall_o (l := [0, 5]) (cP) ?_ | refine vcallD_o (l := [0, 5]) (cP) ?_ | ((first | apply br_dec | apply br_ndec) <;> intro h <;> try (exfalso; (try dsimp only at h); omega)) | ((first | apply br_seq | apply br_nseq | apply br_not | apply br_intro) <;> intro h) | refine cond_a ?_)
      all_goals (conv => whnf)
      all_goals (try simp only [toNat0, Int.toNat_natCast, Nat.add_zero] at *)
      all_goals first
        | exact ⟨.inr (i + 1), [0, 1, 2, 3, 4, 6], [], hinv, (show w - (i + 1) < w - i by omega), ⟨rfl, ⟨rfl, rfl, rfl, rfl, rfl, congrArg (fun z => some (SV.int .i64 z)) (i64_succ (by omega)), trivial⟩, ⟨rfl, rfl, rfl, rfl, rfl, trivial⟩⟩⟩
        | (exfalso; first | omega | contradiction)
        | trace_state
end Go.Proofs.YtkbidlijinclcaaGreatDoor

/- Contract: positions are added as they are (the reference). -/
namespace Go.Proofs.YtkbidlijinclcaaGreatDoor
open Go.RowKit Go.Sy
attribute [local irreducible] vcall vloop vcallD retP
set_option maxRecDepth 100000
set_option linter.unusedVariables false
set_option linter.unusedSimpArgs false

def plZ (L : List Px) (c : ByteArray) (s : Int) : List (ByteArray × Int) := (fS L c s).map (fun x => (x.p, x.a))
abbrev plQ (O L : List Px) (c : ByteArray) (s : Int) (i : Nat) : List Px := stL c (plZ (L.take i) c s) O
abbrev ppR (X : List Px) : Heap := [(3, some (.one false (pxB X.length (pxOf X))))]
theorem ref40_plain (O L : List Px) (m n : Nat) (hm : O.length = m) (hn : L.length = n) (hml : m ≤ 2000) (hnl : n ≤ 2000) (hL : ∀ x ∈ L, -4503599627370496 ≤ x.a ∧ x.a ≤ 4503599627370496) (c : ByteArray) (s : Int) (hs : s = 1 ∨ s = -1) (h16 : fL L c s ≤ 16) (h1 : 1 ≤ fL L c s) (B : Int) (hO : OneC c B O) (hB : B ≤ 2305843009213693952) (R : List Px) (hR : stL c (plZ L c s) O = R) :
    FC Tryz.prog 3 45 [.sl 1 0 0 m, .sl 2 0 0 n, .str c, .int .i64 s] (ddH m n O L) (isOut (.sl 3 0 0 R.length) [(3, some (.one false (pxB R.length (pxOf R))))] 4) := by
  have hLd : ∀ j, -4503599627370496 ≤ (L.getD j px0).a ∧ (L.getD j px0).a ≤ 4503599627370496 := fun j => by
    by_cases e : j < L.length
    · rw [List.getD, List.getElem?_eq_getElem e]; exact hL _ (List.getElem_mem e)
    · rw [List.getD, List.getElem?_eq_none (by omega)]; decide
  have hLs : ∀ j, -4503599627370496 ≤ (L.getD j px0).a * s ∧ (L.getD j px0).a * s ≤ 4503599627370496 := fun j => by
    have := hLd j
    rcases hs with e | e <;> subst e <;> omega
  have hfl : ∀ i, (fS (L.take i) c s).length ≤ 16 := fun i => by
    have h : (fS (L.take i) c s).Sublist (fS L c s) := (List.take_sublist i L).filter _
    have := h.length_le
    exact Nat.le_trans this h16
  have hone : ∀ i, OneC c (B + 144115188075855872) (plQ O L c s i) := fun i => by
    have h := stL_one hO (V := 9007199254740992) (by decide) (plZ (L.take i) c s) (fun z hz => by
      unfold plZ at hz
      obtain ⟨x, hx, rfl⟩ := List.mem_map.1 hz
      have := hL x ((List.take_sublist i L).subset (List.mem_filter.1 hx).1)
      dsimp only
      omega)
    have hl : (plZ (L.take i) c s).length ≤ 16 := by unfold plZ; rw [List.length_map]; exact hfl i
    have h2 : OneC c (B + 9007199254740992 * ((plZ (L.take i) c s).length : Int)) (plQ O L c s i) := h
    exact ⟨h.d, h.c, fun p => by have := h2.b p; omega⟩
  have hlen : ∀ i, (plQ O L c s i).length ≤ m + 16 := fun i => by
    have : (plQ O L c s i).length ≤ O.length + (plZ (L.take i) c s).length := stL_len c (plZ (L.take i) c s) O
    have hl : (plZ (L.take i) c s).length ≤ 16 := by unfold plZ; rw [List.length_map]; exact hfl i
    omega
  have hstep : ∀ i, i < n → plQ O L c s (i + 1) = if (L.getD i px0).c = c ∧ 0 < (L.getD i px0).a * s then putR (plQ O L c s i) (L.getD i px0).p c (netR (plQ O L c s i) (L.getD i px0).p c + (L.getD i px0).a) else plQ O L c s i := fun i hi => by
    show stL c (plZ (L.take (i + 1)) c s) O = _
    unfold plZ
    rw [fS_succ (by omega)]
    split
    · rw [List.map_append, List.map_singleton, stL_snoc]; rfl
    · rfl
  have hlst : plQ O L c s n = R := by
    show stL c (plZ (L.take n) c s) O = R
    rw [← hn, List.take_length]; exact hR
  have hsome : ∀ i, i < n → fS (L.take i) c s = [] → fS (L.take (i + 1)) c s = [] ∨ ((L.getD i px0).c = c ∧ 0 < (L.getD i px0).a * s) := fun i hi h => by
    rw [fS_succ (by omega), h]
    by_cases g : (L.getD i px0).c = c ∧ 0 < (L.getD i px0).a * s
    · exact .inr g
    · rw [if_neg g]; exact .inl rfl
  have hnil : fS (L.take n) c s ≠ [] := by
    rw [← hn, List.take_length]
    intro e
    have : fL L c s = 0 := by show (fS L c s).length = 0; rw [e]; rfl
    omega
  have hq0 : ∀ i, fS (L.take i) c s = [] → plQ O L c s i = O := fun i h => by
    show stL c (plZ (L.take i) c s) O = O
    unfold plZ
    rw [h]; rfl
  generalize hQd : (fun i => plQ O L c s i) = Q at *
  have hQi : ∀ i, plQ O L c s i = Q i := fun i => by rw [← hQd]
  simp only [hQi] at *
  have hr : ∀ i p, oldK (Q i) p (Q i).length = netR (Q i) p c := fun i p => oldK_net (hone i).d (hone i).c p
  have putc : ∀ (i : Nat), i < n → (L.getD i px0).c = c ∧ 0 < (L.getD i px0).a * s → FC Tryz.prog 2 32 [.sl 1 0 0 (Q i).length, .str ((pxOf L).p.getD i ⟨#[]⟩), .str c, .int .i64 (IntKind.i64.wrap (netR (Q i) ((pxOf L).p.getD i ⟨#[]⟩) c + (pxOf L).a.getD i 0))] [(1, some (.one true (pxB (Q i).length (pxOf (Q i)))))] (isOut (.sl 2 0 0 (Q (i + 1)).length) [(2, some (.one false (pxB (Q (i + 1)).length (pxOf (Q (i + 1))))))] 3) := fun i hi hg => by
    obtain ⟨b1, b2, b3⟩ := atP L i
    have h1 := hLd i
    have h2 := (hone i).b (L.getD i px0).p
    rw [b1, b2]
    have h3 := hstep i hi
    rw [if_pos hg] at h3
    rw [w64_in (by omega) (by omega), h3]
    exact ref40_put (Q i) _ rfl (by have := hlen i; omega) _ _ _ _ rfl
  subst hlst
  have hQ0 : Q 0 = O := hq0 0 rfl
  subst hQ0
  subst hm
  clear hR hQi hQd hO
  refine fc_of mixed T_ok Tryz.func45 rfl (by kernel_rfl) (by kernel_rfl) (by kernel_rfl) ?_
  repeat' ((conv => whnf); first | ((first | apply br_dec | apply br_ndec) <;> intro h <;> try (exfalso; (try dsimp only at h); omega)) | ((first | apply br_seq | apply br_nseq | apply br_not | apply br_intro) <;> intro h) | refine cond_a ?_)
  all_goals (conv => whnf)
  refine vloop_lp (fun x : Sum Nat Nat => match x with
    | .inl i => ⟨[(0, .sl 1 0 0 (Q 0).length), (1, .sl 2 0 0 n), (2, .str c), (3, .int .i64 s), (9, .int .i64 i)], ddH (Q 0).length n (Q 0) L, 3⟩
    | .inr i => ⟨[(0, .sl 3 0 0 (Q i).length), (1, .sl 2 0 0 n), (2, .str c), (3, .int .i64 s), (9, .int .i64 i)], ddH (Q 0).length n (Q 0) L ++ ppR (Q i), 4⟩) (fun x => match x with | .inl i => i ≤ n ∧ fS (L.take i) c s = [] | .inr i => i ≤ n) (fun x => match x with | .inl i => n - i | .inr i => n - i) (.inl 0) [0, 1, 2] [] ⟨rfl, ⟨rfl, rfl, rfl, rfl, rfl, trivial⟩, ⟨rfl, rfl, trivial⟩⟩ ⟨Nat.zero_le _, rfl⟩ ?_
  rintro (i | i) hi
  · dsimp only at hi ⊢
    obtain ⟨hi1, hnl1⟩ := hi
    have hi2 : i < n := by
      refine Nat.lt_of_le_of_ne hi1 fun e => ?_
      subst e
      exact hnil hnl1
    obtain ⟨b1, b2, b3⟩ := atP L i
    have hx := hLs i
    have hst := hstep i hi2
    have e1 : IntKind.i64.wrap ((pxOf L).a.getD i 0 * s) = (pxOf L).a.getD i 0 * s := by rw [b2]; exact w64_in (by omega) (by omega)
    by_cases g : (L.getD i px0).c = c ∧ 0 < (L.getD i px0).a * s
    case neg =>
      rw [if_neg g] at hst
      have hnl2 := (hsome i hi2 hnl1).resolve_right g
      rw [← b2, ← b3] at g
      repeat' ((conv => whnf); first | (simp only [e1]) | ((first | apply br_dec | apply br_ndec) <;> intro h <;> try (exfalso; (try dsimp only at h); omega)) | ((first | apply br_seq | apply br_nseq | apply br_not | apply br_intro) <;> intro h) | refine cond_a ?_)
      all_goals (conv => whnf)
      all_goals (try simp only [toNat0, Int.toNat_natCast, Nat.add_zero, e1] at *)
      all_goals first
        | exact ⟨.inl (i + 1), [0, 1, 2], [], ⟨hi2, hnl2⟩, (show n - (i + 1) < n - i by omega), ⟨rfl, ⟨rfl, rfl, rfl, rfl, congrArg (fun z => some (SV.int .i64 z)) (i64_succ (by omega)), trivial⟩, ⟨rfl, rfl, trivial⟩⟩⟩
        | (exfalso; first | omega | contradiction | exact g ⟨by assumption, by omega⟩)
        | trace_state
    have cP := putc i hi2 g
    have hrr := hr i ((pxOf L).p.getD i ⟨#[]⟩)
    rw [hq0 i hnl1] at cP hrr
    rw [← b2, ← b3] at g
    have g1 := g.1
    have hlQ := hlen i
    repeat' ((conv => whnf); first | (simp only [e1]) | ((first | apply br_dec | apply br_ndec) <;> intro h <;> try (exfalso; (try dsimp only at h); omega)) | ((first | apply br_seq | apply br_nseq | apply br_not | apply br_intro) <;> intro h) | refine cond_a ?_)
    all_goals (conv => whnf)
    all_goals (try simp only [toNat0, Int.toNat_natCast, Nat.add_zero, e1] at *)
    all_goals first
      | (exfalso; first | omega | contradiction | exact absurd g1.symm (by assumption))
      | skip
    all_goals refine vloop_lp (fun k : Nat => ⟨[(0, .sl 1 0 0 (Q 0).length), (1, .sl 2 0 0 n), (2, .str c), (3, .int .i64 s), (9, .int .i64 i), (10, .int .i64 (oldK (Q 0) ((pxOf L).p.getD i ⟨#[]⟩) k)), (11, .int .i64 k)], ddH (Q 0).length n (Q 0) L, 3⟩) (fun k => k ≤ (Q 0).length) (fun k => (Q 0).length - k) 0 [0, 1, 2] [] ⟨rfl, ⟨rfl, rfl, rfl, rfl, rfl, rfl, rfl, trivial⟩, ⟨rfl, rfl, trivial⟩⟩ (Nat.zero_le _) ?_
    all_goals intro k hk
    all_goals by_cases hk2 : k < (Q 0).length
    · obtain ⟨d1, d2, d3⟩ := atP (Q 0) k
      have hst2 : oldK (Q 0) ((pxOf L).p.getD i ⟨#[]⟩) (k + 1) = if ((Q 0).getD k px0).p = (pxOf L).p.getD i ⟨#[]⟩ then ((Q 0).getD k px0).a else oldK (Q 0) ((pxOf L).p.getD i ⟨#[]⟩) k := rfl
      by_cases gg : ((Q 0).getD k px0).p = (pxOf L).p.getD i ⟨#[]⟩
      · rw [if_pos gg] at hst2
        have es : some (SV.int .i64 ((pxOf (Q 0)).a.getD k 0)) = some (SV.int .i64 (oldK (Q 0) ((pxOf L).p.getD i ⟨#[]⟩) (k + 1))) := by rw [hst2, d2]
        rw [← d1] at gg
        repeat' ((conv => whnf); first | ((first | apply br_dec | apply br_ndec) <;> intro h <;> try (exfalso; (try dsimp only at h); omega)) | ((first | apply br_seq | apply br_nseq | apply br_not | apply br_intro) <;> intro h) | refine cond_a ?_)
        all_goals (conv => whnf)
        all_goals (try simp only [toNat0, Int.toNat_natCast, Nat.add_zero] at *)
        all_goals first
          | exact ⟨k + 1, [0, 1, 2], [], hk2, (show (Q 0).length - (k + 1) < (Q 0).length - k by omega), ⟨rfl, ⟨rfl, rfl, rfl, rfl, rfl, es, congrArg (fun z => some (SV.int .i64 z)) (i64_succ (by omega)), trivial⟩, ⟨rfl, rfl, trivial⟩⟩⟩
          | (exfalso; first | omega | contradiction | exact absurd gg.symm (by assumption))
          | trace_state
      · rw [if_neg gg] at hst2
        have es : some (SV.int .i64 (oldK (Q 0) ((pxOf L).p.getD i ⟨#[]⟩) k)) = some (SV.int .i64 (oldK (Q 0) ((pxOf L).p.getD i ⟨#[]⟩) (k + 1))) := by rw [hst2]
        rw [← d1] at gg
        repeat' ((conv => whnf); first | ((first | apply br_dec | apply br_ndec) <;> intro h <;> try (exfalso; (try dsimp only at h); omega)) | ((first | apply br_seq | apply br_nseq | apply br_not | apply br_intro) <;> intro h) | refine cond_a ?_)
        all_goals (conv => whnf)
        all_goals (try simp only [toNat0, Int.toNat_natCast, Nat.add_zero] at *)
        all_goals first
          | exact ⟨k + 1, [0, 1, 2], [], hk2, (show (Q 0).length - (k + 1) < (Q 0).length - k by omega), ⟨rfl, ⟨rfl, rfl, rfl, rfl, rfl, es, congrArg (fun z => some (SV.int .i64 z)) (i64_succ (by omega)), trivial⟩, ⟨rfl, rfl, trivial⟩⟩⟩
          | (exfalso; first | omega | contradiction | exact gg ((by assumption : _ = _).symm))
          | trace_state
    · have ek : k = (Q 0).length := by omega
      rw [ek, hrr]
      repeat' ((conv => whnf); first | refine vcall_o (l := [0, 1]) (cP) ?_ | refine vcallD_o (l := [0, 1]) (cP) ?_ | ((first | apply br_dec | apply br_ndec) <;> intro h <;> try (exfalso; (try dsimp only at h); omega)) | ((first | apply br_seq | apply br_nseq | apply br_not | apply br_intro) <;> intro h) | refine cond_a ?_)
      all_goals (conv => whnf)
      all_goals (try simp only [toNat0, Int.toNat_natCast, Nat.add_zero] at *)
      all_goals first
        | exact ⟨.inr (i + 1), [0, 1, 2, 3], [], hi2, (show n - (i + 1) < n - i by omega), ⟨rfl, ⟨rfl, rfl, rfl, rfl, congrArg (fun z => some (SV.int .i64 z)) (i64_succ (by omega)), trivial⟩, ⟨rfl, rfl, rfl, trivial⟩⟩⟩
        | (exfalso; first | omega | contradiction)
        | trace_state
  · dsimp only at hi ⊢
    by_cases hi2 : i < n
    case neg =>
      have ei : n = i := by omega
      subst ei
      repeat' ((conv => whnf); first | ((first | apply br_dec | apply br_ndec) <;> intro h <;> try (exfalso; (try dsimp only at h); omega)) | ((first | apply br_seq | apply br_nseq | apply br_not | apply br_intro) <;> intro h) | refine cond_a ?_)
      all_goals (conv => whnf)
      all_goals first
        | exact ret_out (l := [0, 1, 2, 3]) rfl rfl ⟨rfl, trivial⟩ (allRw_cons allRw_nil)
        | (exfalso; omega)
        | trace_state
    obtain ⟨b1, b2, b3⟩ := atP L i
    have hx := hLs i
    have hst := hstep i hi2
    have e1 : IntKind.i64.wrap ((pxOf L).a.getD i 0 * s) = (pxOf L).a.getD i 0 * s := by rw [b2]; exact w64_in (by omega) (by omega)
    by_cases g : (L.getD i px0).c = c ∧ 0 < (L.getD i px0).a * s
    case neg =>
      rw [if_neg g] at hst
      have rQ : (some (HB.one false (pxB (Q i).length (pxOf (Q i)))) : Option HB) = some (.one false (pxB (Q (i + 1)).length (pxOf (Q (i + 1))))) := by rw [hst]
      have rL : some (SV.sl 3 0 0 (Q i).length) = some (SV.sl 3 0 0 (Q (i + 1)).length) := by rw [hst]
      rw [← b2, ← b3] at g
      repeat' ((conv => whnf); first | (simp only [e1]) | ((first | apply br_dec | apply br_ndec) <;> intro h <;> try (exfalso; (try dsimp only at h); omega)) | ((first | apply br_seq | apply br_nseq | apply br_not | apply br_intro) <;> intro h) | refine cond_a ?_)
      all_goals (conv => whnf)
      all_goals (try simp only [toNat0, Int.toNat_natCast, Nat.add_zero, e1] at *)
      all_goals first
        | exact ⟨.inr (i + 1), [0, 1, 2, 3], [], hi2, (show n - (i + 1) < n - i by omega), ⟨rfl, ⟨rL, rfl, rfl, rfl, congrArg (fun z => some (SV.int .i64 z)) (i64_succ (by omega)), trivial⟩, ⟨rfl, rfl, rQ, trivial⟩⟩⟩
        | (exfalso; first | omega | contradiction | exact g ⟨by assumption, by omega⟩)
        | trace_state
    have cP := putc i hi2 g
    have hrr := hr i ((pxOf L).p.getD i ⟨#[]⟩)
    rw [← b2, ← b3] at g
    have g1 := g.1
    have hlQ := hlen i
    repeat' ((conv => whnf); first | (simp only [e1]) | ((first | apply br_dec | apply br_ndec) <;> intro h <;> try (exfalso; (try dsimp only at h); omega)) | ((first | apply br_seq | apply br_nseq | apply br_not | apply br_intro) <;> intro h) | refine cond_a ?_)
    all_goals (conv => whnf)
    all_goals (try simp only [toNat0, Int.toNat_natCast, Nat.add_zero, e1] at *)
    all_goals first
      | (exfalso; first | omega | contradiction | exact absurd g1.symm (by assumption))
      | skip
    all_goals refine vloop_lp (fun k : Nat => ⟨[(0, .sl 3 0 0 (Q i).length), (1, .sl 2 0 0 n), (2, .str c), (3, .int .i64 s), (9, .int .i64 i), (10, .int .i64 (oldK (Q i) ((pxOf L).p.getD i ⟨#[]⟩) k)), (11, .int .i64 k)], ddH (Q 0).length n (Q 0) L ++ ppR (Q i), 4⟩) (fun k => k ≤ (Q i).length) (fun k => (Q i).length - k) 0 [0, 1, 2, 3] [] ⟨rfl, ⟨rfl, rfl, rfl, rfl, rfl, rfl, rfl, trivial⟩, ⟨rfl, rfl, rfl, trivial⟩⟩ (Nat.zero_le _) ?_
    all_goals intro k hk
    all_goals by_cases hk2 : k < (Q i).length
    · obtain ⟨d1, d2, d3⟩ := atP (Q i) k
      have hst2 : oldK (Q i) ((pxOf L).p.getD i ⟨#[]⟩) (k + 1) = if ((Q i).getD k px0).p = (pxOf L).p.getD i ⟨#[]⟩ then ((Q i).getD k px0).a else oldK (Q i) ((pxOf L).p.getD i ⟨#[]⟩) k := rfl
      by_cases gg : ((Q i).getD k px0).p = (pxOf L).p.getD i ⟨#[]⟩
      · rw [if_pos gg] at hst2
        have es : some (SV.int .i64 ((pxOf (Q i)).a.getD k 0)) = some (SV.int .i64 (oldK (Q i) ((pxOf L).p.getD i ⟨#[]⟩) (k + 1))) := by rw [hst2, d2]
        rw [← d1] at gg
        repeat' ((conv => whnf); first | ((first | apply br_dec | apply br_ndec) <;> intro h <;> try (exfalso; (try dsimp only at h); omega)) | ((first | apply br_seq | apply br_nseq | apply br_not | apply br_intro) <;> intro h) | refine cond_a ?_)
        all_goals (conv => whnf)
        all_goals (try simp only [toNat0, Int.toNat_natCast, Nat.add_zero] at *)
        all_goals first
          | exact ⟨k + 1, [0, 1, 2, 3], [], hk2, (show (Q i).length - (k + 1) < (Q i).length - k by omega), ⟨rfl, ⟨rfl, rfl, rfl, rfl, rfl, es, congrArg (fun z => some (SV.int .i64 z)) (i64_succ (by omega)), trivial⟩, ⟨rfl, rfl, rfl, trivial⟩⟩⟩
          | (exfalso; first | omega | contradiction | exact absurd gg.symm (by assumption))
          | trace_state
      · rw [if_neg gg] at hst2
        have es : some (SV.int .i64 (oldK (Q i) ((pxOf L).p.getD i ⟨#[]⟩) k)) = some (SV.int .i64 (oldK (Q i) ((pxOf L).p.getD i ⟨#[]⟩) (k + 1))) := by rw [hst2]
        rw [← d1] at gg
        repeat' ((conv => whnf); first | ((first | apply br_dec | apply br_ndec) <;> intro h <;> try (exfalso; (try dsimp only at h); omega)) | ((first | apply br_seq | apply br_nseq | apply br_not | apply br_intro) <;> intro h) | refine cond_a ?_)
        all_goals (conv => whnf)
        all_goals (try simp only [toNat0, Int.toNat_natCast, Nat.add_zero] at *)
        all_goals first
          | exact ⟨k + 1, [0, 1, 2, 3], [], hk2, (show (Q i).length - (k + 1) < (Q i).length - k by omega), ⟨rfl, ⟨rfl, rfl, rfl, rfl, rfl, es, congrArg (fun z => some (SV.int .i64 z)) (i64_succ (by omega)), trivial⟩, ⟨rfl, rfl, rfl, trivial⟩⟩⟩
          | (exfalso; first | omega | contradiction | exact gg ((by assumption : _ = _).symm))
          | trace_state
    · have ek : k = (Q i).length := by omega
      rw [ek, hrr]
      repeat' ((conv => whnf); first | refine vcall_o (l := [0, 3]) (cP) ?_ | refine vcallD_o (l := [0, 3]) (cP) ?_ | ((first | apply br_dec | apply br_ndec) <;> intro h <;> try (exfalso; (try dsimp only at h); omega)) | ((first | apply br_seq | apply br_nseq | apply br_not | apply br_intro) <;> intro h) | refine cond_a ?_)
      all_goals (conv => whnf)
      all_goals (try simp only [toNat0, Int.toNat_natCast, Nat.add_zero] at *)
      all_goals first
        | exact ⟨.inr (i + 1), [0, 1, 2, 4], [], hi2, (show n - (i + 1) < n - i by omega), ⟨rfl, ⟨rfl, rfl, rfl, rfl, congrArg (fun z => some (SV.int .i64 z)) (i64_succ (by omega)), trivial⟩, ⟨rfl, rfl, rfl, trivial⟩⟩⟩
        | (exfalso; first | omega | contradiction)
        | trace_state
end Go.Proofs.YtkbidlijinclcaaGreatDoor

/- Plain facts: the reference's conversion adds the rows that the program adds. No program in sight. -/
namespace Go.Proofs.YtkbidlijinclcaaGreatDoor
open Go.RowKit Go.Sy
set_option linter.unusedVariables false
set_option linter.unusedSimpArgs false

theorem map_getDD {α β : Type} (f : α → β) (l : List α) (d : β) (d' : α) {k : Nat} (hk : k < l.length) : (l.map f).getD k d = f (l.getD k d') := by
  rw [List.getD, List.getElem?_map, List.getElem?_eq_getElem hk, List.getD, List.getElem?_eq_getElem hk]; rfl
theorem row16 {b : Bk} {B : Int} (h : BkI b B) (c : ByteArray) (s : Int) : plK (b.row c) s 16 = plK (b.row c) s b.n ∧ wtK (b.row c) s 16 = wtK (b.row c) s b.n := by
  have hn := h.n16
  have hp := plK_more (s := s) (h.rt c) (16 - b.n)
  rwa [show b.n + (16 - b.n) = 16 by omega] at hp
theorem fW_eq {b : Bk} {B : Int} (h : BkI b B) {c : ByteArray} (hc : c ∈ b.cs) (s : Int) : fW b.list c s = wtK (b.row c) s 16 ∧ fL b.list c s = dvN (b.row c) s := by
  have e := fS_list h hc s
  have ew := wt_map (b.row c) s 16
  refine ⟨?_, ?_⟩
  · show (fS b.list c s).map (fun x => x.a * s) = _
    rw [e, List.map_map, ew]; rfl
  · show (fS b.list c s).length = (wtK (b.row c) s 16).length
    rw [e, List.length_map, pl_len]
theorem diE_eq {b : Bk} {B : Int} (h : BkI b B) {c : ByteArray} (hc : c ∈ b.cs) (A : Nat) (t : ByteArray) (s : Int) : diE A b.list c t s = dvE A t (b.row c) s := by
  obtain ⟨e1, e2⟩ := fW_eq h hc s
  unfold diE dvE
  rw [e1, e2]
theorem fL16 {b : Bk} {B : Int} (h : BkI b B) {c : ByteArray} (hc : c ∈ b.cs) (s : Int) : fL b.list c s ≤ 16 := by rw [(fW_eq h hc s).2]; exact wt_len _ _ 16
theorem pl_facts {b : Bk} {B : Int} (h : BkI b B) (hnd : b.ps.Nodup) (c : ByteArray) (s : Int) : (∀ i, i < (plK (b.row c) s 16).length → ((plK (b.row c) s 16).getD i 0).toNat < b.n) ∧ (∀ i k, i < k → k < (plK (b.row c) s 16).length → ((plK (b.row c) s 16).getD i 0).toNat ≠ ((plK (b.row c) s 16).getD k 0).toNat) ∧ ∀ j, j < b.n → sidx b.ps (b.ps.getD j ⟨#[]⟩) = j := by
  rw [(row16 h c s).1]
  refine ⟨fun i hi => ?_, fun i k hik hk => ?_, fun j hj => ?_⟩
  · have := pl_bd (b.row c) s b.n i hi; omega
  · have h1 := pl_bd (b.row c) s b.n i (by omega)
    have h2 := pl_bd (b.row c) s b.n k hk
    have h3 := pl_asc (b.row c) s b.n i k hik hk
    omega
  · exact Go.Sy.sidx_of_get hnd (by rw [List.getD, List.getElem?_eq_getElem (by rw [h.psl]; exact hj)]; rfl)
/-- A division among the positions of a sign. -/
theorem rel_divide {b : Bk} {B : Int} (h : BkI b B) (hnd : b.ps.Nodup) {c : ByteArray} (hc : c ∈ b.cs) {t : ByteArray} {O : List Px} {f : Nat → Int} (hd : Dist O) (hr : RelS b t O f) (A : Nat) (s : Int) : RelS b t (stL t (dvZ A b.list c s) O) (fun j => f j + (dvR z16 A (b.row c) s).getD j 0) := by
  obtain ⟨p1, p2, p3⟩ := pl_facts h hnd c s
  have hn := h.n16
  have e := fS_list h hc s
  obtain ⟨e1, e2⟩ := fW_eq h hc s
  have hpl : (plK (b.row c) s 16).length = fL b.list c s := by rw [e2]; exact pl_len _ _ _
  have hwho : ∀ k, k < fL b.list c s → (fN b.list c s).getD k ⟨#[]⟩ = b.ps.getD ((plK (b.row c) s 16).getD k 0).toNat ⟨#[]⟩ := fun k hk => by
    show ((fS b.list c s).map Px.p).getD k ⟨#[]⟩ = _
    rw [e, List.map_map, map_getDD _ _ _ 0 (by omega)]; rfl
  have hz : ∀ z ∈ dvZ A b.list c s, sidx b.ps z.1 < b.n := fun z hz => by
    obtain ⟨k, hk, rfl⟩ := zdK_mem hz
    dsimp only
    rw [hwho k hk, p3 _ (p1 k (by omega))]
    exact p1 k (by omega)
  have h1 := stL_rel h.psl (dvZ A b.list c s) hd hz hr
  have h2 : ∀ j, gZ b.ps (dvZ A b.list c s) j = (dvR z16 A (b.row c) s).getD j 0 := fun j => by
    have hg := gZ_dv (ps := b.ps) (pl := plK (b.row c) s 16) (P := dvP A b.list c s) (s := s) (N := fL b.list c s) hpl (fun i hi => by have := p1 i (by omega); omega) (fun i k hik hk => p2 i k hik (by omega)) (fun k => zdK (fN b.list c s) (dvP A b.list c s) s k) rfl (fun k hk => by simp only [zdK]; rw [hwho k hk]) (fun k hk => p3 _ (p1 k (by omega))) j (fL b.list c s) (Nat.le_refl _)
    show gZ b.ps (zdK (fN b.list c s) (dvP A b.list c s) s (fL b.list c s)) j = _
    rw [hg]
    unfold dvR
    show (dvK z16 (plK (b.row c) s 16) (spP A (fW b.list c s) (fL b.list c s)) s (fL b.list c s)).getD j 0 = _
    rw [e1, e2]
  intro p
  have h3 := h1 p
  dsimp only at h3
  rw [h2] at h3
  exact h3
theorem dvR_two {r : List Int} {A : Nat} {n : Nat} (hr : ∀ i, i < (plK r (-1) 16).length → ((plK r (-1) 16).getD i 0).toNat < 16) (j : Nat) : (dvR (dvR z16 A r 1) A r (-1)).getD j 0 = (dvR z16 A r 1).getD j 0 + (dvR z16 A r (-1)).getD j 0 := by
  have hpl : (plK r (-1) 16).length = dvN r (-1) := pl_len _ _ _
  have h := dvK_z (row := dvR z16 A r 1) (pl := plK r (-1) 16) (P := spP A (wtK r (-1) 16) (dvN r (-1))) (s := -1) (j := j) (by rw [dvR_len]; rfl) hr (fun i hi => by
    have h1 := pl_pos r (-1) 16 i hi
    rw [dvR_get (by omega), z16_get]) (fun i k hik hk => by
    have h2 := pl_asc r (-1) 16 i k hik hk
    have h3 := pl_bd r (-1) 16 i (by omega)
    omega) (dvN r (-1)) (by rw [hpl]; exact Nat.le_refl _)
  exact h
theorem gZ_pl {ps : List ByteArray} {n : Nat} {r : List Int} {s : Int} (hi : ∀ j, j < n → sidx ps (ps.getD j ⟨#[]⟩) = j) (j : Nat) : ∀ k, k ≤ n → gZ ps ((plK r s k).map (fun i => (ps.getD i.toNat ⟨#[]⟩, r.getD i.toNat 0))) j = if j < k ∧ 0 < r.getD j 0 * s then r.getD j 0 else 0
  | 0, _ => by rw [if_neg (by omega)]; rfl
  | k + 1, hk => by
    have ih := gZ_pl (r := r) (s := s) hi j k (by omega)
    simp only [plK]
    by_cases q : 0 < r.getD k 0 * s
    · rw [if_pos q, List.map_append, List.map_singleton]
      unfold gZ at ih ⊢
      rw [List.map_append, List.sum_append, ih, List.map_singleton, List.sum_singleton]
      dsimp only
      rw [Int.toNat_natCast, hi k (by omega)]
      by_cases e : k = j
      · subst e
        rw [if_neg (by omega), if_pos rfl, if_pos ⟨by omega, q⟩]; omega
      · rw [if_neg e]
        by_cases w : j < k ∧ 0 < r.getD j 0 * s
        · rw [if_pos w, if_pos ⟨by omega, w.2⟩]; omega
        · rw [if_neg w, if_neg (fun z => w ⟨by omega, z.2⟩)]; rfl
    · rw [if_neg q, ih]
      by_cases w : j < k ∧ 0 < r.getD j 0 * s
      · rw [if_pos w, if_pos ⟨by omega, w.2⟩]
      · rw [if_neg w, if_neg]
        rintro ⟨z1, z2⟩
        by_cases e : k = j
        · subst e; exact q z2
        · exact w ⟨by omega, z2⟩
theorem rel_plain {b : Bk} {B : Int} (h : BkI b B) (hnd : b.ps.Nodup) {c : ByteArray} (hc : c ∈ b.cs) {t : ByteArray} {O : List Px} {f : Nat → Int} (hd : Dist O) (hr : RelS b t O f) (s : Int) : RelS b t (stL t (plZ b.list c s) O) (fun j => f j + (if j < b.n ∧ 0 < (b.row c).getD j 0 * s then (b.row c).getD j 0 else 0)) := by
  obtain ⟨p1, p2, p3⟩ := pl_facts h hnd c s
  have e := fS_list h hc s
  have hZ : plZ b.list c s = (plK (b.row c) s b.n).map (fun i => (b.ps.getD i.toNat ⟨#[]⟩, (b.row c).getD i.toNat 0)) := by
    unfold plZ
    rw [e, List.map_map, (row16 h c s).1]; rfl
  have hz : ∀ z ∈ plZ b.list c s, sidx b.ps z.1 < b.n := fun z hz => by
    rw [hZ] at hz
    obtain ⟨i, hi, rfl⟩ := List.mem_map.1 hz
    obtain ⟨k, hk, rfl⟩ := List.getElem_of_mem hi
    have := pl_bd (b.row c) s b.n k hk
    rw [List.getD, List.getElem?_eq_getElem hk] at this
    simp only [Option.getD_some] at this
    dsimp only
    rw [p3 _ (by omega)]; omega
  have h1 := stL_rel h.psl (plZ b.list c s) hd hz hr
  intro p
  have h3 := h1 p
  dsimp only at h3
  rw [hZ, gZ_pl p3 _ b.n (Nat.le_refl _), ← hZ] at h3
  exact h3
theorem toK_sum (L : List Px) (c : ByteArray) : ∀ k, k ≤ L.length → toK L c k = ((fS (L.take k) c 1).map Px.a).sum
  | 0, _ => rfl
  | k + 1, hk => by
    have ih := toK_sum L c k (by omega)
    simp only [toK]
    rw [fS_succ hk]
    by_cases g : (L.getD k px0).c = c ∧ 0 < (L.getD k px0).a
    · rw [if_pos g, if_pos ⟨g.1, by have := g.2; omega⟩, List.map_append, List.sum_append, ih]
      simp
    · rw [if_neg g, if_neg (fun q => g ⟨q.1, by have := q.2; omega⟩), ih]
theorem totK_sum (r : List Int) : ∀ n, totK r n = ((plK r 1 n).map (fun j => r.getD j.toNat 0)).sum
  | 0 => rfl
  | n + 1 => by
    have ih := totK_sum r n
    simp only [totK, plK]
    by_cases q : 0 < r.getD n 0
    · rw [if_pos q, if_pos (by omega), List.map_append, List.sum_append, ih]
      simp
    · rw [if_neg q, if_neg (by omega), ih]
theorem tot_eq {b : Bk} {B : Int} (h : BkI b B) {c : ByteArray} (hc : c ∈ b.cs) : toK b.list c b.list.length = totK (b.row c) 16 := by
  rw [toK_sum _ _ _ (Nat.le_refl _), List.take_length, fS_list h hc 1, totK_sum, List.map_map]; rfl
/-- A row has a position of each sign. -/
theorem sign_some {r : List Int} {s : Int} : ∀ n, 1 ≤ (plK r s n).length ∨ ∀ j, j < n → ¬ 0 < r.getD j 0 * s
  | 0 => .inr fun j hj => by omega
  | n + 1 => by
    simp only [plK]
    by_cases q : 0 < r.getD n 0 * s
    · rw [if_pos q]; exact .inl (by rw [List.length_append, List.length_singleton]; omega)
    · rw [if_neg q]
      rcases sign_some (r := r) (s := s) n with h | h
      · exact .inl h
      · refine .inr fun j hj => ?_
        by_cases e : j = n
        · subst e; exact q
        · exact h j (by omega)
theorem sum_sign {l : List Int} (h : ∀ j, 0 ≤ l.getD j 0) (hs : l.sum = 0) : ∀ j, l.getD j 0 = 0 := by
  induction l with
  | nil => intro j; rfl
  | cons x l ih =>
    have h0 : 0 ≤ x := h 0
    have hl : ∀ j, 0 ≤ l.getD j 0 := fun j => by have := h (j + 1); rwa [List.getD_cons_succ] at this
    have hsum : 0 ≤ l.sum := by
      clear ih hs h
      induction l with
      | nil => exact Int.le_refl _
      | cons y l ih2 =>
        have := hl 0
        have h2 := ih2 (fun j => by have := hl (j + 1); rwa [List.getD_cons_succ] at this)
        rw [List.sum_cons]
        rw [List.getD_cons_zero] at this
        omega
    rw [List.sum_cons] at hs
    intro j
    cases j with
    | zero => rw [List.getD_cons_zero]; omega
    | succ j => rw [List.getD_cons_succ]; exact ih hl (by omega) j
theorem sum_neg (l : List Int) : (l.map (fun x => -x)).sum = -l.sum := by
  induction l with
  | nil => rfl
  | cons x l ih => rw [List.map_cons, List.sum_cons, List.sum_cons, ih]; omega
theorem neg_get (l : List Int) (j : Nat) : (l.map (fun x => -x)).getD j 0 = -l.getD j 0 := by
  simp only [List.getD, List.getElem?_map]
  cases l[j]? <;> simp
theorem fL_pos {b : Bk} {B : Int} (h : BkI b B) {c : ByteArray} (hc : c ∈ b.cs) {s : Int} (hs : s = 1 ∨ s = -1) : 1 ≤ fL b.list c s := by
  have e : fL b.list c s = (plK (b.row c) s 16).length := by show (fS b.list c s).length = _; rw [fS_list h hc s, List.length_map]
  rw [e]
  rcases sign_some (r := b.row c) (s := s) 16 with q | q
  · exact q
  · exfalso
    have hl := h.rl c
    have hz : ∀ j, (b.row c).getD j 0 = 0 := by
      have hnn : ∀ j, ¬ 0 < (b.row c).getD j 0 * s := fun j => by
        by_cases w : j < 16
        · exact q j w
        · rw [List.getD, List.getElem?_eq_none (by omega)]; simp
      rcases hs with e | e
      · subst e
        have h2 := sum_sign (l := (b.row c).map (fun x => -x)) (fun j => by rw [neg_get]; have := hnn j; omega) (by rw [sum_neg, h.rs c]; rfl)
        intro j
        have := h2 j
        rw [neg_get] at this; omega
      · subst e
        exact sum_sign (fun j => by have := hnn j; omega) (h.rs c)
    exact h.nz c hc (getD_ext hl rfl fun j => by rw [hz j, z16_get])
/-- All that is written out of the sums: within the limits, and in order. -/
theorem rel_fit {b : Bk} {t : ByteArray} {O : List Px} {S : List Int} {B : Int} (h : BkI b B) (hnd : b.ps.Nodup) (hd : Dist O) (hc : ∀ x ∈ O, x.c = t) (hr : RelS b t O (fun j => S.getD j 0)) : (∀ x ∈ O, fitB x.a = true) ↔ fitK S b.n = true := by
  have hk : ∀ n, fitK S n = true ↔ ∀ j, j < n → fitB (S.getD j 0) = true := by
    intro n
    induction n with
    | zero => simp [fitK]
    | succ n ih =>
      simp only [fitK, Bool.and_eq_true, ih]
      constructor
      · rintro ⟨h1, h2⟩ j hj
        by_cases e : j = n
        · subst e; exact h2
        · exact h1 j (by omega)
      · intro h1; exact ⟨fun j hj => h1 j (by omega), h1 n (by omega)⟩
  rw [hk]
  constructor
  · intro hf j hj
    have hp := Go.Sy.sidx_of_get (s := b.ps.getD j ⟨#[]⟩) hnd (show b.ps[j]? = some (b.ps.getD j ⟨#[]⟩) by rw [List.getD, List.getElem?_eq_getElem (by rw [h.psl]; exact hj)]; rfl)
    have h1 := hr (b.ps.getD j ⟨#[]⟩)
    rw [hp, if_pos hj] at h1
    rcases netR_cases O (b.ps.getD j ⟨#[]⟩) t with ⟨x, hx, e1, e2⟩ | q
    · have h2 := netR_mem hd hx
      rw [e1, e2, h1] at h2
      dsimp only at h2
      rw [h2]; exact hf x hx
    · rw [netR_no q] at h1
      dsimp only at h1
      rw [← h1]; decide
  · intro hf x hx
    have h2 := netR_mem hd hx
    rw [hc x hx, hr x.p] at h2
    split at h2
    · rename_i w
      dsimp only at h2
      rw [← h2]; exact hf _ w
    · rw [← h2]; decide
theorem rel_sort {b : Bk} {t : ByteArray} {O : List Px} {S : List Int} {B : Int} (h : BkI b B) (hps : b.ps.Pairwise (fun a b => strLt a b = true)) (hd : Dist O) (hc : ∀ x ∈ O, x.c = t) (hr : RelS b t O (fun j => S.getD j 0)) : srt (nz O) = liR S b.ps t b.n ∧ (nz O).length = (liR S b.ps t b.n).length := by
  have hnd : b.ps.Nodup := hps.imp (fun {a b} h e => by subst e; rw [strLt_irrefl] at h; cases h)
  have hpl : ∀ i j, i < j → j < b.n → strLt (b.ps.getD i ⟨#[]⟩) (b.ps.getD j ⟨#[]⟩) = true := by
    intro i j hij hj
    have := List.pairwise_iff_getElem.1 hps i j (by rw [h.psl]; omega) (by rw [h.psl]; exact hj) hij
    rw [List.getD, List.getD, List.getElem?_eq_getElem (by rw [h.psl]; omega), List.getElem?_eq_getElem (by rw [h.psl]; exact hj)]; exact this
  have ha : Asc (liR S b.ps t b.n) := (liR_asc (r := S) (c := t) hpl b.n (Nat.le_refl _)).imp_of_mem fun {x y} hx hy q => plt_iff.2 (.inr ⟨by rw [(liR_mem _ _ hx).1, (liR_mem _ _ hy).1], q⟩)
  have nd1 : (liR S b.ps t b.n).Nodup := ha.imp (fun {a b} h e => by subst e; rw [plt_irrefl] at h; cases h)
  have nd2 : (nz O).Nodup := (hd.imp (fun {a b} h e => h (by subst e; exact ⟨rfl, rfl⟩))).sublist List.filter_sublist
  have hR : ∀ (n : Nat) (x : Px), x ∈ liR S b.ps t n ↔ x.c = t ∧ x.a ≠ 0 ∧ ∃ j, j < n ∧ x.p = b.ps.getD j ⟨#[]⟩ ∧ x.a = S.getD j 0 := by
    intro n x
    refine ⟨liR_mem n x, ?_⟩
    rintro ⟨h1, h2, j, hj, h3, h4⟩
    induction n with
    | zero => omega
    | succ n ih =>
      simp only [liR]
      by_cases e : j = n
      · subst e
        rw [if_neg (by rw [← h4]; exact h2)]
        refine List.mem_append_right _ (List.mem_singleton.2 ?_)
        rw [← h3, ← h4, ← h1]
      · split
        · exact ih (by omega)
        · exact List.mem_append_left _ (ih (by omega))
  have hp : (liR S b.ps t b.n).Perm (nz O) := (List.perm_ext_iff_of_nodup nd1 nd2).2 fun x => by
    rw [hR]
    unfold nz
    rw [List.mem_filter, decide_eq_true_eq]
    constructor
    · rintro ⟨h1, h2, j, hj, h3, h4⟩
      refine ⟨?_, h2⟩
      have hsx := Go.Sy.sidx_of_get (s := x.p) hnd (show b.ps[j]? = some x.p by rw [h3, List.getD, List.getElem?_eq_getElem (by rw [h.psl]; exact hj)]; rfl)
      have h5 := hr x.p
      rw [hsx, if_pos hj] at h5
      dsimp only at h5
      rw [← h4] at h5
      rcases netR_cases O x.p t with ⟨y, hy, e1, e2⟩ | q
      · have h6 := netR_mem hd hy
        rw [e1, e2, h5] at h6
        have e : x = y := by cases x; cases y; simp_all
        rw [e]; exact hy
      · rw [netR_no q] at h5; exact absurd h5.symm h2
    · rintro ⟨h1, h2⟩
      have h3 := netR_mem hd h1
      rw [hc x h1, hr x.p] at h3
      split at h3
      · rename_i w
        dsimp only at h3
        exact ⟨hc x h1, h2, _, w, (sidx_at b.ps (by rw [h.psl]; exact w)).symm, h3.symm⟩
      · exact absurd h3.symm h2
  exact ⟨srt_of hp ha, hp.length_eq.symm⟩
end Go.Proofs.YtkbidlijinclcaaGreatDoor

/- Contract: the reference converts positions. -/
namespace Go.Proofs.YtkbidlijinclcaaGreatDoor
open Go.RowKit Go.Sy
attribute [local irreducible] vcall vloop vcallD retP
set_option maxRecDepth 100000
set_option linter.unusedVariables false
set_option linter.unusedSimpArgs false

theorem ref27_IsCurrency (s : ByteArray) : Pure Tryz.prog 40 [.str s] (.bool (curB s)) := by
  by_cases h3 : s.size = 3
  case neg =>
    rw [curB_size h3]
    refine fc_of mixed T_ok Tryz.func40 rfl (by kernel_rfl) (by kernel_rfl) (by kernel_rfl) ?_
    repeat' ((conv => whnf); first | ((first | apply br_dec | apply br_ndec) <;> intro h <;> try (exfalso; (try dsimp only at h); omega)) | ((first | apply br_seq | apply br_nseq | apply br_not | apply br_intro) <;> intro h) | refine cond_a ?_)
    all_goals (conv => whnf)
    all_goals first
      | exact ret_pure rfl
      | (exfalso; omega)
      | trace_state
  by_cases k0 : 65 ≤ byteAt s 0 ∧ byteAt s 0 ≤ 90
  case neg =>
    rw [curB_false (k := 0) (by omega) (by show byteAt s 0 < 65 ∨ 90 < byteAt s 0; omega)]
    refine fc_of mixed T_ok Tryz.func40 rfl (by kernel_rfl) (by kernel_rfl) (by kernel_rfl) ?_
    repeat' ((conv => whnf); first | ((first | apply br_dec | apply br_ndec) <;> intro h <;> try (exfalso; (try dsimp only at h); omega)) | ((first | apply br_seq | apply br_nseq | apply br_not | apply br_intro) <;> intro h) | refine cond_a ?_)
    all_goals (conv => whnf)
    all_goals first
      | exact ret_pure rfl
      | (exfalso; omega)
      | trace_state
  by_cases k1 : 65 ≤ byteAt s 1 ∧ byteAt s 1 ≤ 90
  case neg =>
    rw [curB_false (k := 1) (by omega) (by show byteAt s 1 < 65 ∨ 90 < byteAt s 1; omega)]
    refine fc_of mixed T_ok Tryz.func40 rfl (by kernel_rfl) (by kernel_rfl) (by kernel_rfl) ?_
    repeat' ((conv => whnf); first | ((first | apply br_dec | apply br_ndec) <;> intro h <;> try (exfalso; (try dsimp only at h); omega)) | ((first | apply br_seq | apply br_nseq | apply br_not | apply br_intro) <;> intro h) | refine cond_a ?_)
    all_goals (conv => whnf)
    all_goals first
      | exact ret_pure rfl
      | (exfalso; omega)
      | trace_state
  by_cases k2 : 65 ≤ byteAt s 2 ∧ byteAt s 2 ≤ 90
  case neg =>
    rw [curB_false (k := 2) (by omega) (by show byteAt s 2 < 65 ∨ 90 < byteAt s 2; omega)]
    refine fc_of mixed T_ok Tryz.func40 rfl (by kernel_rfl) (by kernel_rfl) (by kernel_rfl) ?_
    repeat' ((conv => whnf); first | ((first | apply br_dec | apply br_ndec) <;> intro h <;> try (exfalso; (try dsimp only at h); omega)) | ((first | apply br_seq | apply br_nseq | apply br_not | apply br_intro) <;> intro h) | refine cond_a ?_)
    all_goals (conv => whnf)
    all_goals first
      | exact ret_pure rfl
      | exact ret_pure (congrArg SV.bool (decide_eq_false (by omega)))
      | (exfalso; omega)
      | trace_state
  have hc : curB s = true := by
    unfold curB
    rw [h3]
    have s1 : capsTo s 1 = true := capsTo_step (k := 0) rfl (by show ¬ byteAt s 0 < 65; omega) (by show ¬ 90 < byteAt s 0; omega)
    have s2 : capsTo s 2 = true := capsTo_step (k := 1) s1 (by show ¬ byteAt s 1 < 65; omega) (by show ¬ 90 < byteAt s 1; omega)
    have s3 : capsTo s 3 = true := capsTo_step (k := 2) s2 (by show ¬ byteAt s 2 < 65; omega) (by show ¬ 90 < byteAt s 2; omega)
    rw [s3]; rfl
  rw [hc]
  refine fc_of mixed T_ok Tryz.func40 rfl (by kernel_rfl) (by kernel_rfl) (by kernel_rfl) ?_
  repeat' ((conv => whnf); first | ((first | apply br_dec | apply br_ndec) <;> intro h <;> try (exfalso; (try dsimp only at h); omega)) | ((first | apply br_seq | apply br_nseq | apply br_not | apply br_intro) <;> intro h) | refine cond_a ?_)
  all_goals (conv => whnf)
  all_goals first
    | exact ret_pure rfl
    | exact ret_pure (congrArg SV.bool (decide_eq_true (by omega)))
    | (exfalso; omega)
    | trace_state
abbrev rvH (np : Nat) (ps : List ByteArray) (m : Nat) (R : List Px) (q : RL) : Heap := (0, some (GB glT)) :: (4, some (.one true (rlB q))) :: rbH true np ps m R
theorem list_bdd {b : Bk} (h : BkI b 4503599627370496) : ∀ x ∈ b.list, -4503599627370496 ≤ x.a ∧ x.a ≤ 4503599627370496 := by
  have hm : ∀ cs k x, x ∈ liA b cs k → -4503599627370496 ≤ x.a ∧ x.a ≤ 4503599627370496 := by
    intro cs k
    induction k with
    | zero => intro x hx; simp [liA] at hx
    | succ k ih =>
      intro x hx
      simp only [liA] at hx
      rcases List.mem_append.1 hx with q | q
      · exact ih x q
      · obtain ⟨_, _, j, _, _, e⟩ := liR_mem _ _ q
        rw [e]; exact h.rb _ _
  exact fun x hx => hm _ _ x hx
/-- What the loop over the currencies holds. -/
structure CvI (b : Bk) (q : RL) (t p : ByteArray) (k : Nat) (O : List Px) : Prop where
  le : k ≤ b.m
  e : cvEK q b (sortS b.cs) t p k = 0
  one : OneC t (18014398509481984 * (k : Int)) O
  rel : RelS b t O (fun j => (cvSK q b (sortS b.cs) t p k).getD j 0)
  len : O.length ≤ 32 * k
theorem cvI_zero {b : Bk} {q : RL} {t p : ByteArray} : CvI b q t p 0 [] := by
  refine ⟨Nat.zero_le _, rfl, ⟨List.Pairwise.nil, fun x hx => (by simp at hx), fun p => ?_⟩, fun p => ?_, Nat.le_refl _⟩
  · have : netR [] p t = 0 := rfl
    rw [this]; decide
  · have : netR [] p t = 0 := rfl
    rw [this]
    dsimp only
    have : (cvSK q b (sortS b.cs) t p 0) = z16 := rfl
    split
    · show (0 : Int) = z16.getD _ 0
      rw [z16_get]
    · rfl
/-- Both signs of a currency. -/
theorem cvI_step {b : Bk} {q : RL} {t p : ByteArray} {k : Nat} {O O1 O2 : List Px} (h : BkI b 4503599627370496) (hnd : b.ps.Nodup) (hI : CvI b q t p k O) (hk : k < b.m) {c : ByteArray} (hc : (sortS b.cs).getD k ⟨#[]⟩ = c) (Z1 Z2 : List (ByteArray × Int)) (h1 : stL t Z1 O = O1) (h2 : stL t Z2 O1 = O2)
    (hZ1 : ∀ z ∈ Z1, -4503599627370512 ≤ z.2 ∧ z.2 ≤ 4503599627370512) (hZ2 : ∀ z ∈ Z2, -4503599627370512 ≤ z.2 ∧ z.2 ≤ 4503599627370512) (hl1 : Z1.length ≤ 16) (hl2 : Z2.length ≤ 16)
    (he : c = t ∨ cwE q (b.row c) c t p = 0) (hrel : RelS b t O2 (fun j => (cvSK q b (sortS b.cs) t p k).getD j 0 + (cvR q b t p c).getD j 0)) : CvI b q t p (k + 1) O2 := by
  refine ⟨hk, ?_, ?_, ?_, ?_⟩
  · simp only [cvEK]
    rw [if_neg (by rw [hI.e]; simp), hc]
    rcases he with e | e
    · rw [if_pos e]
    · split
      · rfl
      · exact e
  · have hd2 : Dist O2 ∧ ∀ x ∈ O2, x.c = t := by
      have a1 := stL_one hI.one (V := 4503599627370512) (by decide) Z1 hZ1
      rw [h1] at a1
      have a2 := stL_one a1 (V := 4503599627370512) (by decide) Z2 hZ2
      rw [h2] at a2
      exact ⟨a2.d, a2.c⟩
    refine ⟨hd2.1, hd2.2, fun p' => ?_⟩
    rw [hrel p']
    split
    · dsimp only
      have hb := cvSK_bd (q := q) (b := b) (cs := sortS b.cs) (t := t) (p := p) (h.ok (Int.le_refl _)).bd k hI.e (sidx b.ps p')
      have hr : -9007199254740992 ≤ (cvR q b t p c).getD (sidx b.ps p') 0 ∧ (cvR q b t p c).getD (sidx b.ps p') 0 ≤ 9007199254740992 := by
        unfold cvR
        by_cases g : c = t
        · rw [if_pos g]; have := h.rb c (sidx b.ps p'); omega
        · rw [if_neg g]; exact cwR_bd (he.resolve_left g) _
      rw [Int.natCast_add]
      omega
    · rw [Int.natCast_add]; omega
  · intro p'
    rw [hrel p']
    split
    · rename_i w
      have hn := h.n16
      simp only [cvSK]
      rw [addK_get (cvSK_len q b (sortS b.cs) t p k) 16 _ (Nat.le_refl _), if_pos (by omega), hc]
    · rfl
  · have a1 := stL_len t Z1 O
    have a2 := stL_len t Z2 O1
    rw [h1] at a1
    rw [h2] at a2
    have := hI.len
    omega
theorem sort_mem {b : Bk} {B : Int} (h : BkI b B) {k : Nat} (hk : k < b.m) : (sortS b.cs).getD k ⟨#[]⟩ ∈ b.cs := by
  have hsl : (sortS b.cs).length = b.m := by rw [sortS_length, h.C.cl]
  refine (sortS_perm b.cs).mem_iff.1 ?_
  rw [List.getD, List.getElem?_eq_getElem (by omega)]; exact List.getElem_mem _
end Go.Proofs.YtkbidlijinclcaaGreatDoor

/- Contract: the reference converts positions (the walk). -/
namespace Go.Proofs.YtkbidlijinclcaaGreatDoor
open Go.RowKit Go.Sy
attribute [local irreducible] vcall vloop vcallD retP
set_option maxRecDepth 100000
set_option linter.unusedVariables false
set_option linter.unusedSimpArgs false

def oo3 (A B C : List Px) : Nat → List Px
  | 0 => A
  | 1 => B
  | _ => C
def sg3 : Nat → Int
  | 0 => 1
  | 1 => -1
  | _ => -3
abbrev rvV (m : Nat) (L : List Px) (cs : List ByteArray) (O : List Px) : Heap := [(5, some (.one false (pxB L.length (pxOf L)))), (6, some (.one false (.cols m [.sc (.strs cs)]))), (7, some (.one false (pxB O.length (pxOf O))))]
abbrev cvS0 (np : Nat) (ps : List ByteArray) (rm : Nat) (R : List Px) (q : RL) (t p : ByteArray) (m : Nat) (L : List Px) (cs : List ByteArray) (x : Nat × List Px) : VS := ⟨[(1, .sl 4 0 0 q.l), (2, .str t), (3, .str p), (10, .sl 5 0 0 L.length), (11, .sl 6 0 0 m), (12, .sl 7 0 0 x.2.length), (13, .int .i64 x.1)], rvH np ps rm R q ++ rvV m L cs x.2, 8⟩
abbrev cvS1 (np : Nat) (ps : List ByteArray) (rm : Nat) (R : List Px) (q : RL) (t p : ByteArray) (m : Nat) (L : List Px) (cs : List ByteArray) (i : Nat) (c : ByteArray) (A : Nat) (OO : Nat → List Px) (j : Nat) : VS := ⟨[(1, .sl 4 0 0 q.l), (2, .str t), (3, .str p), (10, .sl 5 0 0 L.length), (11, .sl 6 0 0 m), (12, .sl 7 0 0 (OO j).length), (13, .int .i64 i), (14, .str c), (15, .int .i64 A), (19, .int .i64 (sg3 j))], rvH np ps rm R q ++ rvV m L cs (OO j), 8⟩
set_option maxHeartbeats 3200000 in
theorem ref40_Convert {b : Bk} (h : BkI b 4503599627370496) {np : Nat} (hnp : b.n = np) (ps : List ByteArray) (hps : b.ps.Pairwise (fun a b => strLt a b = true)) {R : List Px} (hr : RlB b R) {rm : Nat} (hrm : R.length = rm) (hrl : rm ≤ 1000) (hbm : b.m ≤ 60) (q : RL) (hq : q.l ≤ 1000) (hz : ∀ i, (q.at i).f.size ≤ 9223372036854775807 ∧ (q.at i).t.size ≤ 9223372036854775807) (t p : ByteArray) (ht : t.size ≤ 9223372036854775807) :
    FC Tryz.prog 5 21 [.ptr 1 0 0 0, .sl 4 0 0 q.l, .str t, .str p] (rvH np ps rm R q) (cvOut b q t p) := by
  have hnd : b.ps.Nodup := hps.imp (fun {a b} h e => by subst e; rw [strLt_irrefl] at h; cases h)
  have c1 := ref27_IsCurrency t
  unfold cvOut
  cases hcu : curB t with
  | false =>
    have e : b.cvE q t p = 11 := by unfold Bk.cvE; rw [if_pos hcu]
    rw [e, if_pos (by decide)]
    rw [hcu] at c1
    refine fc_of mixed T_ok Tryz.func21 rfl (by kernel_rfl) (by kernel_rfl) (by kernel_rfl) ?_
    repeat' ((conv => whnf); first | (refine vcall_pure (c1) rfl rfl rfl ?_) | (refine vcallD_pure (c1) rfl rfl rfl ?_) | ((first | apply br_dec | apply br_ndec) <;> intro h <;> try (exfalso; (try dsimp only at h); omega)) | ((first | apply br_seq | apply br_nseq | apply br_not | apply br_intro) <;> intro h) | refine cond_a ?_)
    all_goals (conv => whnf)
    all_goals first
      | exact ret_out (l := [0, 1, 2, 3, 4]) rfl rfl trivial allRw_nil
      | (exfalso; omega)
      | trace_state
  | true =>
  rw [hcu] at c1
  have eE : b.cvE q t p = if b.cvX q t p ≠ 0 then b.cvX q t p else if fitK (b.cvS q t p) b.n = true then 0 else 4 := by unfold Bk.cvE; rw [if_neg (by rw [hcu]; simp)]
  have cL := ref40_List np ps R rm hrm (by omega) hr.d
  obtain ⟨e1, e2⟩ := rl_list h hps hr
  obtain ⟨e3, e4⟩ := rl_cur h hps hr
  rw [e1, e2] at cL
  have cC := ref40_Currencies np ps R rm hrm (by omega) hr.d
  rw [e4, e3] at cC
  have hLl := list_le b h.n16 (by omega)
  have hL2 : b.list.length ≤ 1000 := by
    have a := liA_len b (sortS b.cs) b.m
    have a2 : b.m * b.n ≤ 60 * 16 := Nat.mul_le_mul hbm h.n16
    unfold Bk.list; omega
  have hLb := list_bdd h
  have hLd : ∀ j, (b.list.getD j px0).a ≤ 4503599627370496 := fun j => by
    by_cases e : j < b.list.length
    · rw [List.getD, List.getElem?_eq_getElem e]; exact (hLb _ (List.getElem_mem e)).2
    · rw [List.getD, List.getElem?_eq_none (by omega)]; decide
  refine fc_of mixed T_ok Tryz.func21 rfl (by kernel_rfl) (by kernel_rfl) (by kernel_rfl) ?_
  repeat' ((conv => whnf); first | (refine vcall_pure (c1) rfl rfl rfl ?_) | (refine vcallD_pure (c1) rfl rfl rfl ?_) | refine vcall_o (l := [0, 1, 2, 3]) (cL) ?_ | refine vcallD_o (l := [0, 1, 2, 3]) (cL) ?_ | refine vcall_o (l := [0, 1, 2, 3]) (cC) ?_ | refine vcallD_o (l := [0, 1, 2, 3]) (cC) ?_ | ((first | apply br_dec | apply br_ndec) <;> intro h <;> try (exfalso; (try dsimp only at h); omega)) | ((first | apply br_seq | apply br_nseq | apply br_not | apply br_intro) <;> intro h) | refine cond_a ?_)
  all_goals (conv => whnf)
  all_goals first
    | (exfalso; first | omega | contradiction)
    | skip
  refine vloop_lp (cvS0 np ps rm R q t p b.m b.list (sortS b.cs)) (fun x => CvI b q t p x.1 x.2) (fun x => b.m - x.1) (0, []) [0, 1, 2, 3, 4, 5, 6, 7] [.slot 12 [.sc (.strs []), .sc (.ints .i64 []), .sc (.strs [])]] ⟨rfl, ⟨rfl, rfl, rfl, rfl, rfl, rfl, rfl, trivial⟩, ⟨gwk rfl, rfl, rfl, rfl, rfl, rfl, rfl, rfl, trivial⟩⟩ cvI_zero ?_
  rintro ⟨i, O⟩ hI
  dsimp only at hI
  unfold cvS0
  dsimp only
  have hi := hI.le
  have hOl := hI.len
  by_cases hi2 : i < b.m
  case neg =>
    have ei : i = b.m := by omega
    have hX : b.cvX q t p = 0 := by have := hI.e; rw [ei] at this; exact this
    rw [if_neg (by rw [hX]; simp)] at eE
    have hrel : RelS b t O (fun j => (b.cvS q t p).getD j 0) := by have := hI.rel; rw [ei] at this; exact this
    have hft := rel_fit h hnd hI.one.d hI.one.c hrel
    obtain ⟨s1, s2⟩ := rel_sort h hps hI.one.d hI.one.c hrel
    have cS := ref40_Sorted O O.length rfl (by omega) hI.one.d
    rw [s1, s2] at cS
    have eL : b.cvL q t p = liR (b.cvS q t p) b.ps t b.n := rfl
    rw [← eL] at cS
    repeat' ((conv => whnf); first | ((first | apply br_dec | apply br_ndec) <;> intro h <;> try (exfalso; (try dsimp only at h); omega)) | ((first | apply br_seq | apply br_nseq | apply br_not | apply br_intro) <;> intro h) | refine cond_a ?_)
    all_goals (conv => whnf)
    all_goals first
      | (exfalso; omega)
      | skip
    refine vloop_lp (fun k : Nat => ⟨[(12, .sl 7 0 0 O.length), (22, .int .i64 k)], rvH np ps rm R q ++ rvV b.m b.list (sortS b.cs) O, 8⟩) (fun k => k ≤ O.length ∧ ∀ x ∈ O.take k, fitB x.a = true) (fun k => O.length - k) 0 [0, 1, 2, 3, 4, 5, 6, 7] [] ⟨rfl, ⟨rfl, rfl, trivial⟩, ⟨gwk rfl, rfl, rfl, rfl, rfl, rfl, rfl, rfl, trivial⟩⟩ ⟨Nat.zero_le _, fun x hx => by simp at hx⟩ ?_
    rintro k ⟨hk, hf⟩
    by_cases hk2 : k < O.length
    · obtain ⟨b1, b2, b3⟩ := atP O k
      have cF := ref40_fits ((pxOf O).a.getD k 0)
      cases hfk : fitB ((pxOf O).a.getD k 0) with
      | false =>
        have e4' : b.cvE q t p = 4 := by
          rw [eE, if_neg]
          intro w
          have := hft.2 w (O.getD k px0) (by rw [List.getD, List.getElem?_eq_getElem hk2]; exact List.getElem_mem _)
          rw [b2, this] at hfk; cases hfk
        rw [e4', if_pos (by decide)]
        rw [hfk] at cF
        repeat' ((conv => whnf); first | (refine vcall_pure (cF) rfl rfl rfl ?_) | (refine vcallD_pure (cF) rfl rfl rfl ?_) | ((first | apply br_dec | apply br_ndec) <;> intro h <;> try (exfalso; (try dsimp only at h); omega)) | ((first | apply br_seq | apply br_nseq | apply br_not | apply br_intro) <;> intro h) | refine cond_a ?_)
        all_goals (conv => whnf)
        all_goals (try simp only [toNat0, Int.toNat_natCast, Nat.add_zero] at *)
        all_goals first
          | exact ret_out (l := [0, 1, 2, 3, 4]) rfl rfl trivial allRw_nil
          | (exfalso; first | omega | contradiction)
          | trace_state
      | true =>
        rw [hfk] at cF
        have hf2 : ∀ x ∈ O.take (k + 1), fitB x.a = true := by
          rw [take_getD hk2]
          intro x hx
          rcases List.mem_append.1 hx with w | w
          · exact hf x w
          · rw [List.mem_singleton] at w; subst w; rw [← b2]; exact hfk
        repeat' ((conv => whnf); first | (refine vcall_pure (cF) rfl rfl rfl ?_) | (refine vcallD_pure (cF) rfl rfl rfl ?_) | ((first | apply br_dec | apply br_ndec) <;> intro h <;> try (exfalso; (try dsimp only at h); omega)) | ((first | apply br_seq | apply br_nseq | apply br_not | apply br_intro) <;> intro h) | refine cond_a ?_)
        all_goals (conv => whnf)
        all_goals (try simp only [toNat0, Int.toNat_natCast, Nat.add_zero] at *)
        all_goals first
          | exact ⟨k + 1, [0, 1, 2, 3, 4, 5, 6, 7], [], ⟨hk2, hf2⟩, (show O.length - (k + 1) < O.length - k by omega), ⟨rfl, ⟨rfl, congrArg (fun z => some (SV.int .i64 z)) (i64_succ (by omega)), trivial⟩, ⟨gwk rfl, rfl, rfl, rfl, rfl, rfl, rfl, rfl, trivial⟩⟩⟩
          | (exfalso; first | omega | contradiction)
          | trace_state
    · have ek : k = O.length := by omega
      have hall : ∀ x ∈ O, fitB x.a = true := by rw [ek, List.take_length] at hf; exact hf
      rw [if_pos (hft.1 hall)] at eE
      rw [eE, if_neg (by decide)]
      generalize b.cvL q t p = LL at *
      repeat' ((conv => whnf); first | refine vcall_o (l := [0, 7]) (cS) ?_ | refine vcallD_o (l := [0, 7]) (cS) ?_ | ((first | apply br_dec | apply br_ndec) <;> intro h <;> try (exfalso; (try dsimp only at h); omega)) | ((first | apply br_seq | apply br_nseq | apply br_not | apply br_intro) <;> intro h) | refine cond_a ?_)
      all_goals (conv => whnf)
      all_goals first
        | exact ret_out (l := [0, 1, 2, 3, 4, 8]) rfl rfl ⟨rfl, trivial⟩ (allRw_cons allRw_nil)
        | (exfalso; first | omega | contradiction)
        | trace_state
  have hcm := sort_mem h hi2
  have hst := fun e => cvEK_stop (q := q) (b := b) (cs := sortS b.cs) (t := t) (p := p) (k := i) (e := e) hI.e
  have hstep := fun O1 O2 => cvI_step (O1 := O1) (O2 := O2) (c := (sortS b.cs).getD i ⟨#[]⟩) h hnd hI hi2
  generalize hcd : (sortS b.cs).getD i ⟨#[]⟩ = c at hcm hst hstep
  have cT := ref40_total b.list b.list.length rfl (by omega) hLd c
  rw [tot_eq h hcm] at cT
  have htb := tot_bd (r := b.row c) (fun j => (h.rb c j).2) 16
  have hrow := h.rb c
  have f16 := fun s => fL16 h hcm s
  have hiO := hI.one
  have hB : (18014398509481984 * (i : Int)) ≤ 1152921504606846976 := by omega
  have sumB : ∀ (A : Nat) (s : Int), A ≤ 4503599627370496 → ∀ (hs : s = 1 ∨ s = -1), ∀ z ∈ dvZ A b.list c s, -4503599627370512 ≤ z.2 ∧ z.2 ≤ 4503599627370512 := fun A s hA hs z hz => by
    obtain ⟨j, _, rfl⟩ := zdK_mem hz
    have hw : ∀ k, k < fL b.list c s → 1 ≤ (fW b.list c s).getD k 0 := fun k hk => by
      rw [(fW_eq h hcm s).1]
      rw [(fW_eq h hcm s).2] at hk
      exact wt_pos _ _ k hk
    have h2 := sp_bd (A := A) (ws := fW b.list c s) (n := fL b.list c s) hw j
    have h3 := f16 s
    have h4 : 0 ≤ (dvP A b.list c s).getD j 0 ∧ (dvP A b.list c s).getD j 0 ≤ 4503599627370512 := by
      show 0 ≤ (spP A (fW b.list c s) (fL b.list c s)).getD j 0 ∧ (spP A (fW b.list c s) (fL b.list c s)).getD j 0 ≤ 4503599627370512
      omega
    dsimp only
    rcases hs with e | e <;> subst e <;> omega
  have zl : ∀ (A : Nat) (s : Int), (dvZ A b.list c s).length ≤ 16 := fun A s => by unfold dvZ; rw [zdK_len]; exact f16 s
  have plB : ∀ s, ∀ z ∈ plZ b.list c s, -4503599627370512 ≤ z.2 ∧ z.2 ≤ 4503599627370512 := fun s z hz => by
    unfold plZ at hz
    obtain ⟨x, hx, rfl⟩ := List.mem_map.1 hz
    have := hLb x (List.mem_filter.1 hx).1
    dsimp only; omega
  have pll : ∀ s, (plZ b.list c s).length ≤ 16 := fun s => by unfold plZ; rw [List.length_map]; exact f16 s
  by_cases hct : c = t
  · obtain ⟨T, hT⟩ := Int.eq_ofNat_of_zero_le htb.1
    rw [hT] at cT
    have hTA : T ≤ 9223372036854775807 := by omega
    generalize hO1 : stL t (plZ b.list c 1) O = O1
    generalize hO2 : stL t (plZ b.list c (-1)) O1 = O2
    have o1 : OneC t (1224979098644774912) O1 := by
      have a := stL_one hiO (V := 4503599627370512) (by decide) (plZ b.list c 1) (plB 1)
      rw [hO1] at a
      have := pll 1
      exact ⟨a.d, a.c, fun p => by have := a.b p; omega⟩
    have l1 : O1.length ≤ O.length + 16 := by have a := stL_len t (plZ b.list c 1) O; rw [hO1] at a; have := pll 1; omega
    have hinv : CvI b q t p (i + 1) O2 := hstep O1 O2 rfl (plZ b.list c 1) (plZ b.list c (-1)) hO1 hO2 (plB 1) (plB (-1)) (pll 1) (pll (-1)) (.inl hct) (by
      have r1 := rel_plain h hnd hcm hiO.d hI.rel 1
      rw [hO1] at r1
      have r2 := rel_plain h hnd hcm o1.d r1 (-1)
      rw [hO2] at r2
      intro p'
      rw [r2 p']
      split
      · rename_i w
        dsimp only
        unfold cvR
        rw [if_pos hct]
        have hx := h.rb c (sidx b.ps p')
        by_cases w1 : 0 < (b.row c).getD (sidx b.ps p') 0
        · rw [if_pos ⟨w, by omega⟩, if_neg (by omega)]; omega
        · by_cases w2 : (b.row c).getD (sidx b.ps p') 0 < 0
          · rw [if_neg (by omega), if_pos ⟨w, by omega⟩]; omega
          · rw [if_neg (by omega), if_neg (by omega)]; omega
      · rfl)
    have d1 := ref40_divide T hTA O b.list O.length b.list.length rfl rfl (by omega) (by omega) hLb c t 1 (.inl rfl) (f16 1) _ hiO (by omega)
    have d2 := ref40_divide T hTA O1 b.list O1.length b.list.length rfl rfl (by omega) (by omega) hLb c t (-1) (.inr rfl) (f16 (-1)) _ o1 (by omega)
    have hiO' : OneC c (18014398509481984 * (i : Int)) O := by rw [hct]; exact hiO
    have o1' : OneC c (1224979098644774912) O1 := by rw [hct]; exact o1
    have g1 := ref40_plain O b.list O.length b.list.length rfl rfl (by omega) (by omega) hLb c 1 (.inl rfl) (f16 1) (fL_pos h hcm (.inl rfl)) _ hiO' (by omega) O1 (by rw [← hO1, hct])
    have g2 := ref40_plain O1 b.list O1.length b.list.length rfl rfl (by omega) (by omega) hLb c (-1) (.inr rfl) (f16 (-1)) (fL_pos h hcm (.inr rfl)) _ o1' (by omega) O2 (by rw [← hO2, hct])
    unfold diOut at d1 d2
    subst hct
    subst hcd
    generalize b.list = L at *
    repeat' ((conv => whnf); first | refine vcall_o (l := [0, 5]) (cT) ?_ | refine vcallD_o (l := [0, 5]) (cT) ?_ | ((first | apply br_dec | apply br_ndec) <;> intro h <;> try (exfalso; (try dsimp only at h); omega)) | ((first | apply br_seq | apply br_nseq | apply br_not | apply br_intro) <;> intro h) | refine cond_a ?_)
    all_goals (conv => whnf)
    all_goals first
      | (exfalso; first | omega | contradiction)
      | skip
    all_goals refine vloop_lp (cvS1 np ps rm R q ((sortS b.cs).getD i ⟨#[]⟩) p b.m L (sortS b.cs) i ((sortS b.cs).getD i ⟨#[]⟩) T (oo3 O O1 O2)) (fun j => j ≤ 2) (fun j => 3 - j) 0 [0, 1, 2, 3, 4, 5, 6, 7] [] ⟨rfl, ⟨rfl, rfl, rfl, rfl, rfl, rfl, rfl, rfl, rfl, rfl, trivial⟩, ⟨gwk rfl, rfl, rfl, rfl, rfl, rfl, rfl, rfl, trivial⟩⟩ (Nat.zero_le _) ?_
    intro j hj
    unfold cvS1
    rcases j with _ | _ | _ | j
    · by_cases E : diE T L ((sortS b.cs).getD i ⟨#[]⟩) ((sortS b.cs).getD i ⟨#[]⟩) 1 = 0
      · rw [if_neg (by simpa using E)] at d1
        repeat' ((conv => whnf); first | refine vcall_o (l := [0, 7, 5]) (d1) ?_ | refine vcallD_o (l := [0, 7, 5]) (d1) ?_ | refine vcall_o (l := [0, 7, 5]) (g1) ?_ | refine vcallD_o (l := [0, 7, 5]) (g1) ?_ | ((first | apply br_dec | apply br_ndec) <;> intro h <;> try (exfalso; (try dsimp only at h); omega)) | ((first | apply br_seq | apply br_nseq | apply br_not | apply br_intro) <;> intro h) | refine cond_a ?_)
        all_goals (conv => whnf)
        all_goals first
          | exact ⟨1, [0, 1, 2, 3, 4, 5, 6, 9], [], (by decide), (by decide), ⟨rfl, ⟨rfl, rfl, rfl, rfl, rfl, rfl, rfl, rfl, rfl, rfl, trivial⟩, ⟨gwk rfl, rfl, rfl, rfl, rfl, rfl, rfl, rfl, trivial⟩⟩⟩
          | (exfalso; first | omega | contradiction)
          | trace_state
      · rw [if_pos E] at d1
        repeat' ((conv => whnf); first | refine vcall_o (l := [0, 7, 5]) (d1) ?_ | refine vcallD_o (l := [0, 7, 5]) (d1) ?_ | refine vcall_o (l := [0, 7, 5]) (g1) ?_ | refine vcallD_o (l := [0, 7, 5]) (g1) ?_ | ((first | apply br_dec | apply br_ndec) <;> intro h <;> try (exfalso; (try dsimp only at h); omega)) | ((first | apply br_seq | apply br_nseq | apply br_not | apply br_intro) <;> intro h) | refine cond_a ?_)
        all_goals (conv => whnf)
        all_goals first
          | exact ⟨1, [0, 1, 2, 3, 4, 5, 6, 8], [], (by decide), (by decide), ⟨rfl, ⟨rfl, rfl, rfl, rfl, rfl, rfl, rfl, rfl, rfl, rfl, trivial⟩, ⟨gwk rfl, rfl, rfl, rfl, rfl, rfl, rfl, rfl, trivial⟩⟩⟩
          | (exfalso; first | omega | contradiction)
          | trace_state
    · by_cases E : diE T L ((sortS b.cs).getD i ⟨#[]⟩) ((sortS b.cs).getD i ⟨#[]⟩) (-1) = 0
      · rw [if_neg (by simpa using E)] at d2
        repeat' ((conv => whnf); first | refine vcall_o (l := [0, 7, 5]) (d2) ?_ | refine vcallD_o (l := [0, 7, 5]) (d2) ?_ | refine vcall_o (l := [0, 7, 5]) (g2) ?_ | refine vcallD_o (l := [0, 7, 5]) (g2) ?_ | ((first | apply br_dec | apply br_ndec) <;> intro h <;> try (exfalso; (try dsimp only at h); omega)) | ((first | apply br_seq | apply br_nseq | apply br_not | apply br_intro) <;> intro h) | refine cond_a ?_)
        all_goals (conv => whnf)
        all_goals first
          | exact ⟨2, [0, 1, 2, 3, 4, 5, 6, 9], [], (by decide), (by decide), ⟨rfl, ⟨rfl, rfl, rfl, rfl, rfl, rfl, rfl, rfl, rfl, rfl, trivial⟩, ⟨gwk rfl, rfl, rfl, rfl, rfl, rfl, rfl, rfl, trivial⟩⟩⟩
          | (exfalso; first | omega | contradiction)
          | trace_state
      · rw [if_pos E] at d2
        repeat' ((conv => whnf); first | refine vcall_o (l := [0, 7, 5]) (d2) ?_ | refine vcallD_o (l := [0, 7, 5]) (d2) ?_ | refine vcall_o (l := [0, 7, 5]) (g2) ?_ | refine vcallD_o (l := [0, 7, 5]) (g2) ?_ | ((first | apply br_dec | apply br_ndec) <;> intro h <;> try (exfalso; (try dsimp only at h); omega)) | ((first | apply br_seq | apply br_nseq | apply br_not | apply br_intro) <;> intro h) | refine cond_a ?_)
        all_goals (conv => whnf)
        all_goals first
          | exact ⟨2, [0, 1, 2, 3, 4, 5, 6, 8], [], (by decide), (by decide), ⟨rfl, ⟨rfl, rfl, rfl, rfl, rfl, rfl, rfl, rfl, rfl, rfl, trivial⟩, ⟨gwk rfl, rfl, rfl, rfl, rfl, rfl, rfl, rfl, trivial⟩⟩⟩
          | (exfalso; first | omega | contradiction)
          | trace_state
    · repeat' ((conv => whnf); first | ((first | apply br_dec | apply br_ndec) <;> intro h <;> try (exfalso; (try dsimp only at h); omega)) | ((first | apply br_seq | apply br_nseq | apply br_not | apply br_intro) <;> intro h) | refine cond_a ?_)
      all_goals (conv => whnf)
      all_goals first
        | exact ⟨(i + 1, O2), [0, 1, 2, 3, 4, 5, 6, 7], [], hinv, (show b.m - (i + 1) < b.m - i by omega), ⟨rfl, ⟨rfl, rfl, rfl, rfl, rfl, rfl, congrArg (fun z => some (SV.int .i64 z)) (i64_succ (by omega)), trivial⟩, ⟨gwk rfl, rfl, rfl, rfl, rfl, rfl, rfl, rfl, trivial⟩⟩⟩
        | (exfalso; first | omega | contradiction)
        | trace_state
    · omega
  have hcE : ∀ e, e ≠ 0 → cwE q (b.row c) c t p = e → b.cvE q t p = e := fun e he hw => by
    have hX : b.cvX q t p = e := hst e hct hw he b.m hi2
    rw [eE, hX, if_pos he]
  have cF := ref02_Find q hq hz c t p
  by_cases h1 : fiE q c t p = 0
  case neg =>
    rw [findT_err h1] at cF
    rw [hcE (fiE q c t p) h1 (by unfold cwE; rw [if_pos h1]), if_pos h1]
    subst hcd
    generalize b.list = L at *
    generalize fiE q ((sortS b.cs).getD i ⟨#[]⟩) t p = er at *
    repeat' ((conv => whnf); first | refine vcall_o (l := [0, 5]) (cT) ?_ | refine vcallD_o (l := [0, 5]) (cT) ?_ | refine vcall_o (l := [0, 4]) (cF) ?_ | refine vcallD_o (l := [0, 4]) (cF) ?_ | ((first | apply br_dec | apply br_ndec) <;> intro h <;> try (exfalso; (try dsimp only at h); omega)) | ((first | apply br_seq | apply br_nseq | apply br_not | apply br_intro) <;> intro h) | refine cond_a ?_)
    all_goals (conv => whnf)
    all_goals first
      | exact ret_out (l := [0, 1, 2, 3, 4]) rfl rfl trivial allRw_nil
      | (exfalso; first | omega | contradiction)
      | trace_state
  have hR := fiR_ok h1
  rw [findT_ok h1] at cF
  have hcs : c.size = 3 := by
    have := h.c3 c hcm
    unfold curB at this
    simp only [Bool.and_eq_true, decide_eq_true_eq] at this
    exact this.1
  have c2 := ref02_Convert (totK (b.row c) 16) c (fiR q c t p).f (fiR q c t p).t (fiR q c t p).n (fiR q c t p).d 4 (by omega) (by omega) (by rw [hR.2.2.1]; omega) (by rw [hR.2.2.2]; exact ht)
  have ew : cwE q (b.row c) c t p = if cwC q (b.row c) c t p ≠ 0 then cwC q (b.row c) c t p else if dvE (cwA q (b.row c) c t p) t (b.row c) 1 ≠ 0 then dvE (cwA q (b.row c) c t p) t (b.row c) 1 else dvE (cwA q (b.row c) c t p) t (b.row c) (-1) := by unfold cwE; rw [if_neg (by simpa using h1)]
  by_cases h2 : cwC q (b.row c) c t p = 0
  case neg =>
    rw [cvT_err (e := cwC q (b.row c) c t p) rfl h2] at c2
    rw [hcE (cwC q (b.row c) c t p) h2 (by rw [ew, if_pos h2]), if_pos h2]
    subst hcd
    generalize b.list = L at *
    generalize cwC q (b.row ((sortS b.cs).getD i ⟨#[]⟩)) ((sortS b.cs).getD i ⟨#[]⟩) t p = er at *
    generalize totK (b.row ((sortS b.cs).getD i ⟨#[]⟩)) 16 = TT at *
    repeat' ((conv => whnf); first | refine vcall_o (l := [0, 5]) (cT) ?_ | refine vcallD_o (l := [0, 5]) (cT) ?_ | refine vcall_o (l := [0, 4]) (cF) ?_ | refine vcallD_o (l := [0, 4]) (cF) ?_ | (refine vcall_pure (c2) rfl rfl rfl ?_) | (refine vcallD_pure (c2) rfl rfl rfl ?_) | ((first | apply br_dec | apply br_ndec) <;> intro h <;> try (exfalso; (try dsimp only at h); omega)) | ((first | apply br_seq | apply br_nseq | apply br_not | apply br_intro) <;> intro h) | refine cond_a ?_)
    all_goals (conv => whnf)
    all_goals first
      | exact ret_out (l := [0, 1, 2, 3, 4]) rfl rfl trivial allRw_nil
      | (exfalso; first | omega | contradiction)
      | trace_state
  rw [if_neg (by simpa using h2)] at ew
  have hnn := sclA_nn (a := totK (b.row c) 16) (n := (fiR q c t p).n) (d := (fiR q c t p).d) (mode := 4) htb.1 hR.1
  have hsle := sclE_le (a := totK (b.row c) 16) (n := (fiR q c t p).n) (d := (fiR q c t p).d) (mode := 4) htb.1 hR.1 (cvE_bd h2)
  rw [cvT_ok h2] at c2
  have eA : sclA (totK (b.row c) 16) (fiR q c t p).n (fiR q c t p).d 4 = ((cwA q (b.row c) c t p : Nat) : Int) := (Int.toNat_of_nonneg hnn).symm
  rw [eA] at c2
  have hA : cwA q (b.row c) c t p ≤ 4503599627370496 := by omega
  have x1 := diE_eq h hcm (cwA q (b.row c) c t p) t 1
  have x2 := diE_eq h hcm (cwA q (b.row c) c t p) t (-1)
  rw [← x1, ← x2] at ew
  have hrel1 : ∀ A : Nat, RelS b t (stL t (dvZ A b.list c (-1)) (stL t (dvZ A b.list c 1) O)) (fun j => (cvSK q b (sortS b.cs) t p i).getD j 0 + ((dvR z16 A (b.row c) 1).getD j 0 + (dvR z16 A (b.row c) (-1)).getD j 0)) := fun A => by
    have r1 := rel_divide h hnd hcm hiO.d hI.rel A 1
    have hd1 : Dist (stL t (dvZ A b.list c 1) O) := by
      have : ∀ (Z : List (ByteArray × Int)) (X : List Px), Dist X → Dist (stL t Z X) := by
        intro Z
        induction Z with
        | nil => intro X hX; exact hX
        | cons z Z ih => intro X hX; exact ih _ (put_dist hX _ _ _)
      exact this _ _ hiO.d
    have r2 := rel_divide h hnd hcm hd1 r1 A (-1)
    intro p'
    rw [r2 p']
    split
    · dsimp only; omega
    · rfl
  have hcwR : ∀ j, (cwR q (b.row c) c t p).getD j 0 = (dvR z16 (cwA q (b.row c) c t p) (b.row c) 1).getD j 0 + (dvR z16 (cwA q (b.row c) c t p) (b.row c) (-1)).getD j 0 := fun j => by
    unfold cwR
    exact dvR_two (n := 16) (fun i hi => by have := pl_bd (b.row c) (-1) 16 i hi; omega) j
  have hcv : cvR q b t p c = cwR q (b.row c) c t p := by unfold cvR; rw [if_neg hct]
  have hrel2 := hrel1 (cwA q (b.row c) c t p)
  have sB1 := sumB (cwA q (b.row c) c t p) 1 hA (.inl rfl)
  have sB2 := sumB (cwA q (b.row c) c t p) (-1) hA (.inr rfl)
  have zl1 := zl (cwA q (b.row c) c t p) 1
  have zl2 := zl (cwA q (b.row c) c t p) (-1)
  clear hrel1 sumB zl eA hnn hsle
  generalize cwA q (b.row c) c t p = A at *
  have o1 : OneC t (1224979098644774912) (stL t (dvZ A b.list c 1) O) := by
    have a := stL_one hiO (V := 4503599627370512) (by decide) (dvZ A b.list c 1) sB1
    exact ⟨a.d, a.c, fun p => by have := a.b p; omega⟩
  have l1 : (stL t (dvZ A b.list c 1) O).length ≤ O.length + 16 := by have a := stL_len t (dvZ A b.list c 1) O; omega
  have hinv : cwE q (b.row c) c t p = 0 → CvI b q t p (i + 1) (stL t (dvZ A b.list c (-1)) (stL t (dvZ A b.list c 1) O)) := fun hw => hstep _ _ rfl (dvZ A b.list c 1) (dvZ A b.list c (-1)) rfl rfl sB1 sB2 zl1 zl2 (.inr hw) (by
      intro p'
      rw [hrel2 p']
      split
      · dsimp only
        rw [hcv, hcwR]
      · rfl)
  have d1 := ref40_divide A (by omega) O b.list O.length b.list.length rfl rfl (by omega) (by omega) hLb c t 1 (.inl rfl) (f16 1) _ hiO (by omega)
  have d2 := ref40_divide A (by omega) (stL t (dvZ A b.list c 1) O) b.list _ b.list.length rfl rfl (by omega) (by omega) hLb c t (-1) (.inr rfl) (f16 (-1)) _ o1 (by omega)
  unfold diOut at d1 d2
  have he1 : diE A b.list c t 1 ≠ 0 → b.cvE q t p = diE A b.list c t 1 := fun w => hcE _ w (by rw [ew, if_pos w])
  have he2 : diE A b.list c t 1 = 0 → diE A b.list c t (-1) ≠ 0 → b.cvE q t p = diE A b.list c t (-1) := fun w w2 => hcE _ w2 (by rw [ew, if_neg (by simpa using w)])
  have he3 : diE A b.list c t 1 = 0 → diE A b.list c t (-1) = 0 → cwE q (b.row c) c t p = 0 := fun w w2 => by rw [ew, if_neg (by simpa using w)]; exact w2
  clear hstep hrel2 hcwR hcv sB1 sB2 plB pll x1 x2 hLd hst hcE ew
  generalize hO2 : stL t (dvZ A b.list c (-1)) (stL t (dvZ A b.list c 1) O) = O2 at *
  generalize hO1 : stL t (dvZ A b.list c 1) O = O1 at *
  generalize hE1 : diE A b.list c t 1 = E1 at *
  generalize hE2 : diE A b.list c t (-1) = E2 at *
  subst hcd
  generalize b.list = L at *
  generalize totK (b.row ((sortS b.cs).getD i ⟨#[]⟩)) 16 = TT at *
  repeat' ((conv => whnf); first | refine vcall_o (l := [0, 5]) (cT) ?_ | refine vcallD_o (l := [0, 5]) (cT) ?_ | refine vcall_o (l := [0, 4]) (cF) ?_ | refine vcallD_o (l := [0, 4]) (cF) ?_ | (refine vcall_pure (c2) rfl rfl rfl ?_) | (refine vcallD_pure (c2) rfl rfl rfl ?_) | ((first | apply br_dec | apply br_ndec) <;> intro h <;> try (exfalso; (try dsimp only at h); omega)) | ((first | apply br_seq | apply br_nseq | apply br_not | apply br_intro) <;> intro h) | refine cond_a ?_)
  all_goals (conv => whnf)
  all_goals first
    | (exfalso; first | omega | contradiction)
    | skip
  all_goals refine vloop_lp (cvS1 np ps rm R q t p b.m L (sortS b.cs) i ((sortS b.cs).getD i ⟨#[]⟩) A (oo3 O O1 O2)) (fun j => j ≤ 2 ∧ (1 ≤ j → E1 = 0) ∧ (2 ≤ j → E2 = 0)) (fun j => 3 - j) 0 [0, 1, 2, 3, 4, 5, 6, 7] [] ⟨rfl, ⟨rfl, rfl, rfl, rfl, rfl, rfl, rfl, rfl, rfl, rfl, trivial⟩, ⟨gwk rfl, rfl, rfl, rfl, rfl, rfl, rfl, rfl, trivial⟩⟩ ⟨Nat.zero_le _, fun q => by omega, fun q => by omega⟩ ?_
  rintro j ⟨hj, hj1, hj2⟩
  unfold cvS1
  rcases j with _ | _ | _ | j
  · by_cases E : E1 = 0
    · rw [if_neg (by simpa using E)] at d1
      repeat' ((conv => whnf); first | refine vcall_o (l := [0, 7, 5]) (d1) ?_ | refine vcallD_o (l := [0, 7, 5]) (d1) ?_ | ((first | apply br_dec | apply br_ndec) <;> intro h <;> try (exfalso; (try dsimp only at h); omega)) | ((first | apply br_seq | apply br_nseq | apply br_not | apply br_intro) <;> intro h) | refine cond_a ?_)
      all_goals (conv => whnf)
      all_goals first
        | exact ⟨1, [0, 1, 2, 3, 4, 5, 6, 8], [], ⟨by decide, fun _ => E, fun q => by omega⟩, (by decide), ⟨rfl, ⟨rfl, rfl, rfl, rfl, rfl, rfl, rfl, rfl, rfl, rfl, trivial⟩, ⟨gwk rfl, rfl, rfl, rfl, rfl, rfl, rfl, rfl, trivial⟩⟩⟩
        | (exfalso; first | omega | contradiction)
        | trace_state
    · rw [if_pos E] at d1
      rw [he1 E, if_pos E]
      repeat' ((conv => whnf); first | refine vcall_o (l := [0, 7, 5]) (d1) ?_ | refine vcallD_o (l := [0, 7, 5]) (d1) ?_ | ((first | apply br_dec | apply br_ndec) <;> intro h <;> try (exfalso; (try dsimp only at h); omega)) | ((first | apply br_seq | apply br_nseq | apply br_not | apply br_intro) <;> intro h) | refine cond_a ?_)
      all_goals (conv => whnf)
      all_goals first
        | exact ret_out (l := [0, 1, 2, 3, 4]) rfl rfl trivial allRw_nil
        | (exfalso; first | omega | contradiction)
        | trace_state
  · have E0 := hj1 (Nat.le_refl _)
    by_cases E : E2 = 0
    · rw [if_neg (by simpa using E)] at d2
      repeat' ((conv => whnf); first | refine vcall_o (l := [0, 7, 5]) (d2) ?_ | refine vcallD_o (l := [0, 7, 5]) (d2) ?_ | ((first | apply br_dec | apply br_ndec) <;> intro h <;> try (exfalso; (try dsimp only at h); omega)) | ((first | apply br_seq | apply br_nseq | apply br_not | apply br_intro) <;> intro h) | refine cond_a ?_)
      all_goals (conv => whnf)
      all_goals first
        | exact ⟨2, [0, 1, 2, 3, 4, 5, 6, 8], [], ⟨by decide, fun _ => E0, fun _ => E⟩, (by decide), ⟨rfl, ⟨rfl, rfl, rfl, rfl, rfl, rfl, rfl, rfl, rfl, rfl, trivial⟩, ⟨gwk rfl, rfl, rfl, rfl, rfl, rfl, rfl, rfl, trivial⟩⟩⟩
        | (exfalso; first | omega | contradiction)
        | trace_state
    · rw [if_pos E] at d2
      rw [he2 E0 E, if_pos E]
      repeat' ((conv => whnf); first | refine vcall_o (l := [0, 7, 5]) (d2) ?_ | refine vcallD_o (l := [0, 7, 5]) (d2) ?_ | ((first | apply br_dec | apply br_ndec) <;> intro h <;> try (exfalso; (try dsimp only at h); omega)) | ((first | apply br_seq | apply br_nseq | apply br_not | apply br_intro) <;> intro h) | refine cond_a ?_)
      all_goals (conv => whnf)
      all_goals first
        | exact ret_out (l := [0, 1, 2, 3, 4]) rfl rfl trivial allRw_nil
        | (exfalso; first | omega | contradiction)
        | trace_state
  · have E0 := hj1 (by omega)
    have E3 := hj2 (by omega)
    have hinv2 := hinv (he3 E0 E3)
    repeat' ((conv => whnf); first | ((first | apply br_dec | apply br_ndec) <;> intro h <;> try (exfalso; (try dsimp only at h); omega)) | ((first | apply br_seq | apply br_nseq | apply br_not | apply br_intro) <;> intro h) | refine cond_a ?_)
    all_goals (conv => whnf)
    all_goals first
      | exact ⟨(i + 1, O2), [0, 1, 2, 3, 4, 5, 6, 7], [], hinv2, (show b.m - (i + 1) < b.m - i by omega), ⟨rfl, ⟨rfl, rfl, rfl, rfl, rfl, rfl, congrArg (fun z => some (SV.int .i64 z)) (i64_succ (by omega)), trivial⟩, ⟨gwk rfl, rfl, rfl, rfl, rfl, rfl, rfl, rfl, trivial⟩⟩⟩
      | (exfalso; first | omega | contradiction)
      | trace_state
  · omega
end Go.Proofs.YtkbidlijinclcaaGreatDoor

/- The law PositionZero. -/
namespace Go.Proofs.YtkbidlijinclcaaGreatDoor
open Go.RowKit Go.Sy
attribute [local irreducible] vcall vloop vcallD retP
set_option maxRecDepth 100000
set_option linter.unusedVariables false
set_option linter.unusedSimpArgs false

theorem pos_ConvertX {b : Bk} (h : BkI b 4503599627370496) {np : Nat} {ps : List ByteArray} (hn : b.n = np) (hp : b.ps = ps) (hm : b.m ≤ 100000) (q : RL) (hq : q.l ≤ 1000) (t p : ByteArray) : FC Tryz.prog 5 19 [.ptr 1 0 0 0, .sl 4 0 0 q.l, .str t, .str p] ((0, some (GB glT)) :: (4, some (.one true (rlB q))) :: bkX true np ps b) (cvOut b q t p) := by
  subst hn hp; exact pos_Convert b (h.ok (Int.le_refl _)) (h.cok hm) q hq t p
abbrev zeH (l0 : Nat) (ps : List ByteArray) (n : Nat) (mf mt : List ByteArray) (ma : List Int) (mc : List ByteArray) (q : RL) : Heap := [(0, some (GB glT)), (1, some (.one true (.cols l0 [.sc (.strs ps)]))), (2, some (.one true (mvB n mf mt ma mc))), (3, some (.one true (rlB q)))]
abbrev zeA (np : Nat) (sp : List ByteArray) (A : Bk) : Heap := [(4, bkC false 5 6 np), (5, some (.one false (.cols np [.sc (.strs sp)]))), (6, bkM false A)]
end Go.Proofs.YtkbidlijinclcaaGreatDoor

/- The law PositionConverts. -/
namespace Go.Proofs.YtkbidlijinclcaaGreatDoor
open Go.RowKit Go.Sy
attribute [local irreducible] vcall vloop vcallD retP
set_option maxRecDepth 100000
set_option linter.unusedVariables false
set_option linter.unusedSimpArgs false

theorem same_nil : Pure Tryz.prog 14 [.nsl, .nsl] (.bool true) := by
  refine fc_of mixed T_ok Tryz.func14 rfl (by kernel_rfl) (by kernel_rfl) (by kernel_rfl) ?_
  repeat' ((conv => whnf); first | ((first | apply br_dec | apply br_ndec) <;> intro h <;> try (exfalso; (try dsimp only at h); omega)) | ((first | apply br_seq | apply br_nseq | apply br_not | apply br_intro) <;> intro h) | refine cond_a ?_)
  all_goals (conv => whnf)
  all_goals first
    | (exfalso; omega)
    | skip
  refine vloop_lp (fun _ : Unit => ⟨[(0, .nsl), (1, .nsl), (5, .int .i64 0)], [], 1⟩) (fun _ => True) (fun _ => 0) () [0] [] ⟨rfl, ⟨rfl, rfl, rfl, trivial⟩, trivial⟩ trivial ?_
  rintro u -
  repeat' ((conv => whnf); first | ((first | apply br_dec | apply br_ndec) <;> intro h <;> try (exfalso; (try dsimp only at h); omega)) | ((first | apply br_seq | apply br_nseq | apply br_not | apply br_intro) <;> intro h) | refine cond_a ?_)
  all_goals (conv => whnf)
  all_goals first
    | exact ret_pure rfl
    | (exfalso; omega)
    | trace_state
theorem sz_of {l : List ByteArray} (h : ∀ x ∈ l, x.size ≤ maxLen) (i : Nat) : (l.getD i ⟨#[]⟩).size ≤ 9223372036854775807 := by
  by_cases e : i < l.length
  · rw [List.getD, List.getElem?_eq_getElem e]; exact h _ (List.getElem_mem e)
  · rw [List.getD, List.getElem?_eq_none (by omega)]; decide
abbrev mcR (l0 m : Nat) (R : List Px) : Heap := [(7, some (.one false (.cells [.sl 1 0 0 l0, .sl 8 0 0 m]))), (8, some (.one false (pxB m (pxOf R))))]
theorem cvL_len (b : Bk) (q : RL) (t p : ByteArray) (h : b.n ≤ 16) : (b.cvL q t p).length ≤ 100000 := by
  have := liR_len (b.cvS q t p) b.ps t b.n
  unfold Bk.cvL; omega
set_option maxHeartbeats 3200000 in
theorem law_Converts (l0 : Nat) (ps : List ByteArray) (hl0 : ps.length = l0) (hl0m : l0 ≤ maxLen) (n : Nat) (mf mt : List ByteArray) (ma : List Int) (mc : List ByteArray) (hn : n ≤ maxLen) (q : RL) (hq : q.l ≤ maxLen) (hqz : ∀ i, (q.at i).f.size ≤ 9223372036854775807 ∧ (q.at i).t.size ≤ 9223372036854775807) (t p : ByteArray) (ht : t.size ≤ maxLen) :
    FC Tryz.prog 4 4 [.sl 1 0 0 l0, .sl 2 0 0 n, .sl 3 0 0 q.l, .str t, .str p] (zeH l0 ps n mf mt ma mc q) (isOut (.bool true) [] 4) := by
  have cw := law_awake
  have eM : maxLen = 9223372036854775807 := rfl
  have ch := law_short l0 ps hl0m
  have cs := law_small n mf mt ma mc q hn hq
  have z0 := same_nil
  cases hsh : shB ps l0 with
  | false =>
    rw [hsh] at ch
    refine fc_of mixed T_ok Tryz.func4 rfl (by kernel_rfl) (by kernel_rfl) (by kernel_rfl) ?_
    repeat' ((conv => whnf); first | refine vcall_o (l := [0, 1]) (ch) ?_ | refine vcall_o (l := [0, 2, 3]) (cs) ?_ | refine vcall_o (l := [0]) (cw) ?_ | refine vcallD_o (l := [0]) (cw) ?_ | ((first | apply br_dec | apply br_ndec) <;> intro h <;> try (exfalso; (try dsimp only at h); omega)) | ((first | apply br_seq | apply br_nseq | apply br_not | apply br_intro) <;> intro h) | refine cond_a ?_)
    all_goals (conv => whnf)
    all_goals first
      | exact ret_out (l := [0, 1, 2, 3]) rfl rfl trivial allRw_nil
      | (exfalso; first | omega | contradiction)
      | trace_state
  | true =>
  rw [hsh] at ch
  obtain ⟨h20, hsz⟩ := shB_ok hsh hl0
  cases hsm : smB mf mt mc n q with
  | false =>
    rw [hsm] at cs
    refine fc_of mixed T_ok Tryz.func4 rfl (by kernel_rfl) (by kernel_rfl) (by kernel_rfl) ?_
    repeat' ((conv => whnf); first | refine vcall_o (l := [0, 1]) (ch) ?_ | refine vcall_o (l := [0, 2, 3]) (cs) ?_ | refine vcall_o (l := [0]) (cw) ?_ | refine vcallD_o (l := [0]) (cw) ?_ | ((first | apply br_dec | apply br_ndec) <;> intro h <;> try (exfalso; (try dsimp only at h); omega)) | ((first | apply br_seq | apply br_nseq | apply br_not | apply br_intro) <;> intro h) | refine cond_a ?_)
    all_goals (conv => whnf)
    all_goals first
      | exact ret_out (l := [0, 1, 2, 3]) rfl rfl trivial allRw_nil
      | (exfalso; first | omega | contradiction)
      | trace_state
  | true =>
  rw [hsm] at cs
  have h60 := (smB_ok hsm).1
  have h20q := (smB_ok hsm).2
  have c0 := pos_NewA ps l0 hl0
  have r0 := ref40_New ps l0 hl0 hsz
  unfold nwOut at c0
  unfold rnOut at r0
  by_cases he : nwErr ps = 0
  case neg =>
    rw [if_pos he] at c0 r0
    generalize nwErr ps = er at *
    refine fc_of mixed T_ok Tryz.func4 rfl (by kernel_rfl) (by kernel_rfl) (by kernel_rfl) ?_
    repeat' ((conv => whnf); first | refine vcall_o (l := [0, 1]) (ch) ?_ | refine vcall_o (l := [0, 2, 3]) (cs) ?_ | refine vcall_o (l := [0, 1]) (c0) ?_ | refine vcall_o (l := [0, 1]) (r0) ?_ | refine vcall_o (l := [0]) (cw) ?_ | refine vcallD_o (l := [0]) (cw) ?_ | ((first | apply br_dec | apply br_ndec) <;> intro h <;> try (exfalso; (try dsimp only at h); omega)) | ((first | apply br_seq | apply br_nseq | apply br_not | apply br_intro) <;> intro h) | refine cond_a ?_)
    all_goals (conv => whnf)
    all_goals first
      | exact ret_out (l := [0, 1, 2, 3]) rfl rfl trivial allRw_nil
      | (exfalso; first | omega | contradiction)
      | trace_state
  rw [if_neg (by simpa using he), hl0] at c0
  rw [if_neg (by simpa using he)] at r0
  have hI0 := nwB_I he
  obtain ⟨h16, hnd, _⟩ := nw_ok he
  have hps0 : (nwB ps).ps = sortS ps := rfl
  have hn0 : (nwB ps).n = l0 := hl0
  have hm0 : (nwB ps).m = 0 := rfl
  have hR0 : RlB (nwB ps) [] := rl_new
  have hasc := sortS_pairwise hnd
  have hprm := sortS_perm ps
  unfold bkP at c0
  rw [hn0, hps0] at c0
  generalize nwB ps = b0 at *
  generalize sortS ps = sp at *
  refine fc_of mixed T_ok Tryz.func4 rfl (by kernel_rfl) (by kernel_rfl) (by kernel_rfl) ?_
  repeat' ((conv => whnf); first | refine vcall_o (l := [0, 1]) (ch) ?_ | refine vcall_o (l := [0, 2, 3]) (cs) ?_ | refine vcall_o (l := [0, 1]) (c0) ?_ | refine vcall_o (l := [0, 1]) (r0) ?_ | refine vcall_o (l := [0]) (cw) ?_ | refine vcallD_o (l := [0]) (cw) ?_ | ((first | apply br_dec | apply br_ndec) <;> intro h <;> try (exfalso; (try dsimp only at h); omega)) | ((first | apply br_seq | apply br_nseq | apply br_not | apply br_intro) <;> intro h) | refine cond_a ?_)
  all_goals (conv => whnf)
  all_goals first
    | exact ret_out (l := [0, 1, 2, 3]) rfl rfl trivial allRw_nil
    | (exfalso; first | omega | contradiction)
    | skip
  refine vloop_lp (fun x : Nat × Bk × List Px => ⟨[(1, .sl 2 0 0 n), (2, .sl 3 0 0 q.l), (3, .str t), (4, .str p), (11, .ptr 4 0 0 0), (13, .ptr 7 0 0 0), (15, .int .i64 x.1)], zeH l0 ps n mf mt ma mc q ++ (zeA l0 sp x.2.1 ++ mcR l0 x.2.2.length x.2.2), 9⟩) (fun x => x.1 ≤ n ∧ BkI x.2.1 4503599627370496 ∧ x.2.1.n = l0 ∧ x.2.1.ps = sp ∧ x.2.1.m ≤ x.1 ∧ RlB x.2.1 x.2.2 ∧ x.2.2.length ≤ 2 * x.1) (fun x => n - x.1) (0, b0, []) [0, 1, 2, 3, 4, 5, 6, 7, 8] [.cell 7 1 [.sc (.strs []), .sc (.ints .i64 []), .sc (.strs [])]] ⟨rfl, ⟨rfl, rfl, rfl, rfl, rfl, rfl, rfl, trivial⟩, ⟨gwk rfl, rfl, rfl, rfl, rfl, rfl, rfl, rfl, rfl, trivial⟩⟩ ⟨Nat.zero_le _, hI0.up (by decide), hn0, hps0, by dsimp only; omega, hR0, Nat.le_refl _⟩ ?_
  rintro ⟨i, b, R⟩ ⟨hi, hbI, hbn, hbp, hbm, hbR, hRl⟩
  dsimp only at hi hbI hbn hbp hbm hbR hRl
  have hpp : b.ps.Perm ps := hbp ▸ hprm
  have hpa : b.ps.Pairwise (fun a b => strLt a b = true) := hbp ▸ hasc
  by_cases hi2 : i < n
  · have d1 := pos_MoveX hbI hbn hbp (mf.getD i ⟨#[]⟩) (mt.getD i ⟨#[]⟩) (mc.getD i ⟨#[]⟩) (ma.getD i 0)
    have d2 := ref40_Move l0 ps (by omega) R R.length rfl (by omega) (mf.getD i ⟨#[]⟩) (mt.getD i ⟨#[]⟩) (mc.getD i ⟨#[]⟩) (ma.getD i 0) (fun p c => by rw [hbR.net]; exact netI_bd hbI (by decide) p c)
    obtain ⟨k1, k2⟩ := rl_move hbI hpp hbR (mf.getD i ⟨#[]⟩) (mt.getD i ⟨#[]⟩) (mc.getD i ⟨#[]⟩) (ma.getD i 0)
    have hb2 := mv_I hbI (mf.getD i ⟨#[]⟩) (mt.getD i ⟨#[]⟩) (mc.getD i ⟨#[]⟩) (ma.getD i 0)
    have hp2 := mv_ps b (mf.getD i ⟨#[]⟩) (mt.getD i ⟨#[]⟩) (mc.getD i ⟨#[]⟩) (ma.getD i 0)
    have hm2 := mv_m b (mf.getD i ⟨#[]⟩) (mt.getD i ⟨#[]⟩) (mc.getD i ⟨#[]⟩) (ma.getD i 0)
    rw [rmE_np hbn] at k1
    unfold rmOut at d2
    rw [k1] at d2
    by_cases g : mvE b (mf.getD i ⟨#[]⟩) (mt.getD i ⟨#[]⟩) (mc.getD i ⟨#[]⟩) (ma.getD i 0) = 0
    · rw [if_pos g] at d2
      rw [g] at d1
      have hRR := k2 g
      have hl2 : (rmR R (mf.getD i ⟨#[]⟩) (mt.getD i ⟨#[]⟩) (mc.getD i ⟨#[]⟩) (ma.getD i 0)).length ≤ R.length + 2 := by
        unfold rmR
        have a1 := putR_len R (mf.getD i ⟨#[]⟩) (mc.getD i ⟨#[]⟩) (netR R (mf.getD i ⟨#[]⟩) (mc.getD i ⟨#[]⟩) - ma.getD i 0)
        have a2 := putR_len (putR R (mf.getD i ⟨#[]⟩) (mc.getD i ⟨#[]⟩) (netR R (mf.getD i ⟨#[]⟩) (mc.getD i ⟨#[]⟩) - ma.getD i 0)) (mt.getD i ⟨#[]⟩) (mc.getD i ⟨#[]⟩) (netR R (mt.getD i ⟨#[]⟩) (mc.getD i ⟨#[]⟩) + ma.getD i 0)
        omega
      generalize rmR R (mf.getD i ⟨#[]⟩) (mt.getD i ⟨#[]⟩) (mc.getD i ⟨#[]⟩) (ma.getD i 0) = R2 at *
      generalize b.mv (mf.getD i ⟨#[]⟩) (mt.getD i ⟨#[]⟩) (mc.getD i ⟨#[]⟩) (ma.getD i 0) = b2 at *
      have hinv : i + 1 ≤ n ∧ BkI b2 4503599627370496 ∧ b2.n = l0 ∧ b2.ps = sp ∧ b2.m ≤ i + 1 ∧ RlB b2 R2 ∧ R2.length ≤ 2 * (i + 1) := ⟨hi2, hb2, hp2.2.trans hbn, hp2.1.trans hbp, by omega, hRR, by omega⟩
      repeat' ((conv => whnf); first | refine vcall_o (l := [0, 4, 5, 6]) (d1) ?_ | refine vcallD_o (l := [0, 4, 5, 6]) (d1) ?_ | refine vcall_o (l := [0, 7, 1, 8]) (d2) ?_ | refine vcallD_o (l := [0, 7, 1, 8]) (d2) ?_ | ((first | apply br_dec | apply br_ndec) <;> intro h <;> try (exfalso; (try dsimp only at h); omega)) | ((first | apply br_seq | apply br_nseq | apply br_not | apply br_intro) <;> intro h) | refine cond_a ?_)
      all_goals (conv => whnf)
      all_goals first
        | exact ⟨(i + 1, b2, R2), [0, 1, 2, 3, 4, 5, 6, 7, 9], [], hinv, (show n - (i + 1) < n - i by omega), ⟨rfl, ⟨rfl, rfl, rfl, rfl, rfl, rfl, congrArg (fun z => some (SV.int .i64 z)) (i64_succ (by omega)), trivial⟩, ⟨gwk rfl, rfl, rfl, rfl, rfl, rfl, rfl, rfl, rfl, trivial⟩⟩⟩
        | (exfalso; first | omega | contradiction)
        | trace_state
    · rw [if_neg g] at d2
      rw [mv_err g] at d1
      have hinv : i + 1 ≤ n ∧ BkI b 4503599627370496 ∧ b.n = l0 ∧ b.ps = sp ∧ b.m ≤ i + 1 ∧ RlB b R ∧ R.length ≤ 2 * (i + 1) := ⟨hi2, hbI, hbn, hbp, by omega, hbR, by omega⟩
      generalize mvE b (mf.getD i ⟨#[]⟩) (mt.getD i ⟨#[]⟩) (mc.getD i ⟨#[]⟩) (ma.getD i 0) = er at *
      repeat' ((conv => whnf); first | refine vcall_o (l := [0, 4, 5, 6]) (d1) ?_ | refine vcallD_o (l := [0, 4, 5, 6]) (d1) ?_ | refine vcall_o (l := [0, 7, 1, 8]) (d2) ?_ | refine vcallD_o (l := [0, 7, 1, 8]) (d2) ?_ | ((first | apply br_dec | apply br_ndec) <;> intro h <;> try (exfalso; (try dsimp only at h); omega)) | ((first | apply br_seq | apply br_nseq | apply br_not | apply br_intro) <;> intro h) | refine cond_a ?_)
      all_goals (conv => whnf)
      all_goals first
        | exact ⟨(i + 1, b, R), [0, 1, 2, 3, 4, 5, 6, 7, 8], [], hinv, (show n - (i + 1) < n - i by omega), ⟨rfl, ⟨rfl, rfl, rfl, rfl, rfl, rfl, congrArg (fun z => some (SV.int .i64 z)) (i64_succ (by omega)), trivial⟩, ⟨gwk rfl, rfl, rfl, rfl, rfl, rfl, rfl, rfl, rfl, trivial⟩⟩⟩
        | (exfalso; first | omega | contradiction)
        | trace_state
  have la := pos_ListX hbI hbn hbp (by omega)
  have cS := law_same (pxOf b.list) b.list.length (list_le b hbI.n16 (by omega))
  have v1 := pos_ConvertX hbI hbn hbp (by omega) q (by omega) t p
  have v2 := ref40_Convert hbI hbn ps hpa hbR rfl (by omega) (by omega) q (by omega) hqz t p (by omega)
  have hcl := cvL_len b q t p hbI.n16
  have cS2 := law_same (pxOf (b.cvL q t p)) (b.cvL q t p).length hcl
  unfold cvOut at v1 v2
  by_cases hE : b.cvE q t p = 0
  · rw [if_neg (by simpa using hE)] at v1 v2
    generalize b.list = LL at *
    generalize b.cvL q t p = VL at *
    repeat' ((conv => whnf); first | refine vcall_o (l := [0, 4, 5, 6]) (la) ?_ | refine vcallD_o (l := [0, 4, 5, 6]) (la) ?_ | refine vcall_o (l := [0, 4, 5, 6, 3]) (v1) ?_ | refine vcallD_o (l := [0, 4, 5, 6, 3]) (v1) ?_ | refine vcall_o (l := [0, 7, 1, 8, 3]) (v2) ?_ | refine vcallD_o (l := [0, 7, 1, 8, 3]) (v2) ?_ | refine vcall_o (l := [0, 10, 11]) (cS2) ?_ | refine vcallD_o (l := [0, 10, 11]) (cS2) ?_ | refine vcall_o (l := [0, 12, 9]) (cS) ?_ | refine vcallD_o (l := [0, 12, 9]) (cS) ?_ | refine vcall_o (l := [0]) (cw) ?_ | refine vcallD_o (l := [0]) (cw) ?_ | ((first | apply br_dec | apply br_ndec) <;> intro h <;> try (exfalso; (try dsimp only at h); omega)) | ((first | apply br_seq | apply br_nseq | apply br_not | apply br_intro) <;> intro h) | refine cond_a ?_)
    all_goals (conv => whnf)
    all_goals first
      | exact ret_out (l := [0, 1, 2, 3]) rfl rfl trivial allRw_nil
      | (exfalso; first | omega | contradiction)
      | trace_state
  · rw [if_pos hE] at v1 v2
    generalize b.list = LL at *
    generalize b.cvE q t p = er at *
    repeat' ((conv => whnf); first | refine vcall_o (l := [0, 4, 5, 6]) (la) ?_ | refine vcallD_o (l := [0, 4, 5, 6]) (la) ?_ | refine vcall_o (l := [0, 4, 5, 6, 3]) (v1) ?_ | refine vcallD_o (l := [0, 4, 5, 6, 3]) (v1) ?_ | refine vcall_o (l := [0, 7, 1, 8, 3]) (v2) ?_ | refine vcallD_o (l := [0, 7, 1, 8, 3]) (v2) ?_ | (refine vcall_pure (z0) rfl rfl rfl ?_) | (refine vcallD_pure (z0) rfl rfl rfl ?_) | refine vcall_o (l := [0, 10, 9]) (cS) ?_ | refine vcallD_o (l := [0, 10, 9]) (cS) ?_ | refine vcall_o (l := [0]) (cw) ?_ | refine vcallD_o (l := [0]) (cw) ?_ | ((first | apply br_dec | apply br_ndec) <;> intro h <;> try (exfalso; (try dsimp only at h); omega)) | ((first | apply br_seq | apply br_nseq | apply br_not | apply br_intro) <;> intro h) | refine cond_a ?_)
    all_goals (conv => whnf)
    all_goals first
      | exact ret_out (l := [0, 1, 2, 3]) rfl rfl trivial allRw_nil
      | (exfalso; first | omega | contradiction)
      | trace_state
end Go.Proofs.YtkbidlijinclcaaGreatDoor

