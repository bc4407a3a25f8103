/- Several texts in one: XPzA, XPzB, XPzC, XPzD, XPosU, XPzE, XPzF. -/
import Derived.Test.YtkbidlijinclcaaGreatDoorPz2
/- Contracts: the reference's names, lists of texts, new books, the order of positions. -/
namespace Go.Proofs.YtkbidlijinclcaaGreatDoor
open Go.RowKit Go.Sy
attribute [local irreducible] vcall vloop vcallD retP
set_option maxRecDepth 100000
set_option linter.unusedVariables false
set_option linter.unusedSimpArgs false

def idC (c : Int) : Prop := (97 ≤ c ∧ c ≤ 122) ∨ (65 ≤ c ∧ c ≤ 90) ∨ (48 ≤ c ∧ c ≤ 57) ∨ c = 95 ∨ c = 45
instance (c : Int) : Decidable (idC c) := by unfold idC; infer_instance
/-- An identification. -/
def idB (s : ByteArray) : Bool := decide (∀ k, k < s.size → idC (byteAt s (k : Int))) && decide (1 ≤ s.size) && decide (s.size ≤ 16)
theorem idB_no {s : ByteArray} {k : Nat} (h : k < s.size) (hc : ¬ idC (byteAt s (k : Int))) : idB s = false := by
  unfold idB
  rw [decide_eq_false (fun hh => hc (hh k h))]
  rfl
theorem idB_all {s : ByteArray} (h : ∀ k, k < s.size → idC (byteAt s (k : Int))) : idB s = (decide (1 ≤ s.size) && decide (s.size ≤ 16)) := by
  unfold idB
  rw [decide_eq_true h]
  rfl
theorem idB_t {s : ByteArray} (h : idB s = true) : (∀ k, k < s.size → idC (byteAt s (k : Int))) ∧ 1 ≤ s.size ∧ s.size ≤ 16 := by
  unfold idB at h
  simp only [Bool.and_eq_true, decide_eq_true_eq] at h
  exact ⟨h.1.1, h.1.2, h.2⟩
theorem to_succ {s : ByteArray} {k : Nat} (h : ∀ i, i < k → idC (byteAt s (i : Int))) (hk : idC (byteAt s (k : Int))) : ∀ i, i < k + 1 → idC (byteAt s (i : Int)) := by
  intro i hi
  by_cases e : i = k
  · subst e; exact hk
  · exact h i (by omega)
theorem ref15_IsId (s : ByteArray) (hs : s.size ≤ 9223372036854775807) : Pure Tryz.prog 50 [.str s] (.bool (idB s)) := by
  refine fc_of mixed T_ok Tryz.func50 rfl (by kernel_rfl) (by kernel_rfl) (by kernel_rfl) ?_
  (conv => whnf)
  refine vloop_lp (fun k : Nat => ⟨[(0, .str s), (3, .int .i64 k)], [], 1⟩) (fun k => k ≤ s.size ∧ ∀ i, i < k → idC (byteAt s (i : Int))) (fun k => s.size - k) 0 [0] [] ⟨rfl, ⟨rfl, rfl, trivial⟩, trivial⟩ ⟨by omega, fun i hi => by omega⟩ ?_
  rintro k ⟨hk, hc⟩
  by_cases hk2 : k < s.size
  · by_cases hi : idC (byteAt s (k : Int))
    · have hn := to_succ hc hi
      unfold idC at hi
      repeat' ((conv => whnf); first | (refine br_dec (fun h => ?_) (fun h => ?_) <;> try (exfalso; (try dsimp only at h); omega)) | (refine br_ndec (fun h => ?_) (fun h => ?_) <;> try (exfalso; (try dsimp only at h); omega)) | refine br_seq (fun h => ?_) (fun h => ?_) | refine br_nseq (fun h => ?_) (fun h => ?_) | refine br_not (fun h => ?_) (fun h => ?_) | refine br_intro (fun h => ?_) (fun h => ?_) | refine cond_intro rfl ?_ | (refine cond_intro ⟨rfl, ?_⟩ ?_; (first | omega | (dsimp only; omega) | decide)) | (refine cond_intro ?_ ?_; (first | omega | (dsimp only; omega) | decide | (simp only [Nat.add_zero, Int.toNat_natCast, *]; omega))))
      all_goals (conv => whnf)
      all_goals first
        | exact ⟨k + 1, [0], [], ⟨hk2, hn⟩, (show s.size - (k + 1) < s.size - k by omega), ⟨rfl, ⟨rfl, congrArg (fun z => some (SV.int .i64 z)) (i64_succ' (by omega)), trivial⟩, trivial⟩⟩
        | (exfalso; first | omega | (simp at *; omega))
        | trace_state
    · rw [idB_no hk2 hi]
      unfold idC at hi
      repeat' ((conv => whnf); first | (refine br_dec (fun h => ?_) (fun h => ?_) <;> try (exfalso; (try dsimp only at h); omega)) | (refine br_ndec (fun h => ?_) (fun h => ?_) <;> try (exfalso; (try dsimp only at h); omega)) | refine br_seq (fun h => ?_) (fun h => ?_) | refine br_nseq (fun h => ?_) (fun h => ?_) | refine br_not (fun h => ?_) (fun h => ?_) | refine br_intro (fun h => ?_) (fun h => ?_) | refine cond_intro rfl ?_ | (refine cond_intro ⟨rfl, ?_⟩ ?_; (first | omega | (dsimp only; omega) | decide)) | (refine cond_intro ?_ ?_; (first | omega | (dsimp only; omega) | decide | (simp only [Nat.add_zero, Int.toNat_natCast, *]; omega))))
      all_goals (conv => whnf)
      all_goals first
        | exact ret_pure rfl
        | (exfalso; first | omega | (simp at *; omega))
        | trace_state
  · have e : k = s.size := by omega
    subst e
    rw [idB_all hc]
    by_cases w1 : 1 ≤ s.size <;> by_cases w2 : s.size ≤ 16
    all_goals simp only [w1, w2, decide_true, decide_false, Bool.and_true, Bool.and_false, Bool.true_and, Bool.false_and]
    all_goals repeat' ((conv => whnf); first | (refine br_dec (fun h => ?_) (fun h => ?_) <;> try (exfalso; (try dsimp only at h); omega)) | (refine br_ndec (fun h => ?_) (fun h => ?_) <;> try (exfalso; (try dsimp only at h); omega)) | refine br_seq (fun h => ?_) (fun h => ?_) | refine br_nseq (fun h => ?_) (fun h => ?_) | refine br_not (fun h => ?_) (fun h => ?_) | refine br_intro (fun h => ?_) (fun h => ?_) | refine cond_intro rfl ?_ | (refine cond_intro ⟨rfl, ?_⟩ ?_; (first | omega | (dsimp only; omega) | decide)) | (refine cond_intro ?_ ?_; (first | omega | (dsimp only; omega) | decide | (simp only [Nat.add_zero, Int.toNat_natCast, *]; omega))))
    all_goals (conv => whnf)
    all_goals first
      | exact ret_pure rfl
      | exact ret_pure (congrArg SV.bool (decide_eq_true (by omega)))
      | exact ret_pure (congrArg SV.bool (decide_eq_false (by omega)))
      | (exfalso; omega)
      | trace_state
theorem nmB_t {s : ByteArray} : nmB s = true ↔ idB s = true ∧ ltP (byteAt s 0) ∧ ∀ k, k < s.size → byteAt s (k : Int) ≠ 45 := by
  constructor
  · intro h
    unfold nmB at h
    simp only [Bool.and_eq_true, decide_eq_true_eq] at h
    have hw := fun k (hk : k < s.size) => wdTo_at hk h.2
    refine ⟨?_, h.1.2, fun k hk => ?_⟩
    · rw [idB_all (fun k hk => by have := hw k hk; unfold wdP ltP at this; unfold idC; omega), decide_eq_true h.1.1.1, decide_eq_true h.1.1.2]; rfl
    · have := hw k hk; unfold wdP ltP at this; omega
  · rintro ⟨h1, h2, h3⟩
    obtain ⟨g1, g2, g3⟩ := idB_t h1
    unfold nmB
    have hw : wdTo s s.size = true := by
      cases e : wdTo s s.size with
      | true => rfl
      | false =>
        obtain ⟨k, q1, _, q3⟩ := wdTo_first _ e
        exfalso
        have a := g1 k q1
        have b := h3 k q1
        unfold idC at a
        unfold wdP ltP at q3
        omega
    rw [hw, decide_eq_true g2, decide_eq_true g3, decide_eq_true h2]; rfl
theorem nmB_f {s : ByteArray} (h : ¬ (idB s = true ∧ ltP (byteAt s 0) ∧ ∀ k, k < s.size → byteAt s (k : Int) ≠ 45)) : nmB s = false := by
  cases e : nmB s with
  | false => rfl
  | true => exact absurd (nmB_t.1 e) h
theorem ref15_IsName (s : ByteArray) (hs : s.size ≤ 9223372036854775807) : Pure Tryz.prog 25 [.str s] (.bool (nmB s)) := by
  have c := ref15_IsId s hs
  cases hid : idB s with
  | false =>
    rw [hid] at c
    rw [nmB_f (fun h => by rw [hid] at h; exact absurd h.1 (by decide))]
    refine fc_of mixed T_ok Tryz.func25 rfl (by kernel_rfl) (by kernel_rfl) (by kernel_rfl) ?_
    repeat' ((conv => whnf); first | (refine vcall_pure (c) rfl rfl rfl ?_) | (refine vcallD_pure (c) rfl rfl rfl ?_) | (refine br_dec (fun h => ?_) (fun h => ?_) <;> try (exfalso; (try dsimp only at h); omega)) | (refine br_ndec (fun h => ?_) (fun h => ?_) <;> try (exfalso; (try dsimp only at h); omega)) | refine br_seq (fun h => ?_) (fun h => ?_) | refine br_nseq (fun h => ?_) (fun h => ?_) | refine br_not (fun h => ?_) (fun h => ?_) | refine br_intro (fun h => ?_) (fun h => ?_) | refine cond_intro rfl ?_ | (refine cond_intro ⟨rfl, ?_⟩ ?_; (first | omega | (dsimp only; omega) | decide)) | (refine cond_intro ?_ ?_; (first | omega | (dsimp only; omega) | decide | (simp only [Nat.add_zero, Int.toNat_natCast, *]; omega))))
    all_goals (conv => whnf)
    all_goals first
      | exact ret_pure rfl
      | (exfalso; omega)
      | trace_state
  | true =>
  rw [hid] at c
  obtain ⟨g1, g2, g3⟩ := idB_t hid
  by_cases hl : ltP (byteAt s 0)
  case neg =>
    rw [nmB_f (fun h => hl h.2.1)]
    unfold ltP at hl
    refine fc_of mixed T_ok Tryz.func25 rfl (by kernel_rfl) (by kernel_rfl) (by kernel_rfl) ?_
    repeat' ((conv => whnf); first | (refine vcall_pure (c) rfl rfl rfl ?_) | (refine vcallD_pure (c) rfl rfl rfl ?_) | (refine br_dec (fun h => ?_) (fun h => ?_) <;> try (exfalso; (try dsimp only at h); omega)) | (refine br_ndec (fun h => ?_) (fun h => ?_) <;> try (exfalso; (try dsimp only at h); omega)) | refine br_seq (fun h => ?_) (fun h => ?_) | refine br_nseq (fun h => ?_) (fun h => ?_) | refine br_not (fun h => ?_) (fun h => ?_) | refine br_intro (fun h => ?_) (fun h => ?_) | refine cond_intro rfl ?_ | (refine cond_intro ⟨rfl, ?_⟩ ?_; (first | omega | (dsimp only; omega) | decide)) | (refine cond_intro ?_ ?_; (first | omega | (dsimp only; omega) | decide | (simp only [Nat.add_zero, Int.toNat_natCast, *]; omega))))
    all_goals (conv => whnf)
    all_goals first
      | exact ret_pure rfl
      | (exfalso; first | omega | (simp at *; omega))
      | trace_state
  have hl2 := hl
  unfold ltP at hl2
  refine fc_of mixed T_ok Tryz.func25 rfl (by kernel_rfl) (by kernel_rfl) (by kernel_rfl) ?_
  repeat' ((conv => whnf); first | (refine vcall_pure (c) rfl rfl rfl ?_) | (refine vcallD_pure (c) rfl rfl rfl ?_) | (refine br_dec (fun h => ?_) (fun h => ?_) <;> try (exfalso; (try dsimp only at h); omega)) | (refine br_ndec (fun h => ?_) (fun h => ?_) <;> try (exfalso; (try dsimp only at h); omega)) | refine br_seq (fun h => ?_) (fun h => ?_) | refine br_nseq (fun h => ?_) (fun h => ?_) | refine br_not (fun h => ?_) (fun h => ?_) | refine br_intro (fun h => ?_) (fun h => ?_) | refine cond_intro rfl ?_ | (refine cond_intro ⟨rfl, ?_⟩ ?_; (first | omega | (dsimp only; omega) | decide)) | (refine cond_intro ?_ ?_; (first | omega | (dsimp only; omega) | decide | (simp only [Nat.add_zero, Int.toNat_natCast, *]; omega))))
  all_goals (conv => whnf)
  all_goals first
    | (exfalso; first | omega | (simp at *; omega))
    | skip
  all_goals refine vloop_lp (fun k : Nat => ⟨[(0, .str s), (3, .int .i64 k)], [], 1⟩) (fun k => k ≤ s.size ∧ ∀ i, i < k → byteAt s (i : Int) ≠ 45) (fun k => s.size - k) 0 [0] [] ⟨rfl, ⟨rfl, rfl, trivial⟩, trivial⟩ ⟨by omega, fun i hi => by omega⟩ ?_
  all_goals rintro k ⟨hk, hc⟩
  all_goals by_cases hk2 : k < s.size
  all_goals first
    | (by_cases h45 : byteAt s (k : Int) = 45
       · rw [nmB_f (fun h => h.2.2 k hk2 h45)]
         repeat' ((conv => whnf); first | (refine br_dec (fun h => ?_) (fun h => ?_) <;> try (exfalso; (try dsimp only at h); omega)) | (refine br_ndec (fun h => ?_) (fun h => ?_) <;> try (exfalso; (try dsimp only at h); omega)) | refine br_seq (fun h => ?_) (fun h => ?_) | refine br_nseq (fun h => ?_) (fun h => ?_) | refine br_not (fun h => ?_) (fun h => ?_) | refine br_intro (fun h => ?_) (fun h => ?_) | refine cond_intro rfl ?_ | (refine cond_intro ⟨rfl, ?_⟩ ?_; (first | omega | (dsimp only; omega) | decide)) | (refine cond_intro ?_ ?_; (first | omega | (dsimp only; omega) | decide | (simp only [Nat.add_zero, Int.toNat_natCast, *]; omega))))
         all_goals (conv => whnf)
         all_goals first
           | exact ret_pure rfl
           | (exfalso; omega)
       · have hn : ∀ i, i < k + 1 → byteAt s (i : Int) ≠ 45 := fun i hi => by
           by_cases e : i = k
           · subst e; exact h45
           · exact hc i (by omega)
         repeat' ((conv => whnf); first | (refine br_dec (fun h => ?_) (fun h => ?_) <;> try (exfalso; (try dsimp only at h); omega)) | (refine br_ndec (fun h => ?_) (fun h => ?_) <;> try (exfalso; (try dsimp only at h); omega)) | refine br_seq (fun h => ?_) (fun h => ?_) | refine br_nseq (fun h => ?_) (fun h => ?_) | refine br_not (fun h => ?_) (fun h => ?_) | refine br_intro (fun h => ?_) (fun h => ?_) | refine cond_intro rfl ?_ | (refine cond_intro ⟨rfl, ?_⟩ ?_; (first | omega | (dsimp only; omega) | decide)) | (refine cond_intro ?_ ?_; (first | omega | (dsimp only; omega) | decide | (simp only [Nat.add_zero, Int.toNat_natCast, *]; omega))))
         all_goals (conv => whnf)
         all_goals first
           | exact ⟨k + 1, [0], [], ⟨hk2, hn⟩, (show s.size - (k + 1) < s.size - k by omega), ⟨rfl, ⟨rfl, congrArg (fun z => some (SV.int .i64 z)) (i64_succ' (by omega)), trivial⟩, trivial⟩⟩
           | (exfalso; omega))
    | (have e : k = s.size := by omega
       subst e
       rw [nmB_t.2 ⟨hid, hl, hc⟩]
       repeat' ((conv => whnf); first | (refine br_dec (fun h => ?_) (fun h => ?_) <;> try (exfalso; (try dsimp only at h); omega)) | (refine br_ndec (fun h => ?_) (fun h => ?_) <;> try (exfalso; (try dsimp only at h); omega)) | refine br_seq (fun h => ?_) (fun h => ?_) | refine br_nseq (fun h => ?_) (fun h => ?_) | refine br_not (fun h => ?_) (fun h => ?_) | refine br_intro (fun h => ?_) (fun h => ?_) | refine cond_intro rfl ?_ | (refine cond_intro ⟨rfl, ?_⟩ ?_; (first | omega | (dsimp only; omega) | decide)) | (refine cond_intro ?_ ?_; (first | omega | (dsimp only; omega) | decide | (simp only [Nat.add_zero, Int.toNat_natCast, *]; omega))))
       all_goals (conv => whnf)
       all_goals first
         | exact ret_pure rfl
         | (exfalso; omega))
    | trace_state
/-- A text is among the first of a list. -/
def inK (ps : List ByteArray) (s : ByteArray) : Nat → Bool
  | 0 => false
  | k + 1 => inK ps s k || seq (ps.getD k ⟨#[]⟩) s
theorem inK_t {ps : List ByteArray} {s : ByteArray} : ∀ {k : Nat}, inK ps s k = true ↔ ∃ j, j < k ∧ ps.getD j ⟨#[]⟩ = s
  | 0 => by simp [inK]
  | k + 1 => by
    simp only [inK, Bool.or_eq_true, inK_t (k := k), seq_tr]
    constructor
    · rintro (⟨j, h1, h2⟩ | h)
      · exact ⟨j, by omega, h2⟩
      · exact ⟨k, by omega, h⟩
    · rintro ⟨j, h1, h2⟩
      by_cases e : j = k
      · subst e; exact .inr h2
      · exact .inl ⟨j, by omega, h2⟩
theorem ref40_in (n : Nat) (ps : List ByteArray) (s : ByteArray) (m : Nat) (hm : m ≤ n) (hn : n ≤ 1000000) : FC Tryz.prog 2 26 [.sl 1 0 0 m, .str s] [(1, some (.one true (.cols n [.sc (.strs ps)])))] (isOut (.bool (inK ps s m)) [] 2) := by
  refine fc_of mixed T_ok Tryz.func26 rfl (by kernel_rfl) (by kernel_rfl) (by kernel_rfl) ?_
  repeat' ((conv => whnf); first | (refine br_dec (fun h => ?_) (fun h => ?_) <;> try (exfalso; (try dsimp only at h); omega)) | (refine br_ndec (fun h => ?_) (fun h => ?_) <;> try (exfalso; (try dsimp only at h); omega)) | refine br_seq (fun h => ?_) (fun h => ?_) | refine br_nseq (fun h => ?_) (fun h => ?_) | refine br_not (fun h => ?_) (fun h => ?_) | refine br_intro (fun h => ?_) (fun h => ?_) | refine cond_intro rfl ?_ | (refine cond_intro ⟨rfl, ?_⟩ ?_; (first | omega | (dsimp only; omega) | decide)) | (refine cond_intro ?_ ?_; (first | omega | (dsimp only; omega) | decide | (simp only [Nat.add_zero, Int.toNat_natCast, *]; omega))))
  all_goals (conv => whnf)
  refine vloop_lp (fun k : Nat => ⟨[(0, .sl 1 0 0 m), (1, .str s), (5, .int .i64 k)], [(1, some (.one true (.cols n [.sc (.strs ps)])))], 2⟩) (fun k => k ≤ m ∧ inK ps s k = false) (fun k => m - k) 0 [0, 1] [] ⟨rfl, ⟨rfl, rfl, rfl, trivial⟩, ⟨rfl, trivial⟩⟩ ⟨Nat.zero_le _, rfl⟩ ?_
  rintro k ⟨hk, hin⟩
  by_cases hk2 : k < m
  · by_cases q : ps.getD k ⟨#[]⟩ = s
    · have e : inK ps s m = true := inK_t.2 ⟨k, hk2, q⟩
      rw [e]
      repeat' ((conv => whnf); first | (refine br_dec (fun h => ?_) (fun h => ?_) <;> try (exfalso; (try dsimp only at h); omega)) | (refine br_ndec (fun h => ?_) (fun h => ?_) <;> try (exfalso; (try dsimp only at h); omega)) | refine br_seq (fun h => ?_) (fun h => ?_) | refine br_nseq (fun h => ?_) (fun h => ?_) | refine br_not (fun h => ?_) (fun h => ?_) | refine br_intro (fun h => ?_) (fun h => ?_) | refine cond_intro rfl ?_ | (refine cond_intro ⟨rfl, ?_⟩ ?_; (first | omega | (dsimp only; omega) | decide)) | (refine cond_intro ?_ ?_; (first | omega | (dsimp only; omega) | decide | (simp only [Nat.add_zero, Int.toNat_natCast, *]; omega))))
      all_goals (conv => whnf)
      all_goals (try simp only [toNat0] at *)
      all_goals first
        | exact ret_out (l := [0, 1]) rfl rfl trivial allRw_nil
        | (exfalso; first | omega | contradiction | exact absurd q.symm (by assumption))
        | trace_state
    · have e : inK ps s (k + 1) = false := by simp only [inK]; rw [hin, Bool.false_or]; unfold seq; exact decide_eq_false q
      repeat' ((conv => whnf); first | (refine br_dec (fun h => ?_) (fun h => ?_) <;> try (exfalso; (try dsimp only at h); omega)) | (refine br_ndec (fun h => ?_) (fun h => ?_) <;> try (exfalso; (try dsimp only at h); omega)) | refine br_seq (fun h => ?_) (fun h => ?_) | refine br_nseq (fun h => ?_) (fun h => ?_) | refine br_not (fun h => ?_) (fun h => ?_) | refine br_intro (fun h => ?_) (fun h => ?_) | refine cond_intro rfl ?_ | (refine cond_intro ⟨rfl, ?_⟩ ?_; (first | omega | (dsimp only; omega) | decide)) | (refine cond_intro ?_ ?_; (first | omega | (dsimp only; omega) | decide | (simp only [Nat.add_zero, Int.toNat_natCast, *]; omega))))
      all_goals (conv => whnf)
      all_goals (try simp only [toNat0] at *)
      all_goals first
        | exact ⟨k + 1, [0, 1], [], ⟨hk2, e⟩, (show m - (k + 1) < m - k by omega), ⟨rfl, ⟨rfl, rfl, congrArg (fun z => some (SV.int .i64 z)) (i64_succ (by omega)), trivial⟩, ⟨rfl, trivial⟩⟩⟩
        | (exfalso; first | omega | contradiction)
        | trace_state
  · have e : k = m := by omega
    subst e
    rw [hin]
    repeat' ((conv => whnf); first | (refine br_dec (fun h => ?_) (fun h => ?_) <;> try (exfalso; (try dsimp only at h); omega)) | (refine br_ndec (fun h => ?_) (fun h => ?_) <;> try (exfalso; (try dsimp only at h); omega)) | refine br_seq (fun h => ?_) (fun h => ?_) | refine br_nseq (fun h => ?_) (fun h => ?_) | refine br_not (fun h => ?_) (fun h => ?_) | refine br_intro (fun h => ?_) (fun h => ?_) | refine cond_intro rfl ?_ | (refine cond_intro ⟨rfl, ?_⟩ ?_; (first | omega | (dsimp only; omega) | decide)) | (refine cond_intro ?_ ?_; (first | omega | (dsimp only; omega) | decide | (simp only [Nat.add_zero, Int.toNat_natCast, *]; omega))))
    all_goals (conv => whnf)
    all_goals first
      | exact ret_out (l := [0, 1]) rfl rfl trivial allRw_nil
      | (exfalso; omega)
      | trace_state
theorem ref40_fits (x : Int) : Pure Tryz.prog 31 [.int .i64 x] (.bool (fitB x)) := by
  by_cases h : -4503599627370496 ≤ x ∧ x ≤ 4503599627370496
  · rw [fitB_t.2 h]
    refine fc_of mixed T_ok Tryz.func31 rfl (by kernel_rfl) (by kernel_rfl) (by kernel_rfl) ?_
    repeat' ((conv => whnf); first | (refine br_dec (fun h => ?_) (fun h => ?_) <;> try (exfalso; (try dsimp only at h); omega)) | (refine br_ndec (fun h => ?_) (fun h => ?_) <;> try (exfalso; (try dsimp only at h); omega)) | refine br_seq (fun h => ?_) (fun h => ?_) | refine br_nseq (fun h => ?_) (fun h => ?_) | refine br_not (fun h => ?_) (fun h => ?_) | refine br_intro (fun h => ?_) (fun h => ?_) | refine cond_intro rfl ?_ | (refine cond_intro ⟨rfl, ?_⟩ ?_; (first | omega | (dsimp only; omega) | decide)) | (refine cond_intro ?_ ?_; (first | omega | (dsimp only; omega) | decide | (simp only [Nat.add_zero, Int.toNat_natCast, *]; omega))))
    all_goals (conv => whnf)
    all_goals first
      | exact ret_pure rfl
      | (refine ret_pure (congrArg SV.bool ?_); simp; omega)
      | (exfalso; omega)
      | trace_state
  · rw [fitB_f.2 h]
    refine fc_of mixed T_ok Tryz.func31 rfl (by kernel_rfl) (by kernel_rfl) (by kernel_rfl) ?_
    repeat' ((conv => whnf); first | (refine br_dec (fun h => ?_) (fun h => ?_) <;> try (exfalso; (try dsimp only at h); omega)) | (refine br_ndec (fun h => ?_) (fun h => ?_) <;> try (exfalso; (try dsimp only at h); omega)) | refine br_seq (fun h => ?_) (fun h => ?_) | refine br_nseq (fun h => ?_) (fun h => ?_) | refine br_not (fun h => ?_) (fun h => ?_) | refine br_intro (fun h => ?_) (fun h => ?_) | refine cond_intro rfl ?_ | (refine cond_intro ⟨rfl, ?_⟩ ?_; (first | omega | (dsimp only; omega) | decide)) | (refine cond_intro ?_ ?_; (first | omega | (dsimp only; omega) | decide | (simp only [Nat.add_zero, Int.toNat_natCast, *]; omega))))
    all_goals (conv => whnf)
    all_goals first
      | exact ret_pure rfl
      | (refine ret_pure (congrArg SV.bool ?_); simp; omega)
      | (exfalso; omega)
      | trace_state
theorem ref40_less (p1 : ByteArray) (a1 : Int) (c1 : ByteArray) (p2 : ByteArray) (a2 : Int) (c2 : ByteArray) : Pure Tryz.prog 55 [.agg [.str p1, .int .i64 a1, .str c1], .agg [.str p2, .int .i64 a2, .str c2]] (.bool (plt ⟨p1, a1, c1⟩ ⟨p2, a2, c2⟩)) := by
  unfold plt
  dsimp only
  by_cases h1 : c1 = c2
  · have e : seq c1 c2 = true := seq_tr.2 h1
    subst h1
    rw [e, strLt_irrefl, Bool.false_or, Bool.true_and]
    have hi := strLt_irrefl c1
    refine fc_of mixed T_ok Tryz.func55 rfl (by kernel_rfl) (by kernel_rfl) (by kernel_rfl) ?_
    repeat' ((conv => whnf); first | (simp only [hi]) | (refine br_dec (fun h => ?_) (fun h => ?_) <;> try (exfalso; (try dsimp only at h); omega)) | (refine br_ndec (fun h => ?_) (fun h => ?_) <;> try (exfalso; (try dsimp only at h); omega)) | refine br_seq (fun h => ?_) (fun h => ?_) | refine br_nseq (fun h => ?_) (fun h => ?_) | refine br_not (fun h => ?_) (fun h => ?_) | refine br_intro (fun h => ?_) (fun h => ?_) | refine cond_intro rfl ?_ | (refine cond_intro ⟨rfl, ?_⟩ ?_; (first | omega | (dsimp only; omega) | decide)) | (refine cond_intro ?_ ?_; (first | omega | (dsimp only; omega) | decide | (simp only [Nat.add_zero, Int.toNat_natCast, *]; omega))))
    all_goals (conv => whnf)
    all_goals first
      | exact ret_pure rfl
      | (exfalso; first | contradiction | (simp [hi] at *; done))
      | trace_state
  · have e : seq c1 c2 = false := by unfold seq; exact decide_eq_false h1
    rw [e, Bool.false_and, Bool.or_false]
    cases hs : strLt c1 c2 with
    | true =>
      refine fc_of mixed T_ok Tryz.func55 rfl (by kernel_rfl) (by kernel_rfl) (by kernel_rfl) ?_
      repeat' ((conv => whnf); first | (simp only [hs]) | (refine br_dec (fun h => ?_) (fun h => ?_) <;> try (exfalso; (try dsimp only at h); omega)) | (refine br_ndec (fun h => ?_) (fun h => ?_) <;> try (exfalso; (try dsimp only at h); omega)) | refine br_seq (fun h => ?_) (fun h => ?_) | refine br_nseq (fun h => ?_) (fun h => ?_) | refine br_not (fun h => ?_) (fun h => ?_) | refine br_intro (fun h => ?_) (fun h => ?_) | refine cond_intro rfl ?_ | (refine cond_intro ⟨rfl, ?_⟩ ?_; (first | omega | (dsimp only; omega) | decide)) | (refine cond_intro ?_ ?_; (first | omega | (dsimp only; omega) | decide | (simp only [Nat.add_zero, Int.toNat_natCast, *]; omega))))
      all_goals (conv => whnf)
      all_goals first
        | exact ret_pure rfl
        | (exfalso; first | contradiction | (simp [hs] at *; done))
        | trace_state
    | false =>
      refine fc_of mixed T_ok Tryz.func55 rfl (by kernel_rfl) (by kernel_rfl) (by kernel_rfl) ?_
      repeat' ((conv => whnf); first | (simp only [hs]) | (refine br_dec (fun h => ?_) (fun h => ?_) <;> try (exfalso; (try dsimp only at h); omega)) | (refine br_ndec (fun h => ?_) (fun h => ?_) <;> try (exfalso; (try dsimp only at h); omega)) | refine br_seq (fun h => ?_) (fun h => ?_) | refine br_nseq (fun h => ?_) (fun h => ?_) | refine br_not (fun h => ?_) (fun h => ?_) | refine br_intro (fun h => ?_) (fun h => ?_) | refine cond_intro rfl ?_ | (refine cond_intro ⟨rfl, ?_⟩ ?_; (first | omega | (dsimp only; omega) | decide)) | (refine cond_intro ?_ ?_; (first | omega | (dsimp only; omega) | decide | (simp only [Nat.add_zero, Int.toNat_natCast, *]; omega))))
      all_goals (conv => whnf)
      all_goals first
        | exact ret_pure rfl
        | (exfalso; first | contradiction | (simp [hs] at *; done))
        | trace_state
/-- A new book of the reference. -/
def rnOut (ps : List ByteArray) (n : Nat) : SV → Heap → Nat → Prop := if nwErr ps ≠ 0 then isOut (.tup [.nptr, .int .i64 (nwErr ps)]) [] 2 else isOut (.tup [.ptr 2 0 0 0, .int .i64 0]) [(2, some (.one false (.cells [.sl 1 0 0 n, .nsl])))] 3
theorem ref40_New (ps : List ByteArray) (n : Nat) (hl : ps.length = n) (hsz : ∀ k, (ps.getD k ⟨#[]⟩).size ≤ 9223372036854775807) : FC Tryz.prog 2 9 [.sl 1 0 0 n] [(1, some (.one true (.cols n [.sc (.strs ps)])))] (rnOut ps n) := by
  unfold rnOut nwErr
  by_cases h16 : 16 < n
  · rw [hl, if_pos h16, if_pos (by decide)]
    refine fc_of mixed T_ok Tryz.func9 rfl (by kernel_rfl) (by kernel_rfl) (by kernel_rfl) ?_
    repeat' ((conv => whnf); first | (refine br_dec (fun h => ?_) (fun h => ?_) <;> try (exfalso; (try dsimp only at h); omega)) | (refine br_ndec (fun h => ?_) (fun h => ?_) <;> try (exfalso; (try dsimp only at h); omega)) | refine br_seq (fun h => ?_) (fun h => ?_) | refine br_nseq (fun h => ?_) (fun h => ?_) | refine br_not (fun h => ?_) (fun h => ?_) | refine br_intro (fun h => ?_) (fun h => ?_) | refine cond_intro rfl ?_ | (refine cond_intro ⟨rfl, ?_⟩ ?_; (first | omega | (dsimp only; omega) | decide)) | (refine cond_intro ?_ ?_; (first | omega | (dsimp only; omega) | decide | (simp only [Nat.add_zero, Int.toNat_natCast, *]; omega))))
    all_goals (conv => whnf)
    all_goals first
      | exact ret_out (l := [0, 1]) rfl rfl trivial allRw_nil
      | (exfalso; omega)
      | trace_state
  rw [hl, if_neg h16]
  refine fc_of mixed T_ok Tryz.func9 rfl (by kernel_rfl) (by kernel_rfl) (by kernel_rfl) ?_
  repeat' ((conv => whnf); first | (refine br_dec (fun h => ?_) (fun h => ?_) <;> try (exfalso; (try dsimp only at h); omega)) | (refine br_ndec (fun h => ?_) (fun h => ?_) <;> try (exfalso; (try dsimp only at h); omega)) | refine br_seq (fun h => ?_) (fun h => ?_) | refine br_nseq (fun h => ?_) (fun h => ?_) | refine br_not (fun h => ?_) (fun h => ?_) | refine br_intro (fun h => ?_) (fun h => ?_) | refine cond_intro rfl ?_ | (refine cond_intro ⟨rfl, ?_⟩ ?_; (first | omega | (dsimp only; omega) | decide)) | (refine cond_intro ?_ ?_; (first | omega | (dsimp only; omega) | decide | (simp only [Nat.add_zero, Int.toNat_natCast, *]; omega))))
  all_goals (conv => whnf)
  all_goals first
    | (exfalso; omega)
    | skip
  refine vloop_lp (fun k : Nat => ⟨[(0, .sl 1 0 0 n), (4, .int .i64 k)], [(1, some (.one true (.cols n [.sc (.strs ps)])))], 2⟩) (fun k => k ≤ n ∧ nwK ps k = 0) (fun k => n - k) 0 [0, 1] [] ⟨rfl, ⟨rfl, rfl, trivial⟩, ⟨rfl, trivial⟩⟩ ⟨Nat.zero_le _, rfl⟩ ?_
  rintro k ⟨hk, h0⟩
  by_cases hk2 : k < n
  · have c1 := ref15_IsName (ps.getD k ⟨#[]⟩) (hsz k)
    have c2 := ref40_in n ps (ps.getD k ⟨#[]⟩) k (by omega) (by omega)
    have hE : nwE ps k = if nmB (ps.getD k ⟨#[]⟩) = false then 5 else if 0 ≤ idI (ps.take k) (ps.getD k ⟨#[]⟩) k then 7 else 0 := rfl
    have hst := fun h => nwK_stop h0 h n hk2
    have hs0 : nwE ps k = 0 → nwK ps (k + 1) = 0 := fun h => by simp only [nwK]; rw [if_neg (by omega)]; exact h
    have hII : inK ps (ps.getD k ⟨#[]⟩) k = decide (0 ≤ idI (ps.take k) (ps.getD k ⟨#[]⟩) k) := by
      have htl : (ps.take k).length = k := by rw [List.length_take]; omega
      by_cases g : 0 ≤ idI (ps.take k) (ps.getD k ⟨#[]⟩) k
      · rw [decide_eq_true g]
        have hlt : sidx (ps.take k) (ps.getD k ⟨#[]⟩) < k := by
          unfold idI at g
          by_cases w : sidx (ps.take k) (ps.getD k ⟨#[]⟩) < k
          · exact w
          · rw [if_neg w] at g; omega
        have hget := Go.Sy.sidx_get (l := ps.take k) (s := ps.getD k ⟨#[]⟩) (by rw [htl]; exact hlt)
        rw [List.getElem?_take, if_pos hlt] at hget
        exact inK_t.2 ⟨_, hlt, by rw [List.getD, hget]; rfl⟩
      · rw [decide_eq_false g]
        cases w : inK ps (ps.getD k ⟨#[]⟩) k with
        | false => rfl
        | true =>
          exfalso
          obtain ⟨j, hj, hje⟩ := inK_t.1 w
          apply g
          have hmem : ps.getD k ⟨#[]⟩ ∈ ps.take k := by
            rw [← hje]
            refine List.mem_iff_getElem?.2 ⟨j, ?_⟩
            rw [List.getElem?_take, if_pos hj, List.getD, List.getElem?_eq_getElem (by omega)]; rfl
          have := Go.Sy.sidx_lt.2 hmem
          rw [htl] at this
          unfold idI
          rw [if_pos this]; omega
    cases hnm : nmB (ps.getD k ⟨#[]⟩) with
    | false =>
      rw [hnm] at c1
      rw [hnm, if_pos rfl] at hE
      rw [hst (by omega), hE, if_pos (by decide)]
      repeat' ((conv => whnf); first | (refine vcall_pure (c1) rfl rfl rfl ?_) | (refine br_dec (fun h => ?_) (fun h => ?_) <;> try (exfalso; (try dsimp only at h); omega)) | (refine br_ndec (fun h => ?_) (fun h => ?_) <;> try (exfalso; (try dsimp only at h); omega)) | refine br_seq (fun h => ?_) (fun h => ?_) | refine br_nseq (fun h => ?_) (fun h => ?_) | refine br_not (fun h => ?_) (fun h => ?_) | refine br_intro (fun h => ?_) (fun h => ?_) | refine cond_intro rfl ?_ | (refine cond_intro ⟨rfl, ?_⟩ ?_; (first | omega | (dsimp only; omega) | decide)) | (refine cond_intro ?_ ?_; (first | omega | (dsimp only; omega) | decide | (simp only [Nat.add_zero, Int.toNat_natCast, *]; omega))))
      all_goals (conv => whnf)
      all_goals first
        | exact ret_out (l := [0, 1]) rfl rfl trivial allRw_nil
        | (exfalso; omega)
        | trace_state
    | true =>
      rw [hnm] at c1
      rw [hnm, if_neg (by simp)] at hE
      by_cases hin : 0 ≤ idI (ps.take k) (ps.getD k ⟨#[]⟩) k
      · rw [if_pos hin] at hE
        rw [hII, decide_eq_true hin] at c2
        rw [hst (by omega), hE, if_pos (by decide)]
        repeat' ((conv => whnf); first | (refine vcall_pure (c1) rfl rfl rfl ?_) | (refine vcall_out (l :=  [0, 1]) (c2 ) ⟨rfl, rfl, rfl, rfl, (by (repeat' (first | exact trivial | exact GB_wf | exact fun _ _ => rfl | constructor)); first | done | fail), (by (repeat' (first | exact trivial | exact GB_fits rfl | constructor)); first | done | fail)⟩ ?_) | (refine vcallD_out (l :=  [0, 1]) (c2 ) ⟨rfl, rfl, rfl, rfl, (by (repeat' (first | exact trivial | exact GB_wf | exact fun _ _ => rfl | constructor)); first | done | fail), (by (repeat' (first | exact trivial | exact GB_fits rfl | constructor)); first | done | fail)⟩ ?_) | (refine br_dec (fun h => ?_) (fun h => ?_) <;> try (exfalso; (try dsimp only at h); omega)) | (refine br_ndec (fun h => ?_) (fun h => ?_) <;> try (exfalso; (try dsimp only at h); omega)) | refine br_seq (fun h => ?_) (fun h => ?_) | refine br_nseq (fun h => ?_) (fun h => ?_) | refine br_not (fun h => ?_) (fun h => ?_) | refine br_intro (fun h => ?_) (fun h => ?_) | refine cond_intro rfl ?_ | (refine cond_intro ⟨rfl, ?_⟩ ?_; (first | omega | (dsimp only; omega) | decide)) | (refine cond_intro ?_ ?_; (first | omega | (dsimp only; omega) | decide | (simp only [Nat.add_zero, Int.toNat_natCast, *]; omega))))
        all_goals (conv => whnf)
        all_goals first
          | exact ret_out (l := [0, 1]) rfl rfl trivial allRw_nil
          | (exfalso; omega)
          | trace_state
      · rw [if_neg hin] at hE
        rw [hII, decide_eq_false hin] at c2
        repeat' ((conv => whnf); first | (refine vcall_pure (c1) rfl rfl rfl ?_) | (refine vcall_out (l :=  [0, 1]) (c2 ) ⟨rfl, rfl, rfl, rfl, (by (repeat' (first | exact trivial | exact GB_wf | exact fun _ _ => rfl | constructor)); first | done | fail), (by (repeat' (first | exact trivial | exact GB_fits rfl | constructor)); first | done | fail)⟩ ?_) | (refine vcallD_out (l :=  [0, 1]) (c2 ) ⟨rfl, rfl, rfl, rfl, (by (repeat' (first | exact trivial | exact GB_wf | exact fun _ _ => rfl | constructor)); first | done | fail), (by (repeat' (first | exact trivial | exact GB_fits rfl | constructor)); first | done | fail)⟩ ?_) | (refine br_dec (fun h => ?_) (fun h => ?_) <;> try (exfalso; (try dsimp only at h); omega)) | (refine br_ndec (fun h => ?_) (fun h => ?_) <;> try (exfalso; (try dsimp only at h); omega)) | refine br_seq (fun h => ?_) (fun h => ?_) | refine br_nseq (fun h => ?_) (fun h => ?_) | refine br_not (fun h => ?_) (fun h => ?_) | refine br_intro (fun h => ?_) (fun h => ?_) | refine cond_intro rfl ?_ | (refine cond_intro ⟨rfl, ?_⟩ ?_; (first | omega | (dsimp only; omega) | decide)) | (refine cond_intro ?_ ?_; (first | omega | (dsimp only; omega) | decide | (simp only [Nat.add_zero, Int.toNat_natCast, *]; omega))))
        all_goals (conv => whnf)
        all_goals first
          | exact ⟨k + 1, [0, 1], [], ⟨hk2, hs0 hE⟩, (show n - (k + 1) < n - k by omega), ⟨rfl, ⟨rfl, congrArg (fun z => some (SV.int .i64 z)) (i64_succ (by omega)), trivial⟩, ⟨rfl, trivial⟩⟩⟩
          | (exfalso; omega)
          | trace_state
  · have e : k = n := by omega
    subst e
    rw [if_neg (by omega)]
    repeat' ((conv => whnf); first | (refine br_dec (fun h => ?_) (fun h => ?_) <;> try (exfalso; (try dsimp only at h); omega)) | (refine br_ndec (fun h => ?_) (fun h => ?_) <;> try (exfalso; (try dsimp only at h); omega)) | refine br_seq (fun h => ?_) (fun h => ?_) | refine br_nseq (fun h => ?_) (fun h => ?_) | refine br_not (fun h => ?_) (fun h => ?_) | refine br_intro (fun h => ?_) (fun h => ?_) | refine cond_intro rfl ?_ | (refine cond_intro ⟨rfl, ?_⟩ ?_; (first | omega | (dsimp only; omega) | decide)) | (refine cond_intro ?_ ?_; (first | omega | (dsimp only; omega) | decide | (simp only [Nat.add_zero, Int.toNat_natCast, *]; omega))))
    all_goals (conv => whnf)
    all_goals first
      | exact ret_out (l := [0, 1, 2]) rfl rfl ⟨rfl, trivial⟩ (allRw_cons allRw_nil)
      | (exfalso; omega)
      | trace_state
end Go.Proofs.YtkbidlijinclcaaGreatDoor

/- Contracts: the reference's positions: looked up, put, moved, listed. -/
namespace Go.Proofs.YtkbidlijinclcaaGreatDoor
open Go.RowKit Go.Sy
attribute [local irreducible] vcall vloop vcallD retP
set_option maxRecDepth 100000
set_option linter.unusedVariables false
set_option linter.unusedSimpArgs false

/-- The amount of the first position of a party in a currency. -/
def netK (R : List Px) (p c : ByteArray) : Nat → Nat → Int
  | 0, _ => 0
  | m + 1, k => if (R.getD k px0).p = p ∧ (R.getD k px0).c = c then (R.getD k px0).a else netK R p c m (k + 1)
def netR (R : List Px) (p c : ByteArray) : Int := netK R p c R.length 0
abbrev rbH (ro : Bool) (np : Nat) (ps : List ByteArray) (m : Nat) (R : List Px) : Heap := [(1, some (.one ro (.cells [.sl 2 0 0 np, .sl 3 0 0 m]))), (2, some (.one true (.cols np [.sc (.strs ps)]))), (3, some (.one true (pxB m (pxOf R))))]
theorem ref40_Net (np : Nat) (ps : List ByteArray) (R : List Px) (m : Nat) (hm : R.length = m) (hl : m ≤ 100000) (p c : ByteArray) : FC Tryz.prog 4 13 [.ptr 1 0 0 0, .str p, .str c] (rbH true np ps m R) (isOut (.int .i64 (netR R p c)) [] 4) := by
  refine fc_of mixed T_ok Tryz.func13 rfl (by kernel_rfl) (by kernel_rfl) (by kernel_rfl) ?_
  repeat' ((conv => whnf); first | (refine br_dec (fun h => ?_) (fun h => ?_) <;> try (exfalso; (try dsimp only at h); omega)) | (refine br_ndec (fun h => ?_) (fun h => ?_) <;> try (exfalso; (try dsimp only at h); omega)) | refine br_seq (fun h => ?_) (fun h => ?_) | refine br_nseq (fun h => ?_) (fun h => ?_) | refine br_not (fun h => ?_) (fun h => ?_) | refine br_intro (fun h => ?_) (fun h => ?_) | refine cond_intro rfl ?_ | (refine cond_intro ⟨rfl, ?_⟩ ?_; (first | omega | (dsimp only; omega) | decide)) | (refine cond_intro ?_ ?_; (first | omega | (dsimp only; omega) | decide | (simp only [Nat.add_zero, Int.toNat_natCast, *]; omega))))
  all_goals (conv => whnf)
  refine vloop_lp (fun k : Nat => ⟨[(0, .ptr 1 0 0 0), (1, .str p), (2, .str c), (7, .int .i64 k)], rbH true np ps m R, 4⟩) (fun k => k ≤ m ∧ netK R p c (m - k) k = netR R p c) (fun k => m - k) 0 [0, 1, 2, 3] [] ⟨rfl, ⟨rfl, rfl, rfl, rfl, trivial⟩, ⟨rfl, rfl, rfl, trivial⟩⟩ ⟨Nat.zero_le _, by rw [Nat.sub_zero, ← hm]; rfl⟩ ?_
  rintro k ⟨hk, hc⟩
  by_cases hk2 : k < m
  · obtain ⟨b1, b2, b3⟩ := atP R k
    rw [show m - k = (m - (k + 1)) + 1 by omega, netK] at hc
    by_cases g : (R.getD k px0).p = p ∧ (R.getD k px0).c = c
    · rw [if_pos g] at hc
      rw [← hc]
      have g1 := g.1
      have g2 := g.2
      have bb : (SV.int .i64 ((pxOf R).a.getD k 0)) = .int .i64 (R.getD k px0).a := by rw [b2]
      rw [← b1] at g1
      rw [← b3] at g2
      rw [← b2]
      repeat' ((conv => whnf); first | (refine br_dec (fun h => ?_) (fun h => ?_) <;> try (exfalso; (try dsimp only at h); omega)) | (refine br_ndec (fun h => ?_) (fun h => ?_) <;> try (exfalso; (try dsimp only at h); omega)) | refine br_seq (fun h => ?_) (fun h => ?_) | refine br_nseq (fun h => ?_) (fun h => ?_) | refine br_not (fun h => ?_) (fun h => ?_) | refine br_intro (fun h => ?_) (fun h => ?_) | refine cond_intro rfl ?_ | (refine cond_intro ⟨rfl, ?_⟩ ?_; (first | omega | (dsimp only; omega) | decide)) | (refine cond_intro ?_ ?_; (first | omega | (dsimp only; omega) | decide | (simp only [Nat.add_zero, Int.toNat_natCast, *]; omega))))
      all_goals (conv => whnf)
      all_goals (try simp only [toNat0, Int.toNat_natCast, Nat.add_zero] at *)
      all_goals first
        | exact ret_out (l := [0, 1, 2, 3]) rfl rfl trivial allRw_nil
        | (exfalso; first | omega | contradiction | exact absurd g1.symm (by assumption) | exact absurd g2.symm (by assumption))
        | trace_state
    · rw [if_neg g] at hc
      rw [← b1, ← b3] at g
      repeat' ((conv => whnf); first | (refine br_dec (fun h => ?_) (fun h => ?_) <;> try (exfalso; (try dsimp only at h); omega)) | (refine br_ndec (fun h => ?_) (fun h => ?_) <;> try (exfalso; (try dsimp only at h); omega)) | refine br_seq (fun h => ?_) (fun h => ?_) | refine br_nseq (fun h => ?_) (fun h => ?_) | refine br_not (fun h => ?_) (fun h => ?_) | refine br_intro (fun h => ?_) (fun h => ?_) | refine cond_intro rfl ?_ | (refine cond_intro ⟨rfl, ?_⟩ ?_; (first | omega | (dsimp only; omega) | decide)) | (refine cond_intro ?_ ?_; (first | omega | (dsimp only; omega) | decide | (simp only [Nat.add_zero, Int.toNat_natCast, *]; omega))))
      all_goals (conv => whnf)
      all_goals (try simp only [toNat0, Int.toNat_natCast, Nat.add_zero] at *)
      all_goals first
        | exact ⟨k + 1, [0, 1, 2, 3], [], ⟨hk2, hc⟩, (show m - (k + 1) < m - k by omega), ⟨rfl, ⟨rfl, rfl, rfl, congrArg (fun z => some (SV.int .i64 z)) (i64_succ (by omega)), trivial⟩, ⟨rfl, rfl, rfl, trivial⟩⟩⟩
        | (exfalso; first | omega | contradiction | exact g ⟨by assumption, by assumption⟩)
        | trace_state
  · have e : k = m := by omega
    subst e
    rw [Nat.sub_self, netK] at hc
    rw [← hc]
    repeat' ((conv => whnf); first | (refine br_dec (fun h => ?_) (fun h => ?_) <;> try (exfalso; (try dsimp only at h); omega)) | (refine br_ndec (fun h => ?_) (fun h => ?_) <;> try (exfalso; (try dsimp only at h); omega)) | refine br_seq (fun h => ?_) (fun h => ?_) | refine br_nseq (fun h => ?_) (fun h => ?_) | refine br_not (fun h => ?_) (fun h => ?_) | refine br_intro (fun h => ?_) (fun h => ?_) | refine cond_intro rfl ?_ | (refine cond_intro ⟨rfl, ?_⟩ ?_; (first | omega | (dsimp only; omega) | decide)) | (refine cond_intro ?_ ?_; (first | omega | (dsimp only; omega) | decide | (simp only [Nat.add_zero, Int.toNat_natCast, *]; omega))))
    all_goals (conv => whnf)
    all_goals first
      | exact ret_out (l := [0, 1, 2, 3]) rfl rfl trivial allRw_nil
      | (exfalso; omega)
      | trace_state
/-- A position is replaced or added. -/
def ptX (p c : ByteArray) (n : Int) (x : Px) : Px := if x.p = p ∧ x.c = c then ⟨x.p, n, x.c⟩ else x
def ptK (R : List Px) (p c : ByteArray) (n : Int) : Nat → List Px
  | 0 => []
  | k + 1 => ptK R p c n k ++ [ptX p c n (R.getD k px0)]
def ptD (R : List Px) (p c : ByteArray) : Nat → Bool
  | 0 => false
  | k + 1 => ptD R p c k || decide ((R.getD k px0).p = p ∧ (R.getD k px0).c = c)
theorem ptK_len (R : List Px) (p c : ByteArray) (n : Int) : ∀ k, (ptK R p c n k).length = k
  | 0 => rfl
  | k + 1 => by simp only [ptK, List.length_append, ptK_len R p c n k]; rfl
def putR (R : List Px) (p c : ByteArray) (n : Int) : List Px := if ptD R p c R.length = true then ptK R p c n R.length else ptK R p c n R.length ++ [⟨p, n, c⟩]
theorem putR_len (R : List Px) (p c : ByteArray) (n : Int) : (putR R p c n).length ≤ R.length + 1 := by
  unfold putR
  split
  · rw [ptK_len]; omega
  · rw [List.length_append, ptK_len]; exact Nat.le_refl _
theorem ref40_put (R : List Px) (m : Nat) (hm : R.length = m) (hl : m ≤ 100000) (p c : ByteArray) (n : Int) (r : Nat) (hr : (putR R p c n).length = r) : FC Tryz.prog 2 32 [.sl 1 0 0 m, .str p, .str c, .int .i64 n] [(1, some (.one true (pxB m (pxOf R))))] (isOut (.sl 2 0 0 r) [(2, some (.one false (pxB r (pxOf (putR R p c n)))))] 3) := by
  refine fc_of mixed T_ok Tryz.func32 rfl (by kernel_rfl) (by kernel_rfl) (by kernel_rfl) ?_
  repeat' ((conv => whnf); first | (refine br_dec (fun h => ?_) (fun h => ?_) <;> try (exfalso; (try dsimp only at h); omega)) | (refine br_ndec (fun h => ?_) (fun h => ?_) <;> try (exfalso; (try dsimp only at h); omega)) | refine br_seq (fun h => ?_) (fun h => ?_) | refine br_nseq (fun h => ?_) (fun h => ?_) | refine br_not (fun h => ?_) (fun h => ?_) | refine br_intro (fun h => ?_) (fun h => ?_) | refine cond_intro rfl ?_ | (refine cond_intro ⟨rfl, ?_⟩ ?_; (first | omega | (dsimp only; omega) | decide)) | (refine cond_intro ?_ ?_; (first | omega | (dsimp only; omega) | decide | (simp only [Nat.add_zero, Int.toNat_natCast, *]; omega))))
  all_goals (conv => whnf)
  refine vloop_lp (fun k : Nat => ⟨[(0, .sl 1 0 0 m), (1, .str p), (2, .str c), (3, .int .i64 n), (10, .bool (ptD R p c k)), (11, .int .i64 k), (9, .sl 2 0 0 k)], [(1, some (.one true (pxB m (pxOf R)))), (2, some (.one false (pxB k (pxOf (ptK R p c n k)))))], 3⟩) (fun k => k ≤ m) (fun k => m - k) 0 [0, 1, 2] [.slot 9 [.sc (.strs []), .sc (.ints .i64 []), .sc (.strs [])]] ⟨rfl, ⟨rfl, rfl, rfl, rfl, rfl, rfl, rfl, trivial⟩, ⟨rfl, rfl, trivial⟩⟩ (Nat.zero_le _) ?_
  intro k hk
  by_cases hk2 : k < m
  · obtain ⟨b1, b2, b3⟩ := atP R k
    have hs := pxOf_snoc (ptK R p c n k) (ptX p c n (R.getD k px0))
    have hst : ptK R p c n (k + 1) = ptK R p c n k ++ [ptX p c n (R.getD k px0)] := rfl
    have hd : ptD R p c (k + 1) = (ptD R p c k || decide ((R.getD k px0).p = p ∧ (R.getD k px0).c = c)) := rfl
    rw [← hst] at hs
    unfold ptX at hs
    by_cases g : (R.getD k px0).p = p ∧ (R.getD k px0).c = c
    · rw [decide_eq_true g, Bool.or_true] at hd
      rw [if_pos g] at hs
      rw [← b1, ← b3] at g
      dsimp only at hs
      rw [← b1, ← b3] at hs
      have g1 := g.1
      have g2 := g.2
      have bb : (some (HB.one false (pxB (k + 1) ⟨(pxOf (ptK R p c n k)).p ++ [(pxOf R).p.getD k ⟨#[]⟩], (pxOf (ptK R p c n k)).a ++ [n], (pxOf (ptK R p c n k)).c ++ [(pxOf R).c.getD k ⟨#[]⟩]⟩)) : Option HB) = some (.one false (pxB (k + 1) (pxOf (ptK R p c n (k + 1))))) := by rw [hs]
      have bd : some (SV.bool true) = some (SV.bool (ptD R p c (k + 1))) := by rw [hd]
      repeat' ((conv => whnf); first | (refine br_dec (fun h => ?_) (fun h => ?_) <;> try (exfalso; (try dsimp only at h); omega)) | (refine br_ndec (fun h => ?_) (fun h => ?_) <;> try (exfalso; (try dsimp only at h); omega)) | refine br_seq (fun h => ?_) (fun h => ?_) | refine br_nseq (fun h => ?_) (fun h => ?_) | refine br_not (fun h => ?_) (fun h => ?_) | refine br_intro (fun h => ?_) (fun h => ?_) | refine cond_intro rfl ?_ | (refine cond_intro ⟨rfl, ?_⟩ ?_; (first | omega | (dsimp only; omega) | decide)) | (refine cond_intro ?_ ?_; (first | omega | (dsimp only; omega) | decide | (simp only [Nat.add_zero, Int.toNat_natCast, *]; omega))))
      all_goals (conv => whnf)
      all_goals (try simp only [toNat0, Int.toNat_natCast, Nat.add_zero] at *)
      all_goals first
        | exact ⟨k + 1, [0, 1, 5], [], hk2, (show m - (k + 1) < m - k by omega), ⟨rfl, ⟨rfl, rfl, rfl, rfl, bd, congrArg (fun z => some (SV.int .i64 z)) (i64_succ (by omega)), rfl, trivial⟩, ⟨rfl, bb, trivial⟩⟩⟩
        | (exfalso; first | omega | contradiction | exact absurd g1.symm (by assumption) | exact absurd g2.symm (by assumption))
        | trace_state
    · rw [decide_eq_false g, Bool.or_false] at hd
      rw [if_neg g] at hs
      rw [← b1, ← b3] at g
      rw [← b1, ← b2, ← b3] at hs
      have bb : (some (HB.one false (pxB (k + 1) ⟨(pxOf (ptK R p c n k)).p ++ [(pxOf R).p.getD k ⟨#[]⟩], (pxOf (ptK R p c n k)).a ++ [(pxOf R).a.getD k 0], (pxOf (ptK R p c n k)).c ++ [(pxOf R).c.getD k ⟨#[]⟩]⟩)) : Option HB) = some (.one false (pxB (k + 1) (pxOf (ptK R p c n (k + 1))))) := by rw [hs]
      have bd : some (SV.bool (ptD R p c k)) = some (SV.bool (ptD R p c (k + 1))) := by rw [hd]
      repeat' ((conv => whnf); first | (refine br_dec (fun h => ?_) (fun h => ?_) <;> try (exfalso; (try dsimp only at h); omega)) | (refine br_ndec (fun h => ?_) (fun h => ?_) <;> try (exfalso; (try dsimp only at h); omega)) | refine br_seq (fun h => ?_) (fun h => ?_) | refine br_nseq (fun h => ?_) (fun h => ?_) | refine br_not (fun h => ?_) (fun h => ?_) | refine br_intro (fun h => ?_) (fun h => ?_) | refine cond_intro rfl ?_ | (refine cond_intro ⟨rfl, ?_⟩ ?_; (first | omega | (dsimp only; omega) | decide)) | (refine cond_intro ?_ ?_; (first | omega | (dsimp only; omega) | decide | (simp only [Nat.add_zero, Int.toNat_natCast, *]; omega))))
      all_goals (conv => whnf)
      all_goals (try simp only [toNat0, Int.toNat_natCast, Nat.add_zero] at *)
      all_goals first
        | exact ⟨k + 1, [0, 1, 5], [], hk2, (show m - (k + 1) < m - k by omega), ⟨rfl, ⟨rfl, rfl, rfl, rfl, bd, congrArg (fun z => some (SV.int .i64 z)) (i64_succ (by omega)), rfl, trivial⟩, ⟨rfl, bb, trivial⟩⟩⟩
        | (exfalso; first | omega | contradiction | exact g ⟨by assumption, by assumption⟩)
        | trace_state
  · have e : k = m := by omega
    subst e
    unfold putR at hr ⊢
    rw [hm] at hr ⊢
    have hs := pxOf_snoc (ptK R p c n k) ⟨p, n, c⟩
    cases hd : ptD R p c k with
    | true =>
      rw [hd, if_pos rfl, ptK_len] at hr
      rw [if_pos rfl]
      subst hr
      repeat' ((conv => whnf); first | (refine br_dec (fun h => ?_) (fun h => ?_) <;> try (exfalso; (try dsimp only at h); omega)) | (refine br_ndec (fun h => ?_) (fun h => ?_) <;> try (exfalso; (try dsimp only at h); omega)) | refine br_seq (fun h => ?_) (fun h => ?_) | refine br_nseq (fun h => ?_) (fun h => ?_) | refine br_not (fun h => ?_) (fun h => ?_) | refine br_intro (fun h => ?_) (fun h => ?_) | refine cond_intro rfl ?_ | (refine cond_intro ⟨rfl, ?_⟩ ?_; (first | omega | (dsimp only; omega) | decide)) | (refine cond_intro ?_ ?_; (first | omega | (dsimp only; omega) | decide | (simp only [Nat.add_zero, Int.toNat_natCast, *]; omega))))
      all_goals (conv => whnf)
      all_goals first
        | exact ret_out (l := [0, 1, 2]) rfl rfl ⟨rfl, trivial⟩ (allRw_cons allRw_nil)
        | (exfalso; first | omega | contradiction)
        | trace_state
    | false =>
      rw [hd, if_neg (by simp), List.length_append, ptK_len] at hr
      rw [if_neg (by simp)]
      have bb : (some (HB.one false (pxB (k + 1) ⟨(pxOf (ptK R p c n k)).p ++ [p], (pxOf (ptK R p c n k)).a ++ [n], (pxOf (ptK R p c n k)).c ++ [c]⟩)) : Option HB) = some (.one false (pxB (k + 1) (pxOf (ptK R p c n k ++ [⟨p, n, c⟩])))) := by rw [hs]
      have er : r = k + 1 := hr.symm
      subst er
      repeat' ((conv => whnf); first | (refine br_dec (fun h => ?_) (fun h => ?_) <;> try (exfalso; (try dsimp only at h); omega)) | (refine br_ndec (fun h => ?_) (fun h => ?_) <;> try (exfalso; (try dsimp only at h); omega)) | refine br_seq (fun h => ?_) (fun h => ?_) | refine br_nseq (fun h => ?_) (fun h => ?_) | refine br_not (fun h => ?_) (fun h => ?_) | refine br_intro (fun h => ?_) (fun h => ?_) | refine cond_intro rfl ?_ | (refine cond_intro ⟨rfl, ?_⟩ ?_; (first | omega | (dsimp only; omega) | decide)) | (refine cond_intro ?_ ?_; (first | omega | (dsimp only; omega) | decide | (simp only [Nat.add_zero, Int.toNat_natCast, *]; omega))))
      all_goals (conv => whnf)
      all_goals first
        | exact ret_out (l := [0, 1, 4]) rfl rfl ⟨bb, trivial⟩ (allRw_cons allRw_nil)
        | (exfalso; first | omega | contradiction)
        | trace_state
end Go.Proofs.YtkbidlijinclcaaGreatDoor

/- Contracts: the reference's moves. -/
namespace Go.Proofs.YtkbidlijinclcaaGreatDoor
open Go.RowKit Go.Sy
attribute [local irreducible] vcall vloop vcallD retP
set_option maxRecDepth 100000
set_option linter.unusedVariables false
set_option linter.unusedSimpArgs false

def rmE (np : Nat) (ps : List ByteArray) (R : List Px) (f t c : ByteArray) (a : Int) : Int :=
  if inK ps f np = false ∨ inK ps t np = false then 6
  else if f = t then 4
  else if mchk a c ≠ 0 then mchk a c
  else if a < 0 then 4
  else if fitB (netR R f c - a) = true ∧ fitB (netR R t c + a) = true then 0 else 4
def rmR (R : List Px) (f t c : ByteArray) (a : Int) : List Px := putR (putR R f c (netR R f c - a)) t c (netR R t c + a)
def rmOut (np : Nat) (ps : List ByteArray) (m : Nat) (R : List Px) (f t c : ByteArray) (a : Int) : SV → Heap → Nat → Prop :=
  if rmE np ps R f t c a = 0 then isOut (.int .i64 0) [(1, some (.one false (.cells [.sl 2 0 0 np, .sl 4 0 0 (rmR R f t c a).length]))), (4, some (.one false (pxB (rmR R f t c a).length (pxOf (rmR R f t c a)))))] 5
  else isOut (.int .i64 (rmE np ps R f t c a)) [(1, some (.one false (.cells [.sl 2 0 0 np, .sl 3 0 0 m])))] 4
theorem ref40_Move (np : Nat) (ps : List ByteArray) (hnp : np ≤ 1000000) (R : List Px) (m : Nat) (hm : R.length = m) (hl : m ≤ 10000) (f t c : ByteArray) (a : Int) (hb : ∀ p c, -4503599627370496 ≤ netR R p c ∧ netR R p c ≤ 4503599627370496) : FC Tryz.prog 4 11 [.ptr 1 0 0 0, .str f, .str t, .agg [.int .i64 a, .str c]] (rbH false np ps m R) (rmOut np ps m R f t c a) := by
  have c1 := ref40_in np ps f np (Nat.le_refl _) hnp
  have c2 := ref40_in np ps t np (Nat.le_refl _) hnp
  have c3 := ref01_Check a c
  unfold rmOut
  cases h1 : inK ps f np with
  | false =>
    rw [h1] at c1
    have e : rmE np ps R f t c a = 6 := by unfold rmE; rw [if_pos (.inl h1)]
    rw [e, if_neg (by decide)]
    refine fc_of mixed T_ok Tryz.func11 rfl (by kernel_rfl) (by kernel_rfl) (by kernel_rfl) ?_
    repeat' ((conv => whnf); first | (refine vcall_out (l :=  [0, 2]) (c1 ) ⟨rfl, rfl, rfl, rfl, (by (repeat' (first | exact trivial | exact GB_wf | exact fun _ _ => rfl | constructor)); first | done | fail), (by (repeat' (first | exact trivial | exact GB_fits rfl | constructor)); first | done | fail)⟩ ?_) | (refine vcallD_out (l :=  [0, 2]) (c1 ) ⟨rfl, rfl, rfl, rfl, (by (repeat' (first | exact trivial | exact GB_wf | exact fun _ _ => rfl | constructor)); first | done | fail), (by (repeat' (first | exact trivial | exact GB_fits rfl | constructor)); first | done | fail)⟩ ?_) | (refine br_dec (fun h => ?_) (fun h => ?_) <;> try (exfalso; (try dsimp only at h); omega)) | (refine br_ndec (fun h => ?_) (fun h => ?_) <;> try (exfalso; (try dsimp only at h); omega)) | refine br_seq (fun h => ?_) (fun h => ?_) | refine br_nseq (fun h => ?_) (fun h => ?_) | refine br_not (fun h => ?_) (fun h => ?_) | refine br_intro (fun h => ?_) (fun h => ?_) | refine cond_intro rfl ?_ | (refine cond_intro ⟨rfl, ?_⟩ ?_; (first | omega | (dsimp only; omega) | decide)) | (refine cond_intro ?_ ?_; (first | omega | (dsimp only; omega) | decide | (simp only [Nat.add_zero, Int.toNat_natCast, *]; omega))))
    all_goals (conv => whnf)
    all_goals first
      | exact ret_out (l := [0, 1, 2, 3]) rfl rfl ⟨rfl, trivial⟩ (allRw_cons allRw_nil)
      | (exfalso; omega)
      | trace_state
  | true =>
  rw [h1] at c1
  cases h2 : inK ps t np with
  | false =>
    rw [h2] at c2
    have e : rmE np ps R f t c a = 6 := by unfold rmE; rw [if_pos (.inr h2)]
    rw [e, if_neg (by decide)]
    refine fc_of mixed T_ok Tryz.func11 rfl (by kernel_rfl) (by kernel_rfl) (by kernel_rfl) ?_
    repeat' ((conv => whnf); first | (refine vcall_out (l :=  [0, 2]) (c1 ) ⟨rfl, rfl, rfl, rfl, (by (repeat' (first | exact trivial | exact GB_wf | exact fun _ _ => rfl | constructor)); first | done | fail), (by (repeat' (first | exact trivial | exact GB_fits rfl | constructor)); first | done | fail)⟩ ?_) | (refine vcallD_out (l :=  [0, 2]) (c1 ) ⟨rfl, rfl, rfl, rfl, (by (repeat' (first | exact trivial | exact GB_wf | exact fun _ _ => rfl | constructor)); first | done | fail), (by (repeat' (first | exact trivial | exact GB_fits rfl | constructor)); first | done | fail)⟩ ?_) | (refine vcall_out (l :=  [0, 2]) (c2 ) ⟨rfl, rfl, rfl, rfl, (by (repeat' (first | exact trivial | exact GB_wf | exact fun _ _ => rfl | constructor)); first | done | fail), (by (repeat' (first | exact trivial | exact GB_fits rfl | constructor)); first | done | fail)⟩ ?_) | (refine vcallD_out (l :=  [0, 2]) (c2 ) ⟨rfl, rfl, rfl, rfl, (by (repeat' (first | exact trivial | exact GB_wf | exact fun _ _ => rfl | constructor)); first | done | fail), (by (repeat' (first | exact trivial | exact GB_fits rfl | constructor)); first | done | fail)⟩ ?_) | (refine br_dec (fun h => ?_) (fun h => ?_) <;> try (exfalso; (try dsimp only at h); omega)) | (refine br_ndec (fun h => ?_) (fun h => ?_) <;> try (exfalso; (try dsimp only at h); omega)) | refine br_seq (fun h => ?_) (fun h => ?_) | refine br_nseq (fun h => ?_) (fun h => ?_) | refine br_not (fun h => ?_) (fun h => ?_) | refine br_intro (fun h => ?_) (fun h => ?_) | refine cond_intro rfl ?_ | (refine cond_intro ⟨rfl, ?_⟩ ?_; (first | omega | (dsimp only; omega) | decide)) | (refine cond_intro ?_ ?_; (first | omega | (dsimp only; omega) | decide | (simp only [Nat.add_zero, Int.toNat_natCast, *]; omega))))
    all_goals (conv => whnf)
    all_goals first
      | exact ret_out (l := [0, 1, 2, 3]) rfl rfl ⟨rfl, trivial⟩ (allRw_cons allRw_nil)
      | (exfalso; omega)
      | trace_state
  | true =>
  rw [h2] at c2
  have e0 : rmE np ps R f t c a = if f = t then 4 else if mchk a c ≠ 0 then mchk a c else if a < 0 then 4 else if fitB (netR R f c - a) = true ∧ fitB (netR R t c + a) = true then 0 else 4 := by
    unfold rmE; rw [if_neg (by rw [h1, h2]; simp)]
  by_cases h3 : f = t
  · rw [if_pos h3] at e0
    rw [e0, if_neg (by decide)]
    refine fc_of mixed T_ok Tryz.func11 rfl (by kernel_rfl) (by kernel_rfl) (by kernel_rfl) ?_
    repeat' ((conv => whnf); first | (refine vcall_out (l :=  [0, 2]) (c1 ) ⟨rfl, rfl, rfl, rfl, (by (repeat' (first | exact trivial | exact GB_wf | exact fun _ _ => rfl | constructor)); first | done | fail), (by (repeat' (first | exact trivial | exact GB_fits rfl | constructor)); first | done | fail)⟩ ?_) | (refine vcallD_out (l :=  [0, 2]) (c1 ) ⟨rfl, rfl, rfl, rfl, (by (repeat' (first | exact trivial | exact GB_wf | exact fun _ _ => rfl | constructor)); first | done | fail), (by (repeat' (first | exact trivial | exact GB_fits rfl | constructor)); first | done | fail)⟩ ?_) | (refine vcall_out (l :=  [0, 2]) (c2 ) ⟨rfl, rfl, rfl, rfl, (by (repeat' (first | exact trivial | exact GB_wf | exact fun _ _ => rfl | constructor)); first | done | fail), (by (repeat' (first | exact trivial | exact GB_fits rfl | constructor)); first | done | fail)⟩ ?_) | (refine vcallD_out (l :=  [0, 2]) (c2 ) ⟨rfl, rfl, rfl, rfl, (by (repeat' (first | exact trivial | exact GB_wf | exact fun _ _ => rfl | constructor)); first | done | fail), (by (repeat' (first | exact trivial | exact GB_fits rfl | constructor)); first | done | fail)⟩ ?_) | (refine br_dec (fun h => ?_) (fun h => ?_) <;> try (exfalso; (try dsimp only at h); omega)) | (refine br_ndec (fun h => ?_) (fun h => ?_) <;> try (exfalso; (try dsimp only at h); omega)) | refine br_seq (fun h => ?_) (fun h => ?_) | refine br_nseq (fun h => ?_) (fun h => ?_) | refine br_not (fun h => ?_) (fun h => ?_) | refine br_intro (fun h => ?_) (fun h => ?_) | refine cond_intro rfl ?_ | (refine cond_intro ⟨rfl, ?_⟩ ?_; (first | omega | (dsimp only; omega) | decide)) | (refine cond_intro ?_ ?_; (first | omega | (dsimp only; omega) | decide | (simp only [Nat.add_zero, Int.toNat_natCast, *]; omega))))
    all_goals (conv => whnf)
    all_goals first
      | exact ret_out (l := [0, 1, 2, 3]) rfl rfl ⟨rfl, trivial⟩ (allRw_cons allRw_nil)
      | (exfalso; first | omega | contradiction)
      | trace_state
  rw [if_neg h3] at e0
  by_cases h4 : mchk a c = 0
  case neg =>
    rw [if_pos h4] at e0
    rw [e0, if_neg h4]
    refine fc_of mixed T_ok Tryz.func11 rfl (by kernel_rfl) (by kernel_rfl) (by kernel_rfl) ?_
    repeat' ((conv => whnf); first | (refine vcall_out (l :=  [0, 2]) (c1 ) ⟨rfl, rfl, rfl, rfl, (by (repeat' (first | exact trivial | exact GB_wf | exact fun _ _ => rfl | constructor)); first | done | fail), (by (repeat' (first | exact trivial | exact GB_fits rfl | constructor)); first | done | fail)⟩ ?_) | (refine vcallD_out (l :=  [0, 2]) (c1 ) ⟨rfl, rfl, rfl, rfl, (by (repeat' (first | exact trivial | exact GB_wf | exact fun _ _ => rfl | constructor)); first | done | fail), (by (repeat' (first | exact trivial | exact GB_fits rfl | constructor)); first | done | fail)⟩ ?_) | (refine vcall_out (l :=  [0, 2]) (c2 ) ⟨rfl, rfl, rfl, rfl, (by (repeat' (first | exact trivial | exact GB_wf | exact fun _ _ => rfl | constructor)); first | done | fail), (by (repeat' (first | exact trivial | exact GB_fits rfl | constructor)); first | done | fail)⟩ ?_) | (refine vcallD_out (l :=  [0, 2]) (c2 ) ⟨rfl, rfl, rfl, rfl, (by (repeat' (first | exact trivial | exact GB_wf | exact fun _ _ => rfl | constructor)); first | done | fail), (by (repeat' (first | exact trivial | exact GB_fits rfl | constructor)); first | done | fail)⟩ ?_) | (refine vcall_pure (c3) rfl rfl rfl ?_) | (refine br_dec (fun h => ?_) (fun h => ?_) <;> try (exfalso; (try dsimp only at h); omega)) | (refine br_ndec (fun h => ?_) (fun h => ?_) <;> try (exfalso; (try dsimp only at h); omega)) | refine br_seq (fun h => ?_) (fun h => ?_) | refine br_nseq (fun h => ?_) (fun h => ?_) | refine br_not (fun h => ?_) (fun h => ?_) | refine br_intro (fun h => ?_) (fun h => ?_) | refine cond_intro rfl ?_ | (refine cond_intro ⟨rfl, ?_⟩ ?_; (first | omega | (dsimp only; omega) | decide)) | (refine cond_intro ?_ ?_; (first | omega | (dsimp only; omega) | decide | (simp only [Nat.add_zero, Int.toNat_natCast, *]; omega))))
    all_goals (conv => whnf)
    all_goals first
      | exact ret_out (l := [0, 1, 2, 3]) rfl rfl ⟨rfl, trivial⟩ (allRw_cons allRw_nil)
      | (exfalso; first | omega | contradiction)
      | trace_state
  rw [if_neg (by simpa using h4)] at e0
  rw [h4] at c3
  have ham := mchk_or a c
  rw [h4] at ham
  have hF := hb f c
  have hT := hb t c
  have n1 := ref40_Net np ps R m hm (by omega) f c
  have n2 := ref40_Net np ps R m hm (by omega) t c
  have g1 : IntKind.i64.wrap (netR R f c - a) = netR R f c - a := w64_in (by omega) (by omega)
  have g2 : IntKind.i64.wrap (netR R t c + a) = netR R t c + a := w64_in (by omega) (by omega)
  have f1 := ref40_fits (IntKind.i64.wrap (netR R f c - a))
  have f2 := ref40_fits (IntKind.i64.wrap (netR R t c + a))
  have q1 : fitB (IntKind.i64.wrap (netR R f c - a)) = fitB (netR R f c - a) := by rw [g1]
  have q2 : fitB (IntKind.i64.wrap (netR R t c + a)) = fitB (netR R t c + a) := by rw [g2]
  rw [q1] at f1
  rw [q2] at f2
  by_cases h6 : ¬ a < 0 ∧ fitB (netR R f c - a) = true ∧ fitB (netR R t c + a) = true
  case neg =>
    have e : rmE np ps R f t c a = 4 := by
      rw [e0]
      by_cases w : a < 0
      · rw [if_pos w]
      · rw [if_neg w, if_neg (fun q => h6 ⟨w, q⟩)]
    rw [e, if_neg (by decide)]
    clear e0 e
    refine fc_of mixed T_ok Tryz.func11 rfl (by kernel_rfl) (by kernel_rfl) (by kernel_rfl) ?_
    repeat' ((conv => whnf); first | (refine vcall_out (l :=  [0, 2]) (c1 ) ⟨rfl, rfl, rfl, rfl, (by (repeat' (first | exact trivial | exact GB_wf | exact fun _ _ => rfl | constructor)); first | done | fail), (by (repeat' (first | exact trivial | exact GB_fits rfl | constructor)); first | done | fail)⟩ ?_) | (refine vcallD_out (l :=  [0, 2]) (c1 ) ⟨rfl, rfl, rfl, rfl, (by (repeat' (first | exact trivial | exact GB_wf | exact fun _ _ => rfl | constructor)); first | done | fail), (by (repeat' (first | exact trivial | exact GB_fits rfl | constructor)); first | done | fail)⟩ ?_) | (refine vcall_out (l :=  [0, 2]) (c2 ) ⟨rfl, rfl, rfl, rfl, (by (repeat' (first | exact trivial | exact GB_wf | exact fun _ _ => rfl | constructor)); first | done | fail), (by (repeat' (first | exact trivial | exact GB_fits rfl | constructor)); first | done | fail)⟩ ?_) | (refine vcallD_out (l :=  [0, 2]) (c2 ) ⟨rfl, rfl, rfl, rfl, (by (repeat' (first | exact trivial | exact GB_wf | exact fun _ _ => rfl | constructor)); first | done | fail), (by (repeat' (first | exact trivial | exact GB_fits rfl | constructor)); first | done | fail)⟩ ?_) | (refine vcall_pure (c3) rfl rfl rfl ?_) | (refine vcall_out (l :=  [0, 1, 2, 3]) (n1 ) ⟨rfl, rfl, rfl, rfl, (by (repeat' (first | exact trivial | exact GB_wf | exact fun _ _ => rfl | constructor)); first | done | fail), (by (repeat' (first | exact trivial | exact GB_fits rfl | constructor)); first | done | fail)⟩ ?_) | (refine vcall_out (l :=  [0, 1, 2, 3]) (n2 ) ⟨rfl, rfl, rfl, rfl, (by (repeat' (first | exact trivial | exact GB_wf | exact fun _ _ => rfl | constructor)); first | done | fail), (by (repeat' (first | exact trivial | exact GB_fits rfl | constructor)); first | done | fail)⟩ ?_) | (refine vcallD_out (l :=  [0, 1, 2, 3]) (n1 ) ⟨rfl, rfl, rfl, rfl, (by (repeat' (first | exact trivial | exact GB_wf | exact fun _ _ => rfl | constructor)); first | done | fail), (by (repeat' (first | exact trivial | exact GB_fits rfl | constructor)); first | done | fail)⟩ ?_) | (refine vcallD_out (l :=  [0, 1, 2, 3]) (n2 ) ⟨rfl, rfl, rfl, rfl, (by (repeat' (first | exact trivial | exact GB_wf | exact fun _ _ => rfl | constructor)); first | done | fail), (by (repeat' (first | exact trivial | exact GB_fits rfl | constructor)); first | done | fail)⟩ ?_) | (refine vcall_pure (f1) rfl rfl rfl ?_) | (refine vcallD_pure (f1) rfl rfl rfl ?_) | (refine vcall_pure (f2) rfl rfl rfl ?_) | (refine vcallD_pure (f2) rfl rfl rfl ?_) | (refine br_dec (fun h => ?_) (fun h => ?_) <;> try (exfalso; (try dsimp only at h); omega)) | (refine br_ndec (fun h => ?_) (fun h => ?_) <;> try (exfalso; (try dsimp only at h); omega)) | refine br_seq (fun h => ?_) (fun h => ?_) | refine br_nseq (fun h => ?_) (fun h => ?_) | refine br_not (fun h => ?_) (fun h => ?_) | refine br_intro (fun h => ?_) (fun h => ?_) | refine cond_intro rfl ?_ | (refine cond_intro ⟨rfl, ?_⟩ ?_; (first | omega | (dsimp only; omega) | decide)) | (refine cond_intro ?_ ?_; (first | omega | (dsimp only; omega) | decide | (simp only [Nat.add_zero, Int.toNat_natCast, *]; omega))))
    all_goals (conv => whnf)
    all_goals first
      | exact ret_out (l := [0, 1, 2, 3]) rfl rfl ⟨rfl, trivial⟩ (allRw_cons allRw_nil)
      | (exfalso; first | omega | contradiction)
      | (exfalso; exact h6 ⟨by assumption, by assumption, by assumption⟩)
      | trace_state
  rw [if_neg h6.1, if_pos h6.2] at e0
  have h61 := h6.1
  rw [h6.2.1] at f1
  rw [h6.2.2] at f2
  rw [e0, if_pos rfl]
  have p1 := ref40_put R m hm (by omega) f c (netR R f c - a) _ rfl
  have hl1 := putR_len R f c (netR R f c - a)
  have p2 := ref40_put (putR R f c (netR R f c - a)) _ rfl (by omega) t c (netR R t c + a) _ rfl
  have eR : rmR R f t c a = putR (putR R f c (netR R f c - a)) t c (netR R t c + a) := rfl
  rw [← eR] at p2
  clear e0 eR hl1
  generalize rmR R f t c a = R2 at *
  generalize putR R f c (netR R f c - a) = R1 at *
  rw [← g1] at p1
  rw [← g2] at p2
  refine fc_of mixed T_ok Tryz.func11 rfl (by kernel_rfl) (by kernel_rfl) (by kernel_rfl) ?_
  repeat' ((conv => whnf); first | (refine vcall_out (l :=  [0, 2]) (c1 ) ⟨rfl, rfl, rfl, rfl, (by (repeat' (first | exact trivial | exact GB_wf | exact fun _ _ => rfl | constructor)); first | done | fail), (by (repeat' (first | exact trivial | exact GB_fits rfl | constructor)); first | done | fail)⟩ ?_) | (refine vcallD_out (l :=  [0, 2]) (c1 ) ⟨rfl, rfl, rfl, rfl, (by (repeat' (first | exact trivial | exact GB_wf | exact fun _ _ => rfl | constructor)); first | done | fail), (by (repeat' (first | exact trivial | exact GB_fits rfl | constructor)); first | done | fail)⟩ ?_) | (refine vcall_out (l :=  [0, 2]) (c2 ) ⟨rfl, rfl, rfl, rfl, (by (repeat' (first | exact trivial | exact GB_wf | exact fun _ _ => rfl | constructor)); first | done | fail), (by (repeat' (first | exact trivial | exact GB_fits rfl | constructor)); first | done | fail)⟩ ?_) | (refine vcallD_out (l :=  [0, 2]) (c2 ) ⟨rfl, rfl, rfl, rfl, (by (repeat' (first | exact trivial | exact GB_wf | exact fun _ _ => rfl | constructor)); first | done | fail), (by (repeat' (first | exact trivial | exact GB_fits rfl | constructor)); first | done | fail)⟩ ?_) | (refine vcall_pure (c3) rfl rfl rfl ?_) | (refine vcall_out (l :=  [0, 1, 2, 3]) (n1 ) ⟨rfl, rfl, rfl, rfl, (by (repeat' (first | exact trivial | exact GB_wf | exact fun _ _ => rfl | constructor)); first | done | fail), (by (repeat' (first | exact trivial | exact GB_fits rfl | constructor)); first | done | fail)⟩ ?_) | (refine vcall_out (l :=  [0, 1, 2, 3]) (n2 ) ⟨rfl, rfl, rfl, rfl, (by (repeat' (first | exact trivial | exact GB_wf | exact fun _ _ => rfl | constructor)); first | done | fail), (by (repeat' (first | exact trivial | exact GB_fits rfl | constructor)); first | done | fail)⟩ ?_) | (refine vcallD_out (l :=  [0, 1, 2, 3]) (n1 ) ⟨rfl, rfl, rfl, rfl, (by (repeat' (first | exact trivial | exact GB_wf | exact fun _ _ => rfl | constructor)); first | done | fail), (by (repeat' (first | exact trivial | exact GB_fits rfl | constructor)); first | done | fail)⟩ ?_) | (refine vcallD_out (l :=  [0, 1, 2, 3]) (n2 ) ⟨rfl, rfl, rfl, rfl, (by (repeat' (first | exact trivial | exact GB_wf | exact fun _ _ => rfl | constructor)); first | done | fail), (by (repeat' (first | exact trivial | exact GB_fits rfl | constructor)); first | done | fail)⟩ ?_) | (refine vcall_pure (f1) rfl rfl rfl ?_) | (refine vcallD_pure (f1) rfl rfl rfl ?_) | (refine vcall_pure (f2) rfl rfl rfl ?_) | (refine vcallD_pure (f2) rfl rfl rfl ?_) | (refine vcall_out (l :=  [0, 3]) (p1 ) ⟨rfl, rfl, rfl, rfl, (by (repeat' (first | exact trivial | exact GB_wf | exact fun _ _ => rfl | constructor)); first | done | fail), (by (repeat' (first | exact trivial | exact GB_fits rfl | constructor)); first | done | fail)⟩ ?_) | (refine vcallD_out (l :=  [0, 3]) (p1 ) ⟨rfl, rfl, rfl, rfl, (by (repeat' (first | exact trivial | exact GB_wf | exact fun _ _ => rfl | constructor)); first | done | fail), (by (repeat' (first | exact trivial | exact GB_fits rfl | constructor)); first | done | fail)⟩ ?_) | (refine vcall_out (l :=  [0, 5]) (p2 ) ⟨rfl, rfl, rfl, rfl, (by (repeat' (first | exact trivial | exact GB_wf | exact fun _ _ => rfl | constructor)); first | done | fail), (by (repeat' (first | exact trivial | exact GB_fits rfl | constructor)); first | done | fail)⟩ ?_) | (refine vcallD_out (l :=  [0, 5]) (p2 ) ⟨rfl, rfl, rfl, rfl, (by (repeat' (first | exact trivial | exact GB_wf | exact fun _ _ => rfl | constructor)); first | done | fail), (by (repeat' (first | exact trivial | exact GB_fits rfl | constructor)); first | done | fail)⟩ ?_) | (refine br_dec (fun h => ?_) (fun h => ?_) <;> try (exfalso; (try dsimp only at h); omega)) | (refine br_ndec (fun h => ?_) (fun h => ?_) <;> try (exfalso; (try dsimp only at h); omega)) | refine br_seq (fun h => ?_) (fun h => ?_) | refine br_nseq (fun h => ?_) (fun h => ?_) | refine br_not (fun h => ?_) (fun h => ?_) | refine br_intro (fun h => ?_) (fun h => ?_) | refine cond_intro rfl ?_ | (refine cond_intro ⟨rfl, ?_⟩ ?_; (first | omega | (dsimp only; omega) | decide)) | (refine cond_intro ?_ ?_; (first | omega | (dsimp only; omega) | decide | (simp only [Nat.add_zero, Int.toNat_natCast, *]; omega))))
  all_goals (conv => whnf)
  all_goals first
    | exact ret_out (l := [0, 1, 2, 3, 6]) rfl rfl ⟨rfl, rfl, trivial⟩ (allRw_cons (allRw_cons allRw_nil))
    | (exfalso; first | omega | contradiction)
    | trace_state
end Go.Proofs.YtkbidlijinclcaaGreatDoor

/- Contracts: the reference sorts positions, lists them. -/
namespace Go.Proofs.YtkbidlijinclcaaGreatDoor
open Go.RowKit Go.Sy
attribute [local irreducible] vcall vloop vcallD retP
set_option maxRecDepth 100000
set_option linter.unusedVariables false
set_option linter.unusedSimpArgs false

theorem rowIns2 {O : List Px} {m k : Nat} (hm : O.length = m) (hk : k ≤ m) {p c : ByteArray} {a : Int} {x : Px} (hx : (⟨p, a, c⟩ : Px) = x) :
    (some (HB.one false (.cols (k + 1 + (m - k)) [.sc (.strs (seg 0 k (pxOf O).p ++ [p] ++ seg (k + 0) (m - k) (pxOf O).p)), .sc (.ints .i64 (seg 0 k (pxOf O).a ++ [a] ++ seg (k + 0) (m - k) (pxOf O).a)), .sc (.strs (seg 0 k (pxOf O).c ++ [c] ++ seg (k + 0) (m - k) (pxOf O).c))])) : Option HB) = some (.one false (pxB (k + 1 + (m - k)) (pxOf (O.take k ++ x :: O.drop k)))) := by
  subst hx
  rw [seg_drop (l := (pxOf O).p) (by simp [pxOf, hm]), seg_drop (l := (pxOf O).a) (by simp [pxOf, hm]), seg_drop (l := (pxOf O).c) (by simp [pxOf, hm])]
  unfold pxOf
  simp [seg_take, List.map_take, List.map_drop]
theorem asc_lt {O : List Px} (ha : Asc O) {i j : Nat} (hij : i < j) (hj : j < O.length) : plt (O.getD i px0) (O.getD j px0) = true := by
  have := List.pairwise_iff_getElem.1 ha i j (by omega) hj hij
  rw [List.getD, List.getD, List.getElem?_eq_getElem (by omega), List.getElem?_eq_getElem hj]; exact this
/-- All before the place are smaller. -/
theorem all_lt {R O : List Px} {i m k : Nat} (h : SoI R i m O) (hd : Dist R) (hi : i < R.length) (hk : k ≤ m) (hl : 0 < k → plt (R.getD i px0) (O.getD (k - 1) px0) = false) : ∀ j, j < k → plt (O.getD j px0) (R.getD i px0) = true := by
  intro j hj
  have hm := h.m
  have hlast : plt (O.getD (k - 1) px0) (R.getD i px0) = true := by
    refine plt_total (hl (by omega)) fun e => ?_
    have hmem : O.getD (k - 1) px0 ∈ O := by
      rw [List.getD, List.getElem?_eq_getElem (show k - 1 < O.length by omega)]; exact List.getElem_mem _
    exact dist_not hd hi _ (List.mem_filter.1 (h.perm.subset hmem)).1 (same2_symm e)
  by_cases e : j = k - 1
  · rw [e]; exact hlast
  · exact plt_trans (asc_lt h.asc (show j < k - 1 by omega) (by omega)) hlast
abbrev soS (n : Nat) (R : List Px) (x : Nat × Nat × List Px) : VS := ⟨[(0, .sl 1 0 0 n), (3, .sl 2 0 0 x.2.1), (4, .int .i64 x.1)], [(1, some (.one true (pxB n (pxOf R)))), (2, some (.one false (pxB x.2.1 (pxOf x.2.2))))], 3⟩
theorem ref40_Sorted (R : List Px) (n : Nat) (hn : R.length = n) (hl : n ≤ 100000) (hd : Dist R) : FC Tryz.prog 2 33 [.sl 1 0 0 n] [(1, some (.one true (pxB n (pxOf R))))] (isOut (.sl 2 0 0 (nz R).length) [(2, some (.one false (pxB (nz R).length (pxOf (srt (nz R))))))] 3) := by
  have hnz : ∀ {i : Nat}, i ≤ n → (nz (R.take i)).length ≤ n := fun {i} hi => by
    have := List.length_filter_le (fun x : Px => decide (x.a ≠ 0)) (R.take i)
    rw [List.length_take] at this
    unfold nz; omega
  refine fc_of mixed T_ok Tryz.func33 rfl (by kernel_rfl) (by kernel_rfl) (by kernel_rfl) ?_
  repeat' ((conv => whnf); first | (refine br_dec (fun h => ?_) (fun h => ?_) <;> try (exfalso; (try dsimp only at h); omega)) | (refine br_ndec (fun h => ?_) (fun h => ?_) <;> try (exfalso; (try dsimp only at h); omega)) | refine br_seq (fun h => ?_) (fun h => ?_) | refine br_nseq (fun h => ?_) (fun h => ?_) | refine br_not (fun h => ?_) (fun h => ?_) | refine br_intro (fun h => ?_) (fun h => ?_) | refine cond_intro rfl ?_ | (refine cond_intro ⟨rfl, ?_⟩ ?_; (first | omega | (dsimp only; omega) | decide)) | (refine cond_intro ?_ ?_; (first | omega | (dsimp only; omega) | decide | (simp only [Nat.add_zero, Int.toNat_natCast, *]; omega))))
  all_goals (conv => whnf)
  refine vloop_lp (soS n R) (fun x => SoI R x.1 x.2.1 x.2.2) (fun x => n - x.1) (0, 0, []) [0, 1, 2] [.slot 3 [.sc (.strs []), .sc (.ints .i64 []), .sc (.strs [])]] ⟨rfl, ⟨rfl, rfl, rfl, trivial⟩, ⟨rfl, rfl, trivial⟩⟩ ⟨Nat.zero_le _, rfl, List.Pairwise.nil, List.Perm.refl _⟩ ?_
  rintro ⟨i, m, O⟩ hI
  dsimp only at hI
  unfold soS
  dsimp only
  have hi := hI.le
  have hmn : m ≤ n := by rw [← hI.m, hI.perm.length_eq]; exact hnz (by omega)
  rw [hn] at hi
  by_cases hi2 : i < n
  · obtain ⟨b1, b2, b3⟩ := atP R i
    by_cases hz : (pxOf R).a.getD i 0 = 0
    · have hs := soI_skip hI (by omega) (by rw [← b2]; exact hz)
      repeat' ((conv => whnf); first | (refine br_dec (fun h => ?_) (fun h => ?_) <;> try (exfalso; (try dsimp only at h); omega)) | (refine br_ndec (fun h => ?_) (fun h => ?_) <;> try (exfalso; (try dsimp only at h); omega)) | refine br_seq (fun h => ?_) (fun h => ?_) | refine br_nseq (fun h => ?_) (fun h => ?_) | refine br_not (fun h => ?_) (fun h => ?_) | refine br_intro (fun h => ?_) (fun h => ?_) | refine cond_intro rfl ?_ | (refine cond_intro ⟨rfl, ?_⟩ ?_; (first | omega | (dsimp only; omega) | decide)) | (refine cond_intro ?_ ?_; (first | omega | (dsimp only; omega) | decide | (simp only [Nat.add_zero, Int.toNat_natCast, *]; omega))))
      all_goals (conv => whnf)
      all_goals first
        | exact ⟨(i + 1, m, O), [0, 1, 2], [], hs, (show n - (i + 1) < n - i by omega), ⟨rfl, ⟨rfl, rfl, congrArg (fun z => some (SV.int .i64 z)) (i64_succ (by omega)), trivial⟩, ⟨rfl, rfl, trivial⟩⟩⟩
        | (exfalso; first | omega | contradiction)
        | trace_state
    · repeat' ((conv => whnf); first | (refine br_dec (fun h => ?_) (fun h => ?_) <;> try (exfalso; (try dsimp only at h); omega)) | (refine br_ndec (fun h => ?_) (fun h => ?_) <;> try (exfalso; (try dsimp only at h); omega)) | refine br_seq (fun h => ?_) (fun h => ?_) | refine br_nseq (fun h => ?_) (fun h => ?_) | refine br_not (fun h => ?_) (fun h => ?_) | refine br_intro (fun h => ?_) (fun h => ?_) | refine cond_intro rfl ?_ | (refine cond_intro ⟨rfl, ?_⟩ ?_; (first | omega | (dsimp only; omega) | decide)) | (refine cond_intro ?_ ?_; (first | omega | (dsimp only; omega) | decide | (simp only [Nat.add_zero, Int.toNat_natCast, *]; omega))))
      all_goals (conv => whnf)
      all_goals first
        | (exfalso; first | omega | contradiction)
        | skip
      refine vloop_lp (fun k : Nat => ⟨[(0, .sl 1 0 0 n), (3, .sl 2 0 0 m), (4, .int .i64 i), (5, .int .i64 k)], [(1, some (.one true (pxB n (pxOf R)))), (2, some (.one false (pxB m (pxOf O))))], 3⟩) (fun k => k ≤ m ∧ (k < m → plt (R.getD i px0) (O.getD k px0) = true)) (fun k => k) m [0, 1, 2] [] ⟨rfl, ⟨rfl, rfl, rfl, rfl, trivial⟩, ⟨rfl, rfl, trivial⟩⟩ ⟨Nat.le_refl _, fun h => absurd h (Nat.lt_irrefl _)⟩ ?_
      rintro k ⟨hk, hge⟩
      have hge2 : k < m → plt (O.getD k px0) (R.getD i px0) = false := fun h => plt_asymm (hge h)
      have e1 : IntKind.i64.wrap ((k : Int) - 1) = (k : Int) - 1 := w64_in (by omega) (by omega)
      have e2 : ((k : Int) - 1).toNat = k - 1 := by omega
      have c1 : Pure Tryz.prog 55 [.agg [.str ((pxOf R).p.getD i ⟨#[]⟩), .int .i64 ((pxOf R).a.getD i 0), .str ((pxOf R).c.getD i ⟨#[]⟩)], .agg [.str ((pxOf O).p.getD (k - 1) ⟨#[]⟩), .int .i64 ((pxOf O).a.getD (k - 1) 0), .str ((pxOf O).c.getD (k - 1) ⟨#[]⟩)]] (.bool (plt (R.getD i px0) (O.getD (k - 1) px0))) := by
        obtain ⟨a1, a2, a3⟩ := atP O (k - 1)
        rw [a1, a2, a3, b1, b2, b3]; exact ref40_less _ _ _ _ _ _
      have hput := fun (hl : 0 < k → plt (R.getD i px0) (O.getD (k - 1) px0) = false) => (show k + 1 + (m - k) = m + 1 by omega) ▸ soI_put hI hd (by omega) (by rw [← b2]; exact hz) hk (all_lt hI hd (by omega) hk hl) hge2
      have hrow := rowIns2 hI.m hk (colP_eq R i)
      by_cases hk2 : 0 < k
      · cases hlt : plt (R.getD i px0) (O.getD (k - 1) px0) with
        | true =>
          rw [hlt] at c1
          have hn2 : k - 1 ≤ m ∧ (k - 1 < m → plt (R.getD i px0) (O.getD (k - 1) px0) = true) := ⟨by omega, fun _ => hlt⟩
          have e3 : (k : Int) - 1 = ((k - 1 : Nat) : Int) := by omega
          repeat' ((conv => whnf); first | (refine vcall_pure (c1) rfl rfl rfl ?_) | (refine vcallD_pure (c1) rfl rfl rfl ?_) | (simp only [e1, e2]) | (refine br_dec (fun h => ?_) (fun h => ?_) <;> try (exfalso; (try dsimp only at h); omega)) | (refine br_ndec (fun h => ?_) (fun h => ?_) <;> try (exfalso; (try dsimp only at h); omega)) | refine br_seq (fun h => ?_) (fun h => ?_) | refine br_nseq (fun h => ?_) (fun h => ?_) | refine br_not (fun h => ?_) (fun h => ?_) | refine br_intro (fun h => ?_) (fun h => ?_) | refine cond_intro rfl ?_ | (refine cond_intro ⟨rfl, ?_⟩ ?_; (first | omega | (dsimp only; omega) | decide)) | (refine cond_intro ?_ ?_; (first | omega | (dsimp only; omega) | decide | (simp only [Nat.add_zero, Int.toNat_natCast, *]; omega))))
          all_goals (conv => whnf)
          all_goals first
            | exact ⟨k - 1, [0, 1, 2], [], hn2, (show k - 1 < k by omega), ⟨rfl, ⟨rfl, rfl, rfl, congrArg (fun z => some (SV.int .i64 z)) (e1.trans e3), trivial⟩, ⟨rfl, rfl, trivial⟩⟩⟩
            | exact ⟨k - 1, [0, 1, 2], [], hn2, (show k - 1 < k by omega), ⟨rfl, ⟨rfl, rfl, rfl, congrArg (fun z => some (SV.int .i64 z)) e3, trivial⟩, ⟨rfl, rfl, trivial⟩⟩⟩
            | (exfalso; first | omega | contradiction)
            | trace_state
        | false =>
          rw [hlt] at c1
          have hp := hput (fun _ => hlt)
          repeat' ((conv => whnf); first | (refine vcall_pure (c1) rfl rfl rfl ?_) | (refine vcallD_pure (c1) rfl rfl rfl ?_) | (simp only [e1, e2]) | (refine br_dec (fun h => ?_) (fun h => ?_) <;> try (exfalso; (try dsimp only at h); omega)) | (refine br_ndec (fun h => ?_) (fun h => ?_) <;> try (exfalso; (try dsimp only at h); omega)) | refine br_seq (fun h => ?_) (fun h => ?_) | refine br_nseq (fun h => ?_) (fun h => ?_) | refine br_not (fun h => ?_) (fun h => ?_) | refine br_intro (fun h => ?_) (fun h => ?_) | refine cond_intro rfl ?_ | (refine cond_intro ⟨rfl, ?_⟩ ?_; (first | omega | (dsimp only; omega) | decide)) | (refine cond_intro ?_ ?_; (first | omega | (dsimp only; omega) | decide | (simp only [Nat.add_zero, Int.toNat_natCast, *]; omega))))
          all_goals (conv => whnf)
          all_goals first
            | (exfalso; first | omega | contradiction)
            | exact ⟨(i + 1, k + 1 + (m - k), O.take k ++ R.getD i px0 :: O.drop k), [0, 1, 6], [], hp, (show n - (i + 1) < n - i by omega), ⟨rfl, ⟨rfl, rfl, congrArg (fun z => some (SV.int .i64 z)) (i64_succ (by omega)), trivial⟩, ⟨rfl, hrow, trivial⟩⟩⟩
            | trace_state
      · have hp := hput (fun h => absurd h hk2)
        repeat' ((conv => whnf); first | (refine vcall_pure (c1) rfl rfl rfl ?_) | (refine vcallD_pure (c1) rfl rfl rfl ?_) | (simp only [e1, e2]) | (refine br_dec (fun h => ?_) (fun h => ?_) <;> try (exfalso; (try dsimp only at h); omega)) | (refine br_ndec (fun h => ?_) (fun h => ?_) <;> try (exfalso; (try dsimp only at h); omega)) | refine br_seq (fun h => ?_) (fun h => ?_) | refine br_nseq (fun h => ?_) (fun h => ?_) | refine br_not (fun h => ?_) (fun h => ?_) | refine br_intro (fun h => ?_) (fun h => ?_) | refine cond_intro rfl ?_ | (refine cond_intro ⟨rfl, ?_⟩ ?_; (first | omega | (dsimp only; omega) | decide)) | (refine cond_intro ?_ ?_; (first | omega | (dsimp only; omega) | decide | (simp only [Nat.add_zero, Int.toNat_natCast, *]; omega))))
        all_goals (conv => whnf)
        all_goals first
          | (exfalso; first | omega | contradiction)
          | exact ⟨(i + 1, k + 1 + (m - k), O.take k ++ R.getD i px0 :: O.drop k), [0, 1, 6], [], hp, (show n - (i + 1) < n - i by omega), ⟨rfl, ⟨rfl, rfl, congrArg (fun z => some (SV.int .i64 z)) (i64_succ (by omega)), trivial⟩, ⟨rfl, hrow, trivial⟩⟩⟩
          | trace_state
  · have e : i = n := by omega
    subst e
    have e1 : srt (nz R) = O := srt_of (by have := hI.perm; rwa [← hn, List.take_length] at this) hI.asc
    have e2 : (nz R).length = m := by have := hI.perm.length_eq; rw [← hn, List.take_length] at this; rw [← this]; exact hI.m
    rw [e1, e2]
    repeat' ((conv => whnf); first | (refine br_dec (fun h => ?_) (fun h => ?_) <;> try (exfalso; (try dsimp only at h); omega)) | (refine br_ndec (fun h => ?_) (fun h => ?_) <;> try (exfalso; (try dsimp only at h); omega)) | refine br_seq (fun h => ?_) (fun h => ?_) | refine br_nseq (fun h => ?_) (fun h => ?_) | refine br_not (fun h => ?_) (fun h => ?_) | refine br_intro (fun h => ?_) (fun h => ?_) | refine cond_intro rfl ?_ | (refine cond_intro ⟨rfl, ?_⟩ ?_; (first | omega | (dsimp only; omega) | decide)) | (refine cond_intro ?_ ?_; (first | omega | (dsimp only; omega) | decide | (simp only [Nat.add_zero, Int.toNat_natCast, *]; omega))))
    all_goals (conv => whnf)
    all_goals first
      | exact ret_out (l := [0, 1, 2]) rfl rfl ⟨rfl, trivial⟩ (allRw_cons allRw_nil)
      | (exfalso; omega)
      | trace_state
theorem ref40_List (np : Nat) (ps : List ByteArray) (R : List Px) (m : Nat) (hm : R.length = m) (hl : m ≤ 100000) (hd : Dist R) : FC Tryz.prog 4 16 [.ptr 1 0 0 0] (rbH true np ps m R) (isOut (.sl 4 0 0 (nz R).length) [(4, some (.one false (pxB (nz R).length (pxOf (srt (nz R))))))] 5) := by
  have c1 := ref40_Sorted R m hm hl hd
  refine fc_of mixed T_ok Tryz.func16 rfl (by kernel_rfl) (by kernel_rfl) (by kernel_rfl) ?_
  repeat' ((conv => whnf); first | (refine vcall_out (l :=  [0, 3]) (c1 ) ⟨rfl, rfl, rfl, rfl, (by (repeat' (first | exact trivial | exact GB_wf | exact fun _ _ => rfl | constructor)); first | done | fail), (by (repeat' (first | exact trivial | exact GB_fits rfl | constructor)); first | done | fail)⟩ ?_) | (refine vcallD_out (l :=  [0, 3]) (c1 ) ⟨rfl, rfl, rfl, rfl, (by (repeat' (first | exact trivial | exact GB_wf | exact fun _ _ => rfl | constructor)); first | done | fail), (by (repeat' (first | exact trivial | exact GB_fits rfl | constructor)); first | done | fail)⟩ ?_) | (refine br_dec (fun h => ?_) (fun h => ?_) <;> try (exfalso; (try dsimp only at h); omega)) | (refine br_ndec (fun h => ?_) (fun h => ?_) <;> try (exfalso; (try dsimp only at h); omega)) | refine br_seq (fun h => ?_) (fun h => ?_) | refine br_nseq (fun h => ?_) (fun h => ?_) | refine br_not (fun h => ?_) (fun h => ?_) | refine br_intro (fun h => ?_) (fun h => ?_) | refine cond_intro rfl ?_ | (refine cond_intro ⟨rfl, ?_⟩ ?_; (first | omega | (dsimp only; omega) | decide)) | (refine cond_intro ?_ ?_; (first | omega | (dsimp only; omega) | decide | (simp only [Nat.add_zero, Int.toNat_natCast, *]; omega))))
  all_goals (conv => whnf)
  all_goals first
    | exact ret_out (l := [0, 1, 2, 3, 4]) rfl rfl ⟨rfl, trivial⟩ (allRw_cons allRw_nil)
    | (exfalso; omega)
    | trace_state
/-- The currencies of the first positions, each once. -/
def cuK (L : List Px) : Nat → List ByteArray
  | 0 => []
  | k + 1 => if inK (cuK L k) (L.getD k px0).c (cuK L k).length = true then cuK L k else cuK L k ++ [(L.getD k px0).c]
theorem cuK_len (L : List Px) : ∀ k, (cuK L k).length ≤ k
  | 0 => Nat.le_refl _
  | k + 1 => by
    have := cuK_len L k
    simp only [cuK]
    split <;> simp <;> omega
theorem inK_mem {l : List ByteArray} {s : ByteArray} {n : Nat} (hn : l.length = n) : inK l s n = true ↔ s ∈ l := by
  rw [inK_t]
  constructor
  · rintro ⟨j, hj, e⟩
    rw [← e, List.getD, List.getElem?_eq_getElem (by omega)]; exact List.getElem_mem _
  · intro h
    obtain ⟨j, hj, e⟩ := List.getElem_of_mem h
    exact ⟨j, by omega, by rw [List.getD, List.getElem?_eq_getElem hj]; exact e⟩
def cuR (R : List Px) : List ByteArray := cuK (srt (nz R)) (nz R).length
theorem ref40_Currencies (np : Nat) (ps : List ByteArray) (R : List Px) (m : Nat) (hm : R.length = m) (hl : m ≤ 100000) (hd : Dist R) : FC Tryz.prog 4 18 [.ptr 1 0 0 0] (rbH true np ps m R) (isOut (.sl 4 0 0 (cuR R).length) [(4, some (.one false (.cols (cuR R).length [.sc (.strs (cuR R))])))] 5) := by
  have c1 := ref40_List np ps R m hm hl hd
  have hlm : (nz R).length ≤ m := by rw [← hm]; exact List.length_filter_le _ _
  have hL : (srt (nz R)).length = (nz R).length := (srt_perm _).length_eq
  unfold cuR
  generalize (nz R).length = n at *
  generalize srt (nz R) = L at *
  refine fc_of mixed T_ok Tryz.func18 rfl (by kernel_rfl) (by kernel_rfl) (by kernel_rfl) ?_
  repeat' ((conv => whnf); first | (refine vcall_out (l :=  [0, 1, 2, 3]) (c1 ) ⟨rfl, rfl, rfl, rfl, (by (repeat' (first | exact trivial | exact GB_wf | exact fun _ _ => rfl | constructor)); first | done | fail), (by (repeat' (first | exact trivial | exact GB_fits rfl | constructor)); first | done | fail)⟩ ?_) | (refine vcallD_out (l :=  [0, 1, 2, 3]) (c1 ) ⟨rfl, rfl, rfl, rfl, (by (repeat' (first | exact trivial | exact GB_wf | exact fun _ _ => rfl | constructor)); first | done | fail), (by (repeat' (first | exact trivial | exact GB_fits rfl | constructor)); first | done | fail)⟩ ?_) | (refine br_dec (fun h => ?_) (fun h => ?_) <;> try (exfalso; (try dsimp only at h); omega)) | (refine br_ndec (fun h => ?_) (fun h => ?_) <;> try (exfalso; (try dsimp only at h); omega)) | refine br_seq (fun h => ?_) (fun h => ?_) | refine br_nseq (fun h => ?_) (fun h => ?_) | refine br_not (fun h => ?_) (fun h => ?_) | refine br_intro (fun h => ?_) (fun h => ?_) | refine cond_intro rfl ?_ | (refine cond_intro ⟨rfl, ?_⟩ ?_; (first | omega | (dsimp only; omega) | decide)) | (refine cond_intro ?_ ?_; (first | omega | (dsimp only; omega) | decide | (simp only [Nat.add_zero, Int.toNat_natCast, *]; omega))))
  all_goals (conv => whnf)
  refine vloop_lp (fun k : Nat => ⟨[(4, .sl 4 0 0 n), (5, .int .i64 k), (3, .sl 5 0 0 (cuK L k).length)], (4, some (.one false (pxB n (pxOf L)))) :: (5, some (.one false (.cols (cuK L k).length [.sc (.strs (cuK L k))]))) :: rbH true np ps m R, 6⟩) (fun k => k ≤ n) (fun k => n - k) 0 [0, 1, 2, 3, 4, 5] [.slot 3 [.sc (.strs [])]] ⟨rfl, ⟨rfl, rfl, rfl, trivial⟩, ⟨rfl, rfl, rfl, rfl, rfl, trivial⟩⟩ (Nat.zero_le _) ?_
  intro k hk
  by_cases hk2 : k < n
  · have c2 := ref40_in (cuK L k).length (cuK L k) ((pxOf L).c.getD k ⟨#[]⟩) (cuK L k).length (Nat.le_refl _) (by have := cuK_len L k; omega)
    obtain ⟨b1, b2, b3⟩ := atP L k
    have hst : cuK L (k + 1) = if inK (cuK L k) ((pxOf L).c.getD k ⟨#[]⟩) (cuK L k).length = true then cuK L k else cuK L k ++ [(pxOf L).c.getD k ⟨#[]⟩] := by rw [b3]; rfl
    have hle := cuK_len L k
    by_cases g : inK (cuK L k) ((pxOf L).c.getD k ⟨#[]⟩) (cuK L k).length = true
    · rw [g] at c2
      rw [if_pos g] at hst
      repeat' ((conv => whnf); first | (refine vcall_out (l :=  [0, 5]) (c2 ) ⟨rfl, rfl, rfl, rfl, (by (repeat' (first | exact trivial | exact GB_wf | exact fun _ _ => rfl | constructor)); first | done | fail), (by (repeat' (first | exact trivial | exact GB_fits rfl | constructor)); first | done | fail)⟩ ?_) | (refine vcallD_out (l :=  [0, 5]) (c2 ) ⟨rfl, rfl, rfl, rfl, (by (repeat' (first | exact trivial | exact GB_wf | exact fun _ _ => rfl | constructor)); first | done | fail), (by (repeat' (first | exact trivial | exact GB_fits rfl | constructor)); first | done | fail)⟩ ?_) | (refine br_dec (fun h => ?_) (fun h => ?_) <;> try (exfalso; (try dsimp only at h); omega)) | (refine br_ndec (fun h => ?_) (fun h => ?_) <;> try (exfalso; (try dsimp only at h); omega)) | refine br_seq (fun h => ?_) (fun h => ?_) | refine br_nseq (fun h => ?_) (fun h => ?_) | refine br_not (fun h => ?_) (fun h => ?_) | refine br_intro (fun h => ?_) (fun h => ?_) | refine cond_intro rfl ?_ | (refine cond_intro ⟨rfl, ?_⟩ ?_; (first | omega | (dsimp only; omega) | decide)) | (refine cond_intro ?_ ?_; (first | omega | (dsimp only; omega) | decide | (simp only [Nat.add_zero, Int.toNat_natCast, *]; omega))))
      all_goals (conv => whnf)
      all_goals first
        | exact ⟨k + 1, [0, 1, 2, 3, 4, 5], [], hk2, (show n - (k + 1) < n - k by omega), ⟨rfl, ⟨rfl, congrArg (fun z => some (SV.int .i64 z)) (i64_succ (by omega)), (by rw [hst]; rfl), trivial⟩, ⟨rfl, (by rw [hst]; rfl), rfl, rfl, rfl, trivial⟩⟩⟩
        | (exfalso; first | omega | contradiction)
        | trace_state
    · rw [Bool.eq_false_iff.2 g] at c2
      rw [if_neg g] at hst
      have hl1 : (cuK L (k + 1)).length = (cuK L k).length + 1 := by rw [hst, List.length_append]; rfl
      repeat' ((conv => whnf); first | (refine vcall_out (l :=  [0, 5]) (c2 ) ⟨rfl, rfl, rfl, rfl, (by (repeat' (first | exact trivial | exact GB_wf | exact fun _ _ => rfl | constructor)); first | done | fail), (by (repeat' (first | exact trivial | exact GB_fits rfl | constructor)); first | done | fail)⟩ ?_) | (refine vcallD_out (l :=  [0, 5]) (c2 ) ⟨rfl, rfl, rfl, rfl, (by (repeat' (first | exact trivial | exact GB_wf | exact fun _ _ => rfl | constructor)); first | done | fail), (by (repeat' (first | exact trivial | exact GB_fits rfl | constructor)); first | done | fail)⟩ ?_) | (refine br_dec (fun h => ?_) (fun h => ?_) <;> try (exfalso; (try dsimp only at h); omega)) | (refine br_ndec (fun h => ?_) (fun h => ?_) <;> try (exfalso; (try dsimp only at h); omega)) | refine br_seq (fun h => ?_) (fun h => ?_) | refine br_nseq (fun h => ?_) (fun h => ?_) | refine br_not (fun h => ?_) (fun h => ?_) | refine br_intro (fun h => ?_) (fun h => ?_) | refine cond_intro rfl ?_ | (refine cond_intro ⟨rfl, ?_⟩ ?_; (first | omega | (dsimp only; omega) | decide)) | (refine cond_intro ?_ ?_; (first | omega | (dsimp only; omega) | decide | (simp only [Nat.add_zero, Int.toNat_natCast, *]; omega))))
      all_goals (conv => whnf)
      all_goals first
        | exact ⟨k + 1, [0, 1, 2, 3, 4, 7], [], hk2, (show n - (k + 1) < n - k by omega), ⟨rfl, ⟨rfl, congrArg (fun z => some (SV.int .i64 z)) (i64_succ (by omega)), (by rw [hl1]; rfl), trivial⟩, ⟨rfl, (by rw [hl1, hst]; rfl), rfl, rfl, rfl, trivial⟩⟩⟩
        | (exfalso; first | omega | contradiction)
        | trace_state
  · have e : k = n := by omega
    subst e
    repeat' ((conv => whnf); first | (refine br_dec (fun h => ?_) (fun h => ?_) <;> try (exfalso; (try dsimp only at h); omega)) | (refine br_ndec (fun h => ?_) (fun h => ?_) <;> try (exfalso; (try dsimp only at h); omega)) | refine br_seq (fun h => ?_) (fun h => ?_) | refine br_nseq (fun h => ?_) (fun h => ?_) | refine br_not (fun h => ?_) (fun h => ?_) | refine br_intro (fun h => ?_) (fun h => ?_) | refine cond_intro rfl ?_ | (refine cond_intro ⟨rfl, ?_⟩ ?_; (first | omega | (dsimp only; omega) | decide)) | (refine cond_intro ?_ ?_; (first | omega | (dsimp only; omega) | decide | (simp only [Nat.add_zero, Int.toNat_natCast, *]; omega))))
    all_goals (conv => whnf)
    all_goals first
      | exact ret_out (l := [0, 1, 2, 3, 5]) rfl rfl ⟨rfl, trivial⟩ (allRw_cons allRw_nil)
      | (exfalso; omega)
      | trace_state
end Go.Proofs.YtkbidlijinclcaaGreatDoor

/- Plain facts: positions add up to zero, also after conversion. No program in sight. -/
namespace Go.Proofs.YtkbidlijinclcaaGreatDoor
open Go.RowKit Go.Sy
set_option linter.unusedVariables false
set_option linter.unusedSimpArgs false

def psK (P : List Int) : Nat → Int
  | 0 => 0
  | k + 1 => psK P k + P.getD k 0
theorem psK_cons (x : Int) (P : List Int) : ∀ k, psK (x :: P) (k + 1) = x + psK P k
  | 0 => by simp [psK]
  | k + 1 => by
    have ih := psK_cons x P k
    simp only [psK] at ih ⊢
    rw [List.getD_cons_succ]; omega
theorem psK_sum (P : List Int) : psK P P.length = P.sum := by
  induction P with
  | nil => rfl
  | cons x P ih => rw [List.length_cons, psK_cons, List.sum_cons, ih]
theorem psK_more {P : List Int} {n : Nat} (h : ∀ j, n ≤ j → P.getD j 0 = 0) : ∀ d, psK P (n + d) = psK P n
  | 0 => rfl
  | d + 1 => by
    have e : psK P (n + (d + 1)) = psK P (n + d) + P.getD (n + d) 0 := rfl
    rw [e, psK_more h d, h _ (by omega)]; omega
theorem psK_row {r : List Int} {n : Nat} (hl : r.length = 16) (hn : n ≤ 16) (h : ∀ j, n ≤ j → r.getD j 0 = 0) : psK r n = r.sum := by
  have := psK_more h (16 - n)
  rw [show n + (16 - n) = 16 by omega] at this
  rw [← this, ← psK_sum, hl]
/-- The sum of the positions of a currency in a list. -/
def smL (L : List Px) (c : ByteArray) : Int := (L.map (fun x => if x.c = c then x.a else 0)).sum
theorem smL_app (L M : List Px) (c : ByteArray) : smL (L ++ M) c = smL L c + smL M c := by unfold smL; rw [List.map_append, List.sum_append]
theorem smA_take (L : List Px) (c : ByteArray) : ∀ k, k ≤ L.length → smA (pxOf L).a (pxOf L).c c k = smL (L.take k) c
  | 0, _ => rfl
  | k + 1, h => by
    have hk : k < L.length := h
    simp only [smA]
    rw [smA_take L c k (by omega), List.take_succ_eq_append_getElem hk, smL_app]
    have e1 : (pxOf L).c.getD k ⟨#[]⟩ = L[k].c := by simp [pxOf, List.getD, hk]
    have e2 : (pxOf L).a.getD k 0 = L[k].a := by simp [pxOf, List.getD, hk]
    rw [e1, e2]
    simp [smL]
theorem smA_all (L : List Px) (c : ByteArray) : smA (pxOf L).a (pxOf L).c c L.length = smL L c := by
  rw [smA_take L c _ (Nat.le_refl _), List.take_length]
theorem liR_sum (r : List Int) (ps : List ByteArray) (c c' : ByteArray) : ∀ i, smL (liR r ps c i) c' = if c = c' then psK r i else 0
  | 0 => by simp [liR, smL, psK]
  | i + 1 => by
    have ih := liR_sum r ps c c' i
    simp only [liR, psK]
    by_cases z : r.getD i 0 = 0
    · rw [if_pos z, ih, z, Int.add_zero]
    · rw [if_neg z, smL_app, ih]
      by_cases q : c = c'
      · simp [smL, q]
      · simp [smL, q]
theorem list_zero {b : Bk} {B : Int} (h : BkI b B) (c : ByteArray) : smL b.list c = 0 := by
  have : ∀ cs k, smL (liA b cs k) c = 0 := by
    intro cs k
    induction k with
    | zero => rfl
    | succ k ih =>
      simp only [liA]
      rw [smL_app, ih, liR_sum, psK_row (h.rl _) h.n16 (h.rt _), h.rs]
      simp
  exact this _ _
/-- What the first parties owe. -/
def ntK (b : Bk) (ps : List ByteArray) (c : ByteArray) : Nat → Int
  | 0 => 0
  | k + 1 => ntK b ps c k + netI b (ps.getD k ⟨#[]⟩) c
theorem ntK_bd {b : Bk} (h : BkI b 4503599627370496) (ps : List ByteArray) (c : ByteArray) : ∀ k : Nat, -4503599627370496 * (k : Int) ≤ ntK b ps c k ∧ ntK b ps c k ≤ 4503599627370496 * (k : Int)
  | 0 => by simp [ntK]
  | k + 1 => by
    have ih := ntK_bd h ps c k
    have := h.rb c (sidx b.ps (ps.getD k ⟨#[]⟩))
    simp only [ntK, netI]
    split <;> omega
theorem ntK_take (b : Bk) (ps : List ByteArray) (c : ByteArray) : ∀ k, k ≤ ps.length → ntK b ps c k = ((ps.take k).map (fun p => netI b p c)).sum
  | 0, _ => rfl
  | k + 1, h => by
    have hk : k < ps.length := h
    simp only [ntK]
    rw [ntK_take b ps c k (by omega), List.take_succ_eq_append_getElem hk, List.map_append, List.sum_append]
    have e1 : ps.getD k ⟨#[]⟩ = ps[k] := by rw [List.getD, List.getElem?_eq_getElem hk]; rfl
    rw [e1]; simp
theorem ntK_zero {b : Bk} {B : Int} (h : BkI b B) {ps : List ByteArray} (hp : b.ps.Perm ps) (hd : ps.Nodup) (c : ByteArray) : ntK b ps c ps.length = 0 := by
  rw [ntK_take b ps c _ (Nat.le_refl _), List.take_length, ← psum (hp.map _)]
  have hd2 : b.ps.Nodup := hp.symm.nodup hd
  rw [← List.take_length (l := b.ps), ← ntK_take b b.ps c _ (Nat.le_refl _)]
  have : ∀ k, k ≤ b.ps.length → ntK b b.ps c k = psK (b.row c) k := by
    intro k
    induction k with
    | zero => intro _; rfl
    | succ k ih =>
      intro hk
      simp only [ntK, psK]
      rw [ih (by omega)]
      have e1 : b.ps.getD k ⟨#[]⟩ = b.ps[k] := by rw [List.getD, List.getElem?_eq_getElem hk]; rfl
      have e2 := Go.Sy.sidx_of_get hd2 (List.getElem?_eq_getElem (show k < b.ps.length from hk))
      unfold netI
      rw [e1, e2, if_pos (by rw [← h.psl]; exact hk)]
  rw [this _ (Nat.le_refl _), h.psl, psK_row (h.rl c) h.n16 (h.rt c), h.rs]
theorem fillK_rest {f : Nat → Int} {n : Nat} : ∀ k i, k ≤ i → (fillK f 0 n k).getD i 0 = 0
  | 0, i, _ => by simp only [fillK]; rw [List.getD, List.getElem?_replicate]; split <;> rfl
  | k + 1, i, h => by
    simp only [fillK]
    by_cases e : k < n
    · rw [set_getD2 _ _ _ _ (by rw [fillK_len]; exact e), if_neg (by omega)]; exact fillK_rest k i (by omega)
    · rw [List.set_eq_of_length_le (by rw [fillK_len]; omega)]; exact fillK_rest k i (by omega)
theorem spQ_sum (A : Nat) (ws : List Int) (n : Nat) : ∀ k, k ≤ n → (fillK (fun i => (qN A ws n i : Int)) 0 n k).sum = qsK A ws n k
  | 0, _ => by simp only [fillK, qsK]; induction n with
    | zero => rfl
    | succ n ih => rw [List.replicate_succ, List.sum_cons, ih (Nat.zero_le _)]; rfl
  | k + 1, h => by
    simp only [fillK, qsK]
    rw [sum_set _ _ _ (by rw [fillK_len]; omega), spQ_sum A ws n k (by omega), fillK_rest k k (Nat.le_refl _)]
    omega
theorem bumpK_sum {P ord : List Int} {n : Nat} (hP : P.length = n) (ho : inR n ord) : ∀ k, k ≤ n → (bumpK P ord k).sum = P.sum + k
  | 0, _ => by simp [bumpK]
  | k + 1, h => by
    have := ho.2 k (by omega)
    simp only [bumpK]
    rw [sum_set _ _ _ (by rw [bumpK_len, hP]; omega), bumpK_sum hP ho k (by omega)]
    omega
def swN (ws : List Int) : Nat → Nat
  | 0 => 0
  | k + 1 => swN ws k + (ws.getD k 0).toNat
theorem swN_eq {ws : List Int} {n : Nat} (hw : ∀ k, k < n → 1 ≤ ws.getD k 0) : ∀ k, k ≤ n → (swN ws k : Int) = swK ws k
  | 0, _ => rfl
  | k + 1, h => by
    have := hw k (by omega)
    have ih := swN_eq hw k (by omega)
    simp only [swN, swK]
    omega
def rsK (A : Nat) (ws : List Int) (n : Nat) : Nat → Nat
  | 0 => 0
  | k + 1 => rsK A ws n k + rN A ws n k
theorem qr_sum (A : Nat) (ws : List Int) (n : Nat) : ∀ k, A * swN ws k = qsK A ws n k * (swK ws n).toNat + rsK A ws n k
  | 0 => by simp [swN, qsK, rsK]
  | k + 1 => by
    have ih := qr_sum A ws n k
    have : A * (ws.getD k 0).toNat = qN A ws n k * (swK ws n).toNat + rN A ws n k := by
      unfold qN rN
      have := Nat.div_add_mod (A * (ws.getD k 0).toNat) (swK ws n).toNat
      rw [Nat.mul_comm] at this; exact this.symm
    simp only [swN, qsK, rsK]
    rw [Nat.mul_add, Nat.add_mul, ih, this]; omega
theorem rs_bd (A : Nat) (ws : List Int) (n : Nat) (hS : 0 < (swK ws n).toNat) : ∀ k, rsK A ws n k + k ≤ k * (swK ws n).toNat
  | 0 => by simp [rsK]
  | k + 1 => by
    have ih := rs_bd A ws n hS k
    have : rN A ws n k < (swK ws n).toNat := Nat.mod_lt _ hS
    simp only [rsK]
    rw [Nat.succ_mul]; omega
/-- All of an amount is split. -/
theorem sp_sum {A : Nat} {ws : List Int} {n : Nat} (hw : ∀ k, k < n → 1 ≤ ws.getD k 0) (hn : 1 ≤ n) : (spP A ws n).sum = A := by
  have hO := spO_in A ws n hn
  have hle := qs_leA (A := A) hw (k := n) (Nat.le_refl _) hn
  have hS1 := sw_mono hw n 0 (by omega)
  rw [Nat.zero_add] at hS1
  have e0 : swK ws 0 = 0 := rfl
  have hS : 0 < (swK ws n).toNat := by omega
  have hN : swN ws n = (swK ws n).toNat := by have := swN_eq hw n (Nat.le_refl _); omega
  have h1 := qr_sum A ws n n
  have h2 := rs_bd A ws n hS n
  rw [hN] at h1
  have h3 : A < qsK A ws n n + n := by
    refine Nat.lt_of_mul_lt_mul_right (a := (swK ws n).toNat) ?_
    rw [Nat.add_mul, h1]; omega
  unfold spP
  rw [bumpK_sum (by unfold spQ; exact fillK_len _ _ _ _) hO (spL A ws n) (Nat.min_le_right _ _)]
  unfold spQ
  rw [spQ_sum A ws n n (Nat.le_refl _)]
  unfold spL
  omega
theorem pl_asc (r : List Int) (s : Int) : ∀ k i j, i < j → j < (plK r s k).length → (plK r s k).getD i 0 < (plK r s k).getD j 0
  | 0, i, j, _, h => by simp [plK] at h
  | k + 1, i, j, hij, h => by
    simp only [plK] at h ⊢
    by_cases q : 0 < r.getD k 0 * s
    · rw [if_pos q] at h ⊢
      rw [List.length_append, List.length_singleton] at h
      rw [snoc_getD, snoc_getD, if_neg (by omega)]
      split
      · exact (pl_bd r s k i (by omega)).2
      · exact pl_asc r s k i j hij (by omega)
    · rw [if_neg q] at h ⊢
      exact pl_asc r s k i j hij h
theorem pl_pos (r : List Int) (s : Int) : ∀ k i, i < (plK r s k).length → 0 < r.getD ((plK r s k).getD i 0).toNat 0 * s
  | 0, i, h => by simp [plK] at h
  | k + 1, i, h => by
    simp only [plK] at h ⊢
    by_cases q : 0 < r.getD k 0 * s
    · rw [if_pos q] at h ⊢
      rw [List.length_append, List.length_singleton] at h
      rw [snoc_getD]
      split
      · rw [Int.toNat_natCast]; exact q
      · exact pl_pos r s k i (by omega)
    · rw [if_neg q] at h ⊢
      exact pl_pos r s k i h
theorem dvK_get {row pl P : List Int} {s : Int} {j : Nat} : ∀ k, (∀ i, i < k → (pl.getD i 0).toNat ≠ j) → (dvK row pl P s k).getD j 0 = row.getD j 0
  | 0, _ => rfl
  | k + 1, h => by
    have ih := dvK_get (row := row) (P := P) (s := s) k (fun i hi => h i (by omega))
    have hk := h k (by omega)
    simp only [dvK]
    rw [List.getD, List.getElem?_set_ne hk]; exact ih
theorem dvK_sum {row pl P : List Int} {s : Int} {N : Nat} (hl : ∀ i, i < N → (pl.getD i 0).toNat < row.length) (hz : ∀ i, i < N → row.getD (pl.getD i 0).toNat 0 = 0) (hd : ∀ i j, i < j → j < N → (pl.getD i 0).toNat ≠ (pl.getD j 0).toNat) : ∀ k, k ≤ N → (dvK row pl P s k).sum = row.sum + psK P k * s
  | 0, _ => by simp [dvK, psK]
  | k + 1, h => by
    have ih := dvK_sum (P := P) (s := s) hl hz hd k (by omega)
    simp only [dvK, psK]
    rw [sum_set _ _ _ (by rw [dvK_len]; exact hl k (by omega)), ih, dvK_get k (fun i hi => hd i k hi (by omega)), hz k (by omega), Int.add_mul]
    omega
theorem dvE_ok {A : Nat} {c : ByteArray} {r : List Int} {s : Int} (h : dvE A c r s = 0) : 1 ≤ dvN r s := by
  unfold dvE spE at h
  split at h
  · contradiction
  · split at h
    · rename_i q
      rcases Nat.eq_zero_or_pos (dvN r s) with w | w
      · rw [w] at q; exact absurd q.2 (by simp [swK])
      · exact w
    · cases h
theorem wt_pos (r : List Int) (s : Int) (i : Nat) (hi : i < dvN r s) : 1 ≤ (wtK r s 16).getD i 0 := by
  have : ∀ l : List Int, ∃ M, ∀ j, l.getD j 0 * s ≤ M := by
    intro l
    have : ∃ M, 0 ≤ M ∧ ∀ j, l.getD j 0 * s ≤ M := by
      induction l with
      | nil => exact ⟨0, Int.le_refl _, fun j => by simp⟩
      | cons x l ih =>
        obtain ⟨M, h0, h⟩ := ih
        refine ⟨max M (x * s), by omega, fun j => ?_⟩
        cases j with
        | zero => rw [List.getD_cons_zero]; omega
        | succ j => rw [List.getD_cons_succ]; have := h j; omega
    obtain ⟨M, _, h⟩ := this
    exact ⟨M, h⟩
  obtain ⟨M, hM⟩ := this r
  exact (wt_bd hM 16 i hi).1
theorem spP_len (A : Nat) (ws : List Int) (n : Nat) : (spP A ws n).length = n := by
  unfold spP
  rw [bumpK_len]; unfold spQ; exact fillK_len _ _ _ _
/-- What a division changes: only places of the sign; in sum, the amount. -/
theorem dvR_get {row r : List Int} {A : Nat} {s : Int} {j : Nat} (h : ¬ 0 < r.getD j 0 * s) : (dvR row A r s).getD j 0 = row.getD j 0 := by
  unfold dvR
  refine dvK_get _ fun i hi e => h ?_
  rw [← e]
  exact pl_pos r s 16 i (by rw [pl_len]; exact hi)
theorem dvR_sum {row r : List Int} {A : Nat} {c : ByteArray} {s : Int} (he : dvE A c r s = 0) (hl : row.length = 16) (hz : ∀ j, 0 < r.getD j 0 * s → row.getD j 0 = 0) : (dvR row A r s).sum = row.sum + A * s := by
  have hn := dvE_ok he
  unfold dvR
  have hpl : (plK r s 16).length = dvN r s := pl_len r s 16
  rw [dvK_sum (N := dvN r s) (fun i hi => ?_) (fun i hi => hz _ (pl_pos r s 16 i (by rw [hpl]; exact hi))) (fun i j hij hj => ?_) _ (Nat.le_refl _)]
  · have e : psK (spP A (wtK r s 16) (dvN r s)) (dvN r s) = A := by
      have := psK_sum (spP A (wtK r s 16) (dvN r s))
      rw [spP_len] at this
      rw [this]; exact sp_sum (fun k hk => wt_pos r s k hk) hn
    rw [e]
  · have := pl_bd r s 16 i (by rw [hpl]; exact hi)
    rw [hl]; omega
  · have h1 := pl_asc r s 16 i j hij (by rw [hpl]; exact hj)
    have h2 := pl_bd r s 16 i (by rw [hpl]; omega)
    omega
theorem cwE_dv {q : RL} {r : List Int} {f t p : ByteArray} (h : cwE q r f t p = 0) : dvE (cwA q r f t p) t r 1 = 0 ∧ dvE (cwA q r f t p) t r (-1) = 0 := by
  unfold cwE at h
  split at h
  · contradiction
  · split at h
    · contradiction
    · split at h
      · contradiction
      · rename_i g; exact ⟨by simpa using g, h⟩
theorem cwR_zero {q : RL} {r : List Int} {f t p : ByteArray} (h : cwE q r f t p = 0) : (cwR q r f t p).sum = 0 ∧ (cwR q r f t p).length = 16 ∧ ∀ j, r.getD j 0 = 0 → (cwR q r f t p).getD j 0 = 0 := by
  obtain ⟨h1, h2⟩ := cwE_dv h
  unfold cwR
  refine ⟨?_, by rw [dvR_len, dvR_len]; rfl, fun j hj => ?_⟩
  · rw [dvR_sum h2 (by rw [dvR_len]; rfl) (fun j hj => ?_), dvR_sum h1 rfl (fun j _ => z16_get j)]
    · have : z16.sum = 0 := rfl
      rw [this]; omega
    · rw [dvR_get (by omega), z16_get]
  · rw [dvR_get (by rw [hj]; simp), dvR_get (by rw [hj]; simp), z16_get]
theorem addK_sum {SS r : List Int} (h1 : SS.length = 16) (h2 : r.length = 16) : (addK SS r 16).sum = SS.sum + r.sum := by
  have : ∀ i, i ≤ 16 → (addK SS r i).sum = SS.sum + psK r i := by
    intro i
    induction i with
    | zero => intro _; simp [addK, psK]
    | succ i ih =>
      intro hi
      simp only [addK, psK]
      rw [sum_set _ _ _ (by rw [addK_len, h1]; omega), ih (by omega), addK_get h1 i i (by omega), if_neg (by omega)]
      omega
  rw [this 16 (Nat.le_refl _), ← h2, psK_sum]
/-- The sums of all converted rows add up to zero. -/
theorem cvS_zero {q : RL} {b : Bk} {B : Int} (h : BkI b B) {cs : List ByteArray} {t p : ByteArray} : ∀ k, cvEK q b cs t p k = 0 → (cvSK q b cs t p k).sum = 0 ∧ ∀ j, b.n ≤ j → (cvSK q b cs t p k).getD j 0 = 0
  | 0, _ => ⟨rfl, fun j _ => z16_get j⟩
  | k + 1, he => by
    simp only [cvEK] at he
    by_cases h0 : cvEK q b cs t p k = 0
    case neg => rw [if_pos h0] at he; exact absurd he h0
    rw [if_neg (by simpa using h0)] at he
    obtain ⟨i1, i2⟩ := cvS_zero h k h0
    have hl := cvSK_len q b cs t p k
    have hR : (cvR q b t p (cs.getD k ⟨#[]⟩)).sum = 0 ∧ (cvR q b t p (cs.getD k ⟨#[]⟩)).length = 16 ∧ ∀ j, b.n ≤ j → (cvR q b t p (cs.getD k ⟨#[]⟩)).getD j 0 = 0 := by
      unfold cvR
      by_cases g : cs.getD k ⟨#[]⟩ = t
      · rw [if_pos g]; exact ⟨h.rs _, h.rl _, h.rt _⟩
      · rw [if_neg g] at he ⊢
        have := cwR_zero he
        exact ⟨this.1, this.2.1, fun j hj => this.2.2 j (h.rt _ j hj)⟩
    simp only [cvSK]
    refine ⟨by rw [addK_sum hl hR.2.1, i1, hR.1]; rfl, fun j hj => ?_⟩
    rw [addK_get hl _ _ (Nat.le_refl _), i2 j hj, hR.2.2 j hj]
    split <;> rfl
theorem liR_mem {r : List Int} {ps : List ByteArray} {c : ByteArray} : ∀ i x, x ∈ liR r ps c i → x.c = c ∧ x.a ≠ 0 ∧ ∃ j, j < i ∧ x.p = ps.getD j ⟨#[]⟩ ∧ x.a = r.getD j 0
  | 0, x, h => by simp [liR] at h
  | i + 1, x, h => by
    simp only [liR] at h
    by_cases z : r.getD i 0 = 0
    · rw [if_pos z] at h
      obtain ⟨h1, h2, j, h3, h4⟩ := liR_mem i x h
      exact ⟨h1, h2, j, by omega, h4⟩
    · rw [if_neg z] at h
      rcases List.mem_append.1 h with h | h
      · obtain ⟨h1, h2, j, h3, h4⟩ := liR_mem i x h
        exact ⟨h1, h2, j, by omega, h4⟩
      · rw [List.mem_singleton] at h
        subst h
        exact ⟨rfl, z, i, by omega, rfl, rfl⟩
theorem liR_asc {r : List Int} {ps : List ByteArray} {c : ByteArray} {n : Nat} (h : ∀ i j, i < j → j < n → strLt (ps.getD i ⟨#[]⟩) (ps.getD j ⟨#[]⟩) = true) : ∀ i, i ≤ n → (liR r ps c i).Pairwise (fun x y => strLt x.p y.p = true)
  | 0, _ => List.Pairwise.nil
  | i + 1, hi => by
    have ih := liR_asc (r := r) (c := c) h i (by omega)
    simp only [liR]
    split
    · exact ih
    · refine List.pairwise_append.2 ⟨ih, List.pairwise_singleton _ _, fun x hx y hy => ?_⟩
      rw [List.mem_singleton] at hy
      subst hy
      obtain ⟨_, _, j, hj, e, _⟩ := liR_mem i x hx
      rw [e]; exact h j i hj hi
/-- The columns of a converted list. -/
theorem liR_at {r : List Int} {ps : List ByteArray} {c : ByteArray} {n : Nat} (h : ∀ i j, i < j → j < n → strLt (ps.getD i ⟨#[]⟩) (ps.getD j ⟨#[]⟩) = true) (k : Nat) (hk : k < (liR r ps c n).length) : (pxOf (liR r ps c n)).c.getD k ⟨#[]⟩ = c ∧ (pxOf (liR r ps c n)).a.getD k 0 ≠ 0 ∧ (0 < k → strLt ((pxOf (liR r ps c n)).p.getD (k - 1) ⟨#[]⟩) ((pxOf (liR r ps c n)).p.getD k ⟨#[]⟩) = true) := by
  have hm := liR_mem n _ (List.getElem_mem hk)
  have ha := liR_asc (r := r) (c := c) h n (Nat.le_refl _)
  refine ⟨?_, ?_, fun h0 => ?_⟩
  · simp only [pxOf, List.getD, List.getElem?_map, List.getElem?_eq_getElem hk, Option.map_some, Option.getD_some]; exact hm.1
  · simp only [pxOf, List.getD, List.getElem?_map, List.getElem?_eq_getElem hk, Option.map_some, Option.getD_some]; exact hm.2.1
  · simp only [pxOf, List.getD, List.getElem?_map, List.getElem?_eq_getElem hk, List.getElem?_eq_getElem (show k - 1 < (liR r ps c n).length by omega), Option.map_some, Option.getD_some]
    exact List.pairwise_iff_getElem.1 ha (k - 1) k (by omega) hk (by omega)
theorem list_bd {b : Bk} (h : BkI b 4503599627370496) (j : Nat) : inI ((pxOf b.list).a.getD j 0) := by
  have hm : ∀ cs k x, x ∈ liA b cs k → -4503599627370496 ≤ x.a ∧ x.a ≤ 4503599627370496 := by
    intro cs k
    induction k with
    | zero => intro x hx; simp [liA] at hx
    | succ k ih =>
      intro x hx
      simp only [liA] at hx
      rcases List.mem_append.1 hx with q | q
      · exact ih x q
      · obtain ⟨_, _, j, _, _, e⟩ := liR_mem _ _ q
        rw [e]; exact h.rb _ _
  unfold inI
  by_cases e : j < b.list.length
  · have := hm _ _ _ (show b.list[j] ∈ liA b (sortS b.cs) b.m from List.getElem_mem e)
    simp only [pxOf, List.getD, List.getElem?_map, List.getElem?_eq_getElem e, Option.map_some, Option.getD_some]
    omega
  · simp only [pxOf, List.getD, List.getElem?_map, List.getElem?_eq_none (show b.list.length ≤ j by omega), Option.map_none, Option.getD_none]
    omega
theorem liR_bd {r : List Int} {ps : List ByteArray} {c : ByteArray} {n : Nat} {B : Int} (hB : 0 ≤ B ∧ B ≤ 9223372036854775807) (h : ∀ j, -B ≤ r.getD j 0 ∧ r.getD j 0 ≤ B) (j : Nat) : inI ((pxOf (liR r ps c n)).a.getD j 0) := by
  unfold inI
  by_cases e : j < (liR r ps c n).length
  · obtain ⟨_, _, i, _, _, e2⟩ := liR_mem n _ (List.getElem_mem e)
    have := h i
    simp only [pxOf, List.getD, List.getElem?_map, List.getElem?_eq_getElem e, Option.map_some, Option.getD_some]
    omega
  · simp only [pxOf, List.getD, List.getElem?_map, List.getElem?_eq_none (show (liR r ps c n).length ≤ j by omega), Option.map_none, Option.getD_none]
    omega
theorem clamp_zero : clampI 0 4611686018427387904 = 0 := by decide
end Go.Proofs.YtkbidlijinclcaaGreatDoor

/- Plain facts: the reference's positions are those of the book. No program in sight. -/
namespace Go.Proofs.YtkbidlijinclcaaGreatDoor
open Go.RowKit Go.Sy
set_option linter.unusedVariables false
set_option linter.unusedSimpArgs false

theorem netK_at (R : List Px) (p c : ByteArray) : ∀ m k, netK R p c m k = match (seg k m R).find? (fun x => decide (x.p = p ∧ x.c = c)) with | some x => x.a | none => 0 := by
  intro m
  induction m with
  | zero => intro k; simp [netK, seg]
  | succ m ih =>
    intro k
    by_cases hk : k < R.length
    · have e : seg k (m + 1) R = R.getD k px0 :: seg (k + 1) m R := by
        unfold seg
        rw [List.drop_eq_getElem_cons hk, List.take_succ_cons, List.getD, List.getElem?_eq_getElem hk]; rfl
      rw [e, List.find?_cons, netK, ih (k + 1)]
      by_cases g : (R.getD k px0).p = p ∧ (R.getD k px0).c = c
      · rw [if_pos g, decide_eq_true g]
      · rw [if_neg g, decide_eq_false g]
    · have e1 : seg k (m + 1) R = [] := by unfold seg; rw [List.drop_of_length_le (by omega)]; rfl
      have e2 : seg (k + 1) m R = [] := by unfold seg; rw [List.drop_of_length_le (by omega)]; exact List.take_nil
      have e3 : R.getD k px0 = px0 := by rw [List.getD, List.getElem?_eq_none (by omega)]; rfl
      rw [e1, netK, ih (k + 1), e2, e3]
      split <;> rfl
theorem netR_eq (R : List Px) (p c : ByteArray) : netR R p c = match R.find? (fun x => decide (x.p = p ∧ x.c = c)) with | some x => x.a | none => 0 := by
  unfold netR
  rw [netK_at]
  have e : seg 0 R.length R = R := by unfold seg; rw [List.drop_zero, List.take_length]
  rw [e]
theorem netR_mem {R : List Px} (hd : Dist R) {x : Px} (hx : x ∈ R) : netR R x.p x.c = x.a := by
  rw [netR_eq]
  induction R with
  | nil => cases hx
  | cons y R ih =>
    rw [List.find?_cons]
    by_cases g : y.p = x.p ∧ y.c = x.c
    · rw [decide_eq_true g]
      rcases List.mem_cons.1 hx with e | e
      · rw [e]
      · exact absurd g ((List.pairwise_cons.1 hd).1 x e)
    · rw [decide_eq_false g]
      rcases List.mem_cons.1 hx with e | e
      · exact absurd ⟨by rw [e], by rw [e]⟩ g
      · exact ih (List.pairwise_cons.1 hd).2 e
theorem netR_no {R : List Px} {p c : ByteArray} (h : ∀ x ∈ R, ¬ (x.p = p ∧ x.c = c)) : netR R p c = 0 := by
  rw [netR_eq, List.find?_eq_none.2 (fun x hx => by simpa using h x hx)]
theorem netR_cases (R : List Px) (p c : ByteArray) : (∃ x ∈ R, x.p = p ∧ x.c = c) ∨ (∀ x ∈ R, ¬ (x.p = p ∧ x.c = c)) := by
  by_cases h : ∃ x ∈ R, x.p = p ∧ x.c = c
  · exact .inl h
  · exact .inr fun x hx hh => h ⟨x, hx, hh⟩
theorem ptK_take (R : List Px) (p c : ByteArray) (n : Int) : ∀ k, k ≤ R.length → ptK R p c n k = (R.take k).map (ptX p c n)
  | 0, _ => rfl
  | k + 1, h => by
    simp only [ptK]
    rw [ptK_take R p c n k (by omega), take_getD h, List.map_append]; rfl
theorem ptD_t (R : List Px) (p c : ByteArray) : ∀ k, k ≤ R.length → (ptD R p c k = true ↔ ∃ x ∈ R.take k, x.p = p ∧ x.c = c)
  | 0, _ => by simp [ptD]
  | k + 1, h => by
    simp only [ptD]
    rw [Bool.or_eq_true, ptD_t R p c k (by omega), take_getD h, decide_eq_true_eq]
    constructor
    · rintro (⟨x, hx, hh⟩ | hh)
      · exact ⟨x, List.mem_append_left _ hx, hh⟩
      · exact ⟨_, List.mem_append_right _ (List.mem_singleton.2 rfl), hh⟩
    · rintro ⟨x, hx, hh⟩
      rcases List.mem_append.1 hx with q | q
      · exact .inl ⟨x, q, hh⟩
      · rw [List.mem_singleton] at q; subst q; exact .inr hh
theorem putR_eq (R : List Px) (p c : ByteArray) (n : Int) : (putR R p c n = R.map (ptX p c n) ∧ ∃ x ∈ R, x.p = p ∧ x.c = c) ∨ (putR R p c n = R ++ [⟨p, n, c⟩] ∧ ∀ x ∈ R, ¬ (x.p = p ∧ x.c = c)) := by
  have h1 := ptK_take R p c n R.length (Nat.le_refl _)
  have h2 := ptD_t R p c R.length (Nat.le_refl _)
  rw [List.take_length] at h1 h2
  unfold putR
  cases hd : ptD R p c R.length with
  | true => exact .inl ⟨by rw [if_pos rfl, h1], h2.1 hd⟩
  | false =>
    have hn : ∀ x ∈ R, ¬ (x.p = p ∧ x.c = c) := fun x hx hh => by
      have := h2.2 ⟨x, hx, hh⟩
      rw [hd] at this; cases this
    refine .inr ⟨?_, hn⟩
    rw [if_neg (by simp), h1]
    congr 1
    refine (List.map_congr_left fun x hx => ?_).trans (List.map_id R)
    unfold ptX
    rw [if_neg (hn x hx)]; rfl
theorem ptX_same (p c : ByteArray) (n : Int) (x : Px) : (ptX p c n x).p = x.p ∧ (ptX p c n x).c = x.c := by unfold ptX; split <;> exact ⟨rfl, rfl⟩
theorem put_dist {R : List Px} (hd : Dist R) (p c : ByteArray) (n : Int) : Dist (putR R p c n) := by
  rcases putR_eq R p c n with ⟨e, _⟩ | ⟨e, hn⟩
  · rw [e]
    unfold Dist
    rw [List.pairwise_map]
    refine hd.imp fun {a b} h q => h ?_
    unfold same2 at *
    rw [(ptX_same p c n a).1, (ptX_same p c n a).2, (ptX_same p c n b).1, (ptX_same p c n b).2] at q; exact q
  · rw [e]
    refine List.pairwise_append.2 ⟨hd, List.pairwise_singleton _ _, fun a ha b hb => ?_⟩
    rw [List.mem_singleton] at hb
    subst hb
    exact hn a ha
theorem put_net {R : List Px} (hd : Dist R) (p c : ByteArray) (n : Int) (p' c' : ByteArray) : netR (putR R p c n) p' c' = if p' = p ∧ c' = c then n else netR R p' c' := by
  have hd2 := put_dist hd p c n
  rcases putR_eq R p c n with ⟨e, x, hx, hx1, hx2⟩ | ⟨e, hn⟩
  · rcases netR_cases R p' c' with ⟨y, hy, hy1, hy2⟩ | h
    · have hm : ptX p c n y ∈ putR R p c n := by rw [e]; exact List.mem_map_of_mem hy
      have h1 := netR_mem hd2 hm
      rw [(ptX_same p c n y).1, (ptX_same p c n y).2, hy1, hy2] at h1
      have h2 := netR_mem hd hy
      rw [hy1, hy2] at h2
      rw [h1, h2]
      unfold ptX
      rw [hy1, hy2]
      split <;> rfl
    · rw [netR_no h, netR_no, if_neg]
      · rintro ⟨q1, q2⟩
        exact h x hx ⟨by rw [hx1, q1], by rw [hx2, q2]⟩
      · intro z hz
        rw [e] at hz
        obtain ⟨y, hy, rfl⟩ := List.mem_map.1 hz
        rw [(ptX_same p c n y).1, (ptX_same p c n y).2]
        exact h y hy
  · by_cases g : p' = p ∧ c' = c
    · rw [if_pos g]
      have hm : (⟨p, n, c⟩ : Px) ∈ putR R p c n := by rw [e]; exact List.mem_append_right _ (List.mem_singleton.2 rfl)
      have := netR_mem hd2 hm
      rw [g.1, g.2]; exact this
    · rw [if_neg g]
      rcases netR_cases R p' c' with ⟨y, hy, hy1, hy2⟩ | h
      · have hm : y ∈ putR R p c n := by rw [e]; exact List.mem_append_left _ hy
        have h1 := netR_mem hd2 hm
        have h2 := netR_mem hd hy
        rw [hy1, hy2] at h1 h2
        rw [h1, h2]
      · rw [netR_no h, netR_no]
        intro z hz
        rw [e] at hz
        rcases List.mem_append.1 hz with q | q
        · exact h z q
        · rw [List.mem_singleton] at q
          subst q
          exact fun w => g ⟨w.1.symm, w.2.symm⟩
/-- The reference's positions are those of the book. -/
structure RlB (b : Bk) (R : List Px) : Prop where
  d : Dist R
  net : ∀ p c, netR R p c = netI b p c
theorem netI_bd {b : Bk} {B : Int} (h : BkI b B) (hB : 0 ≤ B) (p c : ByteArray) : -B ≤ netI b p c ∧ netI b p c ≤ B := by
  unfold netI
  split
  · exact h.rb _ _
  · omega
/-- What stands in the list of a book. -/
theorem list_mem {b : Bk} {B : Int} (h : BkI b B) (hnd : b.ps.Nodup) (x : Px) : x ∈ b.list ↔ x.a ≠ 0 ∧ netI b x.p x.c = x.a := by
  have hA : ∀ cs k, x ∈ liA b cs k ↔ ∃ j, j < k ∧ x ∈ liR (b.row (cs.getD j ⟨#[]⟩)) b.ps (cs.getD j ⟨#[]⟩) b.n := by
    intro cs k
    induction k with
    | zero => simp [liA]
    | succ k ih =>
      simp only [liA, List.mem_append, ih]
      constructor
      · rintro (⟨j, hj, q⟩ | q)
        · exact ⟨j, by omega, q⟩
        · exact ⟨k, by omega, q⟩
      · rintro ⟨j, hj, q⟩
        by_cases e : j = k
        · subst e; exact .inr q
        · exact .inl ⟨j, by omega, q⟩
  have hR : ∀ (r : List Int) (c : ByteArray) (n : Nat), x ∈ liR r b.ps c n ↔ x.c = c ∧ x.a ≠ 0 ∧ ∃ j, j < n ∧ x.p = b.ps.getD j ⟨#[]⟩ ∧ x.a = r.getD j 0 := by
    intro r c n
    refine ⟨liR_mem n x, ?_⟩
    rintro ⟨h1, h2, j, hj, h3, h4⟩
    induction n with
    | zero => omega
    | succ n ih =>
      simp only [liR]
      by_cases e : j = n
      · subst e
        rw [if_neg (by rw [← h4]; exact h2)]
        refine List.mem_append_right _ (List.mem_singleton.2 ?_)
        rw [← h3, ← h4, ← h1]
      · split
        · exact ih (by omega)
        · exact List.mem_append_left _ (ih (by omega))
  have hsl : (sortS b.cs).length = b.m := by rw [sortS_length, h.C.cl]
  unfold Bk.list
  rw [hA]
  constructor
  · rintro ⟨j, hj, q⟩
    obtain ⟨h1, h2, i, hi, h3, h4⟩ := (hR _ _ _).1 q
    refine ⟨h2, ?_⟩
    have hps : b.ps[i]? = some x.p := by
      rw [h3, List.getD, List.getElem?_eq_getElem (by rw [h.psl]; exact hi)]; rfl
    have e := Go.Sy.sidx_of_get hnd hps
    unfold netI
    rw [e, if_pos hi, h1, h4]
  · rintro ⟨h1, h2⟩
    unfold netI at h2
    by_cases hp : sidx b.ps x.p < b.n
    · rw [if_pos hp] at h2
      have hc : x.c ∈ b.cs := by
        rw [mem_row h]
        intro e
        rw [e, z16_get] at h2
        exact h1 h2.symm
      have hc2 : x.c ∈ sortS b.cs := (sortS_perm b.cs).mem_iff.2 hc
      obtain ⟨j, hj, e⟩ := List.getElem_of_mem hc2
      have e2 : (sortS b.cs).getD j ⟨#[]⟩ = x.c := by rw [List.getD, List.getElem?_eq_getElem hj]; exact e
      refine ⟨j, by omega, ?_⟩
      rw [e2, hR]
      exact ⟨rfl, h1, _, hp, (sidx_at b.ps (by rw [h.psl]; exact hp)).symm, h2.symm⟩
    · rw [if_neg hp] at h2; exact absurd h2.symm h1
theorem list_asc {b : Bk} {B : Int} (h : BkI b B) (hps : b.ps.Pairwise (fun a b => strLt a b = true)) : Asc b.list := by
  have hpl : ∀ i j, i < j → j < b.n → strLt (b.ps.getD i ⟨#[]⟩) (b.ps.getD j ⟨#[]⟩) = true := by
    intro i j hij hj
    have := List.pairwise_iff_getElem.1 hps i j (by rw [h.psl]; omega) (by rw [h.psl]; exact hj) hij
    rw [List.getD, List.getD, List.getElem?_eq_getElem (by rw [h.psl]; omega), List.getElem?_eq_getElem (by rw [h.psl]; exact hj)]; exact this
  have hsl : (sortS b.cs).length = b.m := by rw [sortS_length, h.C.cl]
  have hm : ∀ k x, x ∈ liA b (sortS b.cs) k → ∃ j, j < k ∧ x.c = (sortS b.cs).getD j ⟨#[]⟩ := by
    intro k
    induction k with
    | zero => intro x hx; simp [liA] at hx
    | succ k ih =>
      intro x hx
      simp only [liA] at hx
      rcases List.mem_append.1 hx with q | q
      · obtain ⟨j, hj, e⟩ := ih x q
        exact ⟨j, by omega, e⟩
      · exact ⟨k, by omega, (liR_mem _ _ q).1⟩
  have : ∀ k, k ≤ b.m → Asc (liA b (sortS b.cs) k) := by
    intro k
    induction k with
    | zero => intro _; exact List.Pairwise.nil
    | succ k ih =>
      intro hk
      simp only [liA]
      refine List.pairwise_append.2 ⟨ih (by omega), ?_, fun x hx y hy => ?_⟩
      · have ha := liR_asc (r := b.row ((sortS b.cs).getD k ⟨#[]⟩)) (c := (sortS b.cs).getD k ⟨#[]⟩) hpl b.n (Nat.le_refl _)
        refine ha.imp_of_mem fun {x y} hx hy q => plt_iff.2 (.inr ⟨?_, q⟩)
        rw [(liR_mem _ _ hx).1, (liR_mem _ _ hy).1]
      · obtain ⟨j, hj, e⟩ := hm k x hx
        refine plt_iff.2 (.inl ?_)
        rw [e, (liR_mem _ _ hy).1]
        exact sortS_lt h.C.nd hj (by rw [h.C.cl]; omega)
  exact this b.m (Nat.le_refl _)
/-- The reference's list is the book's. -/
theorem rl_list {b : Bk} {R : List Px} {B : Int} (h : BkI b B) (hps : b.ps.Pairwise (fun a b => strLt a b = true)) (hr : RlB b R) : srt (nz R) = b.list ∧ (nz R).length = b.list.length := by
  have hnd : b.ps.Nodup := hps.imp (fun {a b} h e => by subst e; rw [strLt_irrefl] at h; cases h)
  have ha := list_asc h hps
  have nd1 : b.list.Nodup := ha.imp (fun {a b} h e => by subst e; rw [plt_irrefl] at h; cases h)
  have nd2 : (nz R).Nodup := (hr.d.imp (fun {a b} h e => h (by subst e; exact ⟨rfl, rfl⟩))).sublist List.filter_sublist
  have hp : b.list.Perm (nz R) := (List.perm_ext_iff_of_nodup nd1 nd2).2 fun x => by
    rw [list_mem h hnd]
    unfold nz
    rw [List.mem_filter, decide_eq_true_eq]
    constructor
    · rintro ⟨h1, h2⟩
      rw [← hr.net] at h2
      refine ⟨?_, h1⟩
      rcases netR_cases R x.p x.c with ⟨y, hy, hy1, hy2⟩ | q
      · have := netR_mem hr.d hy
        rw [hy1, hy2, h2] at this
        have e : x = y := by cases x; cases y; simp_all
        rw [e]; exact hy
      · rw [netR_no q] at h2; exact absurd h2.symm h1
    · rintro ⟨h1, h2⟩
      refine ⟨h2, ?_⟩
      rw [← hr.net]; exact netR_mem hr.d h1
  exact ⟨srt_of hp ha, hp.length_eq.symm⟩
theorem cuK_mem (L : List Px) : ∀ k, k ≤ L.length → ∀ s, s ∈ cuK L k ↔ ∃ x ∈ L.take k, x.c = s
  | 0, _, s => by simp [cuK]
  | k + 1, h, s => by
    have ih := cuK_mem L k (by omega) s
    have ih2 := cuK_mem L k (by omega) (L.getD k px0).c
    rw [take_getD h]
    simp only [cuK]
    split
    · rename_i g
      rw [inK_mem rfl] at g
      rw [ih]
      constructor
      · rintro ⟨x, hx, e⟩; exact ⟨x, List.mem_append_left _ hx, e⟩
      · rintro ⟨x, hx, e⟩
        rcases List.mem_append.1 hx with q | q
        · exact ⟨x, q, e⟩
        · rw [List.mem_singleton] at q
          subst q
          rw [← e]; exact ih2.1 g
    · rw [List.mem_append, ih, List.mem_singleton]
      constructor
      · rintro (⟨x, hx, e⟩ | e)
        · exact ⟨x, List.mem_append_left _ hx, e⟩
        · exact ⟨_, List.mem_append_right _ (List.mem_singleton.2 rfl), e.symm⟩
      · rintro ⟨x, hx, e⟩
        rcases List.mem_append.1 hx with q | q
        · exact .inl ⟨x, q, e⟩
        · rw [List.mem_singleton] at q
          subst q
          exact .inr e.symm
theorem cuK_asc {L : List Px} (ha : Asc L) : ∀ k, k ≤ L.length → (cuK L k).Pairwise (fun a b => strLt a b = true)
  | 0, _ => List.Pairwise.nil
  | k + 1, h => by
    have ih := cuK_asc ha k (by omega)
    simp only [cuK]
    split
    · exact ih
    · rename_i g
      rw [inK_mem rfl] at g
      refine List.pairwise_append.2 ⟨ih, List.pairwise_singleton _ _, fun x hx y hy => ?_⟩
      rw [List.mem_singleton] at hy
      subst hy
      obtain ⟨z, hz, e⟩ := (cuK_mem L k (by omega) x).1 hx
      obtain ⟨j, hj, e2⟩ := List.getElem_of_mem hz
      rw [List.length_take] at hj
      rw [List.getElem_take] at e2
      have hlt := asc_lt ha (show j < k by omega) h
      rw [List.getD, List.getElem?_eq_getElem (show j < L.length by omega)] at hlt
      simp only [Option.getD_some] at hlt
      rw [e2] at hlt
      rcases plt_iff.1 hlt with q | ⟨q, _⟩
      · rw [← e]; exact q
      · exfalso; apply g
        rw [← q, e]; exact hx
theorem rl_cur {b : Bk} {R : List Px} {B : Int} (h : BkI b B) (hps : b.ps.Pairwise (fun a b => strLt a b = true)) (hr : RlB b R) : cuR R = sortS b.cs ∧ (cuR R).length = b.m := by
  have hnd : b.ps.Nodup := hps.imp (fun {a b} h e => by subst e; rw [strLt_irrefl] at h; cases h)
  obtain ⟨e1, e2⟩ := rl_list h hps hr
  have ha := list_asc h hps
  have hc : cuR R = sortS b.cs := by
    unfold cuR
    rw [e1, e2]
    have hasc := cuK_asc ha b.list.length (Nat.le_refl _)
    refine (sortS_of ?_ hasc).symm
    refine (List.perm_ext_iff_of_nodup (hasc.imp (fun {a b} h e => by subst e; rw [strLt_irrefl] at h; cases h)) h.C.nd).2 fun s => ?_
    rw [cuK_mem _ _ (Nat.le_refl _), List.take_length]
    constructor
    · rintro ⟨x, hx, rfl⟩
      obtain ⟨q1, q2⟩ := (list_mem h hnd x).1 hx
      rw [mem_row h]
      intro e
      unfold netI at q2
      rw [e, z16_get] at q2
      split at q2 <;> exact q1 q2.symm
    · intro hs
      have hz := h.nz s hs
      have : ∃ j, j < 16 ∧ (b.row s).getD j 0 ≠ 0 := by
        refine Classical.byContradiction fun q => hz ?_
        refine getD_ext (h.rl s) rfl fun j => ?_
        rw [z16_get]
        by_cases hj : j < 16
        · exact Classical.byContradiction fun w => q ⟨j, hj, w⟩
        · rw [List.getD, List.getElem?_eq_none (by rw [h.rl]; omega)]; rfl
      obtain ⟨j, _, hj⟩ := this
      have hjn : j < b.n := Nat.lt_of_not_le fun q => hj (h.rt s j q)
      refine ⟨⟨b.ps.getD j ⟨#[]⟩, (b.row s).getD j 0, s⟩, (list_mem h hnd _).2 ⟨hj, ?_⟩, rfl⟩
      have e := Go.Sy.sidx_of_get (s := b.ps.getD j ⟨#[]⟩) hnd (show b.ps[j]? = some (b.ps.getD j ⟨#[]⟩) by rw [List.getD, List.getElem?_eq_getElem (by rw [h.psl]; exact hjn)]; rfl)
      unfold netI
      dsimp only
      rw [e, if_pos hjn]
  exact ⟨hc, by rw [hc, sortS_length, h.C.cl]⟩
/-- The parties of a book as they were handed in. -/
theorem inK_idI {ps sp : List ByteArray} {n : Nat} (hp : sp.Perm ps) (hn : ps.length = n) (s : ByteArray) : inK ps s n = false ↔ idI sp s n < 0 := by
  have hl : sp.length = n := hp.length_eq.trans hn
  rw [← Bool.not_eq_true, inK_mem hn, ← hp.mem_iff, ← Go.Sy.sidx_lt, hl]
  unfold idI
  split
  · rename_i h; constructor
    · intro q; exact absurd h q
    · intro q; omega
  · rename_i h; exact ⟨fun _ => by decide, fun _ => h⟩
theorem rl_move {b : Bk} {R : List Px} (h : BkI b 4503599627370496) {ps : List ByteArray} (hp : b.ps.Perm ps) (hr : RlB b R) (f t c : ByteArray) (a : Int) : rmE b.n ps R f t c a = mvE b f t c a ∧ (mvE b f t c a = 0 → RlB (b.mv f t c a) (rmR R f t c a)) := by
  have hpl : ps.length = b.n := by rw [← hp.length_eq]; exact h.psl
  have i1 := inK_idI hp hpl f
  have i2 := inK_idI hp hpl t
  have e0 : rmE b.n ps R f t c a = mvE b f t c a := by
    unfold rmE mvE
    by_cases q : idI b.ps f b.n < 0 ∨ idI b.ps t b.n < 0
    · rw [if_pos q, if_pos (q.elim (fun w => .inl (i1.2 w)) (fun w => .inr (i2.2 w)))]
    · rw [if_neg q, if_neg (fun w => q (w.elim (fun w => .inl (i1.1 w)) (fun w => .inr (i2.1 w))))]
      have q1 : sidx b.ps f < b.n := by
        rcases Nat.lt_or_ge (sidx b.ps f) b.n with w | w
        · exact w
        · exact absurd (.inl (by rw [idI_no (by omega)]; decide)) q
      have q2 : sidx b.ps t < b.n := by
        rcases Nat.lt_or_ge (sidx b.ps t) b.n with w | w
        · exact w
        · exact absurd (.inr (by rw [idI_no (by omega)]; decide)) q
      have e3 : f = t ↔ idI b.ps f b.n = idI b.ps t b.n := by
        constructor
        · intro e; rw [e]
        · intro e
          rw [idI_lt q1, idI_lt q2] at e
          have g1 := sidx_at (s := f) b.ps (by rw [h.psl]; exact q1)
          have g2 := sidx_at (s := t) b.ps (by rw [h.psl]; exact q2)
          rw [← g1, ← g2]
          congr 1; omega
      rw [hr.net, hr.net]
      unfold netI
      rw [if_pos q1, if_pos q2]
      by_cases w : f = t
      · rw [if_pos w, if_pos (e3.1 w)]
      · rw [if_neg w, if_neg (fun z => w (e3.2 z))]
  refine ⟨e0, fun he => ?_⟩
  have s : stE b f t c a = 0 := by
    rw [mvE_st] at he
    by_cases q : stE b f t c a = 0
    · exact q
    · rw [if_pos q] at he; exact he
  obtain ⟨hF, hT, hne, _⟩ := stE_ok s
  have hft : f ≠ t := fun e => hne (by rw [e])
  have hrow := mv_row h (by rw [he, s])
  have hmp := mv_ps b f t c a
  refine ⟨put_dist (put_dist hr.d _ _ _) _ _ _, fun p' c' => ?_⟩
  unfold rmR
  rw [put_net (put_dist hr.d _ _ _), put_net hr.d]
  have hN : netI (b.mv f t c a) p' c' = if sidx b.ps p' < b.n then (b.row c').getD (sidx b.ps p') 0 + dM b f t c a c' (sidx b.ps p') else 0 := by
    unfold netI
    rw [hmp.1, hmp.2]
    split
    · exact hrow c' _
    · rfl
  have hd : dM b f t c a c' (sidx b.ps p') = if c' = c then (if sidx b.ps p' = sidx b.ps f then -a else 0) + (if sidx b.ps p' = sidx b.ps t then a else 0) else 0 := by
    unfold dM
    by_cases q : c' = c
    · rw [if_pos ⟨s, q⟩, if_pos q]
    · rw [if_neg (fun w => q w.2), if_neg q]
  have inj : ∀ x, sidx b.ps p' < b.n → sidx b.ps x < b.n → sidx b.ps p' = sidx b.ps x → p' = x := fun x g1 g2 e => by
    have k1 := sidx_at (s := p') b.ps (by rw [h.psl]; exact g1)
    have k2 := sidx_at (s := x) b.ps (by rw [h.psl]; exact g2)
    rw [← k1, ← k2, e]
  rw [hN, hd]
  by_cases q1 : p' = t ∧ c' = c
  · obtain ⟨rfl, rfl⟩ := q1
    rw [if_pos ⟨rfl, rfl⟩, if_pos hT, if_pos rfl, if_neg (fun e => hne e.symm), if_pos rfl, hr.net]
    unfold netI
    rw [if_pos hT]; omega
  · rw [if_neg q1]
    by_cases q2 : p' = f ∧ c' = c
    · obtain ⟨rfl, rfl⟩ := q2
      rw [if_pos ⟨rfl, rfl⟩, if_pos hF, if_pos rfl, if_pos rfl, if_neg hne, hr.net]
      unfold netI
      rw [if_pos hF]; omega
    · rw [if_neg q2, hr.net]
      unfold netI
      split
      · rename_i hP
        by_cases q3 : c' = c
        · rw [if_pos q3, if_neg (fun e => q2 ⟨inj f hP hF e, q3⟩), if_neg (fun e => q1 ⟨inj t hP hT e, q3⟩)]; omega
        · rw [if_neg q3]; omega
      · rfl
end Go.Proofs.YtkbidlijinclcaaGreatDoor

/- The law PositionMoves. -/
namespace Go.Proofs.YtkbidlijinclcaaGreatDoor
open Go.RowKit Go.Sy
attribute [local irreducible] vcall vloop vcallD retP
set_option maxRecDepth 100000
set_option linter.unusedVariables false
set_option linter.unusedSimpArgs false

def shK (ps : List ByteArray) : Nat → Bool
  | 0 => true
  | k + 1 => shK ps k && !decide (50 < ((ps.getD k ⟨#[]⟩).size : Int))
theorem shK_stop {ps : List ByteArray} {k : Nat} (h : 50 < ((ps.getD k ⟨#[]⟩).size : Int)) : ∀ n, k < n → shK ps n = false
  | 0, q => by omega
  | n + 1, q => by
    simp only [shK]
    by_cases e : k = n
    · subst e; rw [decide_eq_true h]; simp
    · rw [shK_stop h n (by omega), Bool.false_and]
def shB (ps : List ByteArray) (n : Nat) : Bool := shK ps n && decide (n ≤ 20)
theorem law_short (n : Nat) (ps : List ByteArray) (hn : n ≤ maxLen) : FC Tryz.prog 2 5 [.sl 1 0 0 n] [(1, some (.one true (.cols n [.sc (.strs ps)])))] (isOut (.bool (shB ps n)) [] 2) := by
  have eM : maxLen = 9223372036854775807 := rfl
  refine fc_of mixed T_ok Tryz.func5 rfl (by kernel_rfl) (by kernel_rfl) (by kernel_rfl) ?_
  repeat' ((conv => whnf); first | (refine br_dec (fun h => ?_) (fun h => ?_) <;> try (exfalso; (try dsimp only at h); omega)) | (refine br_ndec (fun h => ?_) (fun h => ?_) <;> try (exfalso; (try dsimp only at h); omega)) | refine br_seq (fun h => ?_) (fun h => ?_) | refine br_nseq (fun h => ?_) (fun h => ?_) | refine br_not (fun h => ?_) (fun h => ?_) | refine br_intro (fun h => ?_) (fun h => ?_) | refine cond_intro rfl ?_ | (refine cond_intro ⟨rfl, ?_⟩ ?_; (first | omega | (dsimp only; omega) | decide)) | (refine cond_intro ?_ ?_; (first | omega | (dsimp only; omega) | decide | (simp only [Nat.add_zero, Int.toNat_natCast, *]; omega))))
  all_goals (conv => whnf)
  refine vloop_lp (fun k : Nat => ⟨[(0, .sl 1 0 0 n), (3, .int .i64 k)], [(1, some (.one true (.cols n [.sc (.strs ps)])))], 2⟩) (fun k => k ≤ n ∧ shK ps k = true) (fun k => n - k) 0 [0, 1] [] ⟨rfl, ⟨rfl, rfl, trivial⟩, ⟨rfl, trivial⟩⟩ ⟨Nat.zero_le _, rfl⟩ ?_
  rintro k ⟨hk, hs⟩
  by_cases hk2 : k < n
  · by_cases g : 50 < ((ps.getD k ⟨#[]⟩).size : Int)
    · have e : shB ps n = false := by unfold shB; rw [shK_stop g n hk2, Bool.false_and]
      rw [e]
      repeat' ((conv => whnf); first | (refine br_dec (fun h => ?_) (fun h => ?_) <;> try (exfalso; (try dsimp only at h); omega)) | (refine br_ndec (fun h => ?_) (fun h => ?_) <;> try (exfalso; (try dsimp only at h); omega)) | refine br_seq (fun h => ?_) (fun h => ?_) | refine br_nseq (fun h => ?_) (fun h => ?_) | refine br_not (fun h => ?_) (fun h => ?_) | refine br_intro (fun h => ?_) (fun h => ?_) | refine cond_intro rfl ?_ | (refine cond_intro ⟨rfl, ?_⟩ ?_; (first | omega | (dsimp only; omega) | decide)) | (refine cond_intro ?_ ?_; (first | omega | (dsimp only; omega) | decide | (simp only [Nat.add_zero, Int.toNat_natCast, *]; omega))))
      all_goals (conv => whnf)
      all_goals first
        | exact ret_out (l := [0, 1]) rfl rfl trivial allRw_nil
        | (exfalso; first | omega | contradiction)
        | trace_state
    · have e : shK ps (k + 1) = true := by simp only [shK]; rw [hs, decide_eq_false g]; rfl
      repeat' ((conv => whnf); first | (refine br_dec (fun h => ?_) (fun h => ?_) <;> try (exfalso; (try dsimp only at h); omega)) | (refine br_ndec (fun h => ?_) (fun h => ?_) <;> try (exfalso; (try dsimp only at h); omega)) | refine br_seq (fun h => ?_) (fun h => ?_) | refine br_nseq (fun h => ?_) (fun h => ?_) | refine br_not (fun h => ?_) (fun h => ?_) | refine br_intro (fun h => ?_) (fun h => ?_) | refine cond_intro rfl ?_ | (refine cond_intro ⟨rfl, ?_⟩ ?_; (first | omega | (dsimp only; omega) | decide)) | (refine cond_intro ?_ ?_; (first | omega | (dsimp only; omega) | decide | (simp only [Nat.add_zero, Int.toNat_natCast, *]; omega))))
      all_goals (conv => whnf)
      all_goals first
        | exact ⟨k + 1, [0, 1], [], ⟨hk2, e⟩, (show n - (k + 1) < n - k by omega), ⟨rfl, ⟨rfl, congrArg (fun z => some (SV.int .i64 z)) (i64_succ' (by omega)), trivial⟩, ⟨rfl, trivial⟩⟩⟩
        | (exfalso; first | omega | contradiction)
        | trace_state
  have ek : k = n := by omega
  subst ek
  have e : shB ps k = decide (k ≤ 20) := by unfold shB; rw [hs]; rfl
  rw [e]
  by_cases w1 : k ≤ 20
  all_goals simp only [w1, decide_true, decide_false]
  all_goals repeat' ((conv => whnf); first | (refine br_dec (fun h => ?_) (fun h => ?_) <;> try (exfalso; (try dsimp only at h); omega)) | (refine br_ndec (fun h => ?_) (fun h => ?_) <;> try (exfalso; (try dsimp only at h); omega)) | refine br_seq (fun h => ?_) (fun h => ?_) | refine br_nseq (fun h => ?_) (fun h => ?_) | refine br_not (fun h => ?_) (fun h => ?_) | refine br_intro (fun h => ?_) (fun h => ?_) | refine cond_intro rfl ?_ | (refine cond_intro ⟨rfl, ?_⟩ ?_; (first | omega | (dsimp only; omega) | decide)) | (refine cond_intro ?_ ?_; (first | omega | (dsimp only; omega) | decide | (simp only [Nat.add_zero, Int.toNat_natCast, *]; omega))))
  all_goals (conv => whnf)
  all_goals first
    | exact ret_out (l := [0, 1]) rfl rfl trivial allRw_nil
    | exact ret_out (l := [0, 1]) rfl (congrArg SV.bool (decide_eq_true (by omega))) trivial allRw_nil
    | exact ret_out (l := [0, 1]) rfl (congrArg SV.bool (decide_eq_false (by omega))) trivial allRw_nil
    | (exfalso; omega)
    | trace_state
theorem shK_sz {ps : List ByteArray} : ∀ n, shK ps n = true → ∀ j, j < n → (ps.getD j ⟨#[]⟩).size ≤ 50
  | 0, _, j, hj => by omega
  | n + 1, h, j, hj => by
    simp only [shK, Bool.and_eq_true, Bool.not_eq_true', decide_eq_false_iff_not] at h
    by_cases e : j = n
    · subst e; have := h.2; omega
    · exact shK_sz n h.1 j (by omega)
theorem shB_ok {ps : List ByteArray} {n : Nat} (h : shB ps n = true) (hl : ps.length = n) : n ≤ 20 ∧ ∀ j, (ps.getD j ⟨#[]⟩).size ≤ 9223372036854775807 := by
  unfold shB at h
  simp only [Bool.and_eq_true, decide_eq_true_eq] at h
  refine ⟨h.2, fun j => ?_⟩
  by_cases e : j < n
  · have := shK_sz n h.1 j e; omega
  · rw [List.getD, List.getElem?_eq_none (by omega)]; decide
theorem nil_Move (f t c : ByteArray) (a : Int) : Pure Tryz.prog 10 [.nptr, .str f, .str t, .agg [.int .i64 a, .str c]] (.int .i64 6) := by
  refine fc_of mixed T_ok Tryz.func10 rfl (by kernel_rfl) (by kernel_rfl) (by kernel_rfl) ?_
  repeat' ((conv => whnf); first | (refine br_dec (fun h => ?_) (fun h => ?_) <;> try (exfalso; (try dsimp only at h); omega)) | (refine br_ndec (fun h => ?_) (fun h => ?_) <;> try (exfalso; (try dsimp only at h); omega)) | refine br_seq (fun h => ?_) (fun h => ?_) | refine br_nseq (fun h => ?_) (fun h => ?_) | refine br_not (fun h => ?_) (fun h => ?_) | refine br_intro (fun h => ?_) (fun h => ?_) | refine cond_intro rfl ?_ | (refine cond_intro ⟨rfl, ?_⟩ ?_; (first | omega | (dsimp only; omega) | decide)) | (refine cond_intro ?_ ?_; (first | omega | (dsimp only; omega) | decide | (simp only [Nat.add_zero, Int.toNat_natCast, *]; omega))))
  all_goals (conv => whnf)
  all_goals first | exact ret_pure rfl | trace_state
theorem nil_Net (p c : ByteArray) : Pure Tryz.prog 12 [.nptr, .str p, .str c] (.int .i64 0) := by
  refine fc_of mixed T_ok Tryz.func12 rfl (by kernel_rfl) (by kernel_rfl) (by kernel_rfl) ?_
  repeat' ((conv => whnf); first | (refine br_dec (fun h => ?_) (fun h => ?_) <;> try (exfalso; (try dsimp only at h); omega)) | (refine br_ndec (fun h => ?_) (fun h => ?_) <;> try (exfalso; (try dsimp only at h); omega)) | refine br_seq (fun h => ?_) (fun h => ?_) | refine br_nseq (fun h => ?_) (fun h => ?_) | refine br_not (fun h => ?_) (fun h => ?_) | refine br_intro (fun h => ?_) (fun h => ?_) | refine cond_intro rfl ?_ | (refine cond_intro ⟨rfl, ?_⟩ ?_; (first | omega | (dsimp only; omega) | decide)) | (refine cond_intro ?_ ?_; (first | omega | (dsimp only; omega) | decide | (simp only [Nat.add_zero, Int.toNat_natCast, *]; omega))))
  all_goals (conv => whnf)
  all_goals first | exact ret_pure rfl | trace_state
theorem nil_List : Pure Tryz.prog 15 [.nptr] .nsl := by
  refine fc_of mixed T_ok Tryz.func15 rfl (by kernel_rfl) (by kernel_rfl) (by kernel_rfl) ?_
  repeat' ((conv => whnf); first | (refine br_dec (fun h => ?_) (fun h => ?_) <;> try (exfalso; (try dsimp only at h); omega)) | (refine br_ndec (fun h => ?_) (fun h => ?_) <;> try (exfalso; (try dsimp only at h); omega)) | refine br_seq (fun h => ?_) (fun h => ?_) | refine br_nseq (fun h => ?_) (fun h => ?_) | refine br_not (fun h => ?_) (fun h => ?_) | refine br_intro (fun h => ?_) (fun h => ?_) | refine cond_intro rfl ?_ | (refine cond_intro ⟨rfl, ?_⟩ ?_; (first | omega | (dsimp only; omega) | decide)) | (refine cond_intro ?_ ?_; (first | omega | (dsimp only; omega) | decide | (simp only [Nat.add_zero, Int.toNat_natCast, *]; omega))))
  all_goals (conv => whnf)
  all_goals first | exact ret_pure rfl | trace_state
theorem nil_Currencies : Pure Tryz.prog 17 [.nptr] .nsl := by
  refine fc_of mixed T_ok Tryz.func17 rfl (by kernel_rfl) (by kernel_rfl) (by kernel_rfl) ?_
  repeat' ((conv => whnf); first | (refine br_dec (fun h => ?_) (fun h => ?_) <;> try (exfalso; (try dsimp only at h); omega)) | (refine br_ndec (fun h => ?_) (fun h => ?_) <;> try (exfalso; (try dsimp only at h); omega)) | refine br_seq (fun h => ?_) (fun h => ?_) | refine br_nseq (fun h => ?_) (fun h => ?_) | refine br_not (fun h => ?_) (fun h => ?_) | refine br_intro (fun h => ?_) (fun h => ?_) | refine cond_intro rfl ?_ | (refine cond_intro ⟨rfl, ?_⟩ ?_; (first | omega | (dsimp only; omega) | decide)) | (refine cond_intro ?_ ?_; (first | omega | (dsimp only; omega) | decide | (simp only [Nat.add_zero, Int.toNat_natCast, *]; omega))))
  all_goals (conv => whnf)
  all_goals first | exact ret_pure rfl | trace_state
theorem nil_Convert (t p : ByteArray) : Pure Tryz.prog 19 [.nptr, .nsl, .str t, .str p] (.tup [.nsl, .int .i64 6]) := by
  refine fc_of mixed T_ok Tryz.func19 rfl (by kernel_rfl) (by kernel_rfl) (by kernel_rfl) ?_
  repeat' ((conv => whnf); first | (refine br_dec (fun h => ?_) (fun h => ?_) <;> try (exfalso; (try dsimp only at h); omega)) | (refine br_ndec (fun h => ?_) (fun h => ?_) <;> try (exfalso; (try dsimp only at h); omega)) | refine br_seq (fun h => ?_) (fun h => ?_) | refine br_nseq (fun h => ?_) (fun h => ?_) | refine br_not (fun h => ?_) (fun h => ?_) | refine br_intro (fun h => ?_) (fun h => ?_) | refine cond_intro rfl ?_ | (refine cond_intro ⟨rfl, ?_⟩ ?_; (first | omega | (dsimp only; omega) | decide)) | (refine cond_intro ?_ ?_; (first | omega | (dsimp only; omega) | decide | (simp only [Nat.add_zero, Int.toNat_natCast, *]; omega))))
  all_goals (conv => whnf)
  all_goals first | exact ret_pure rfl | trace_state
theorem pos_CurX {b : Bk} (h : BkI b 4503599627370496) {np : Nat} {ps : List ByteArray} (hn : b.n = np) (hp : b.ps = ps) (hm : b.m ≤ 100000) : FC Tryz.prog 4 17 [.ptr 1 0 0 0] (bkX true np ps b) (isOut (.sl 4 0 0 b.m) [(4, some (.one false (.cols b.m [.sc (.strs (sortS b.cs))])))] 5) := by
  subst hn hp; exact pos_Currencies b (h.cok hm)
theorem rmE_np {n np : Nat} (h : n = np) {ps : List ByteArray} {R : List Px} {f t c : ByteArray} {a : Int} : rmE n ps R f t c a = rmE np ps R f t c a := by rw [h]
abbrev mzR (l0 m : Nat) (R : List Px) : Heap := [(6, some (.one false (.cells [.sl 1 0 0 l0, .sl 7 0 0 m]))), (7, some (.one false (pxB m (pxOf R))))]
abbrev mzC (m : Nat) (cs : List ByteArray) : Heap := [(8, some (.one false (.cols m [.sc (.strs cs)]))), (9, some (.one false (.cols m [.sc (.strs cs)])))]
theorem rl_new {ps : List ByteArray} : RlB (nwB ps) [] := by
  refine ⟨List.Pairwise.nil, fun p c => ?_⟩
  unfold netI
  have e : (nwB ps).row c = z16 := rfl
  rw [e, z16_get]
  split <;> rfl
set_option maxHeartbeats 3200000 in
theorem law_Moves (l0 : Nat) (ps : List ByteArray) (hl0 : ps.length = l0) (hl0m : l0 ≤ maxLen) (n : Nat) (mf mt : List ByteArray) (ma : List Int) (mc : List ByteArray) (hn : n ≤ maxLen) :
    FC Tryz.prog 3 3 [.sl 1 0 0 l0, .sl 2 0 0 n] (orH l0 ps n mf mt ma mc) (isOut (.bool true) [] 3) := by
  have cw := law_awake
  have eM : maxLen = 9223372036854775807 := rfl
  have ch := law_short l0 ps hl0m
  have cs := law_smallN n mf mt ma mc hn
  have z0 := law_eur
  have z1 := nil_Move
  have z2 := nil_Net
  have z3 := nil_List
  have z4 := nil_Currencies
  have z5 := nil_Convert
  cases hsh : shB ps l0 with
  | false =>
    rw [hsh] at ch
    refine fc_of mixed T_ok Tryz.func3 rfl (by kernel_rfl) (by kernel_rfl) (by kernel_rfl) ?_
    repeat' ((conv => whnf); first | (refine vcall_out (l :=  [0, 1]) (ch ) ⟨rfl, rfl, rfl, rfl, (by (repeat' (first | exact trivial | exact GB_wf | exact fun _ _ => rfl | constructor)); first | done | fail), (by (repeat' (first | exact trivial | exact GB_fits rfl | constructor)); first | done | fail)⟩ ?_) | (refine vcall_out (l :=  [0, 2]) (cs ) ⟨rfl, rfl, rfl, rfl, (by (repeat' (first | exact trivial | exact GB_wf | exact fun _ _ => rfl | constructor)); first | done | fail), (by (repeat' (first | exact trivial | exact GB_fits rfl | constructor)); first | done | fail)⟩ ?_) | (refine vcall_out (l :=  [0]) (cw ) ⟨rfl, rfl, rfl, rfl, (by (repeat' (first | exact trivial | exact GB_wf | exact fun _ _ => rfl | constructor)); first | done | fail), (by (repeat' (first | exact trivial | exact GB_fits rfl | constructor)); first | done | fail)⟩ ?_) | (refine vcallD_out (l :=  [0]) (cw ) ⟨rfl, rfl, rfl, rfl, (by (repeat' (first | exact trivial | exact GB_wf | exact fun _ _ => rfl | constructor)); first | done | fail), (by (repeat' (first | exact trivial | exact GB_fits rfl | constructor)); first | done | fail)⟩ ?_) | (refine br_dec (fun h => ?_) (fun h => ?_) <;> try (exfalso; (try dsimp only at h); omega)) | (refine br_ndec (fun h => ?_) (fun h => ?_) <;> try (exfalso; (try dsimp only at h); omega)) | refine br_seq (fun h => ?_) (fun h => ?_) | refine br_nseq (fun h => ?_) (fun h => ?_) | refine br_not (fun h => ?_) (fun h => ?_) | refine br_intro (fun h => ?_) (fun h => ?_) | refine cond_intro rfl ?_ | (refine cond_intro ⟨rfl, ?_⟩ ?_; (first | omega | (dsimp only; omega) | decide)) | (refine cond_intro ?_ ?_; (first | omega | (dsimp only; omega) | decide | (simp only [Nat.add_zero, Int.toNat_natCast, *]; omega))))
    all_goals (conv => whnf)
    all_goals first
      | exact ret_out (l := [0, 1, 2]) rfl rfl trivial allRw_nil
      | (exfalso; first | omega | contradiction)
      | trace_state
  | true =>
  rw [hsh] at ch
  obtain ⟨h20, hsz⟩ := shB_ok hsh hl0
  cases hsm : smB mf mt mc n rl0 with
  | false =>
    rw [hsm] at cs
    refine fc_of mixed T_ok Tryz.func3 rfl (by kernel_rfl) (by kernel_rfl) (by kernel_rfl) ?_
    repeat' ((conv => whnf); first | (refine vcall_out (l :=  [0, 1]) (ch ) ⟨rfl, rfl, rfl, rfl, (by (repeat' (first | exact trivial | exact GB_wf | exact fun _ _ => rfl | constructor)); first | done | fail), (by (repeat' (first | exact trivial | exact GB_fits rfl | constructor)); first | done | fail)⟩ ?_) | (refine vcall_out (l :=  [0, 2]) (cs ) ⟨rfl, rfl, rfl, rfl, (by (repeat' (first | exact trivial | exact GB_wf | exact fun _ _ => rfl | constructor)); first | done | fail), (by (repeat' (first | exact trivial | exact GB_fits rfl | constructor)); first | done | fail)⟩ ?_) | (refine vcall_out (l :=  [0]) (cw ) ⟨rfl, rfl, rfl, rfl, (by (repeat' (first | exact trivial | exact GB_wf | exact fun _ _ => rfl | constructor)); first | done | fail), (by (repeat' (first | exact trivial | exact GB_fits rfl | constructor)); first | done | fail)⟩ ?_) | (refine vcallD_out (l :=  [0]) (cw ) ⟨rfl, rfl, rfl, rfl, (by (repeat' (first | exact trivial | exact GB_wf | exact fun _ _ => rfl | constructor)); first | done | fail), (by (repeat' (first | exact trivial | exact GB_fits rfl | constructor)); first | done | fail)⟩ ?_) | (refine br_dec (fun h => ?_) (fun h => ?_) <;> try (exfalso; (try dsimp only at h); omega)) | (refine br_ndec (fun h => ?_) (fun h => ?_) <;> try (exfalso; (try dsimp only at h); omega)) | refine br_seq (fun h => ?_) (fun h => ?_) | refine br_nseq (fun h => ?_) (fun h => ?_) | refine br_not (fun h => ?_) (fun h => ?_) | refine br_intro (fun h => ?_) (fun h => ?_) | refine cond_intro rfl ?_ | (refine cond_intro ⟨rfl, ?_⟩ ?_; (first | omega | (dsimp only; omega) | decide)) | (refine cond_intro ?_ ?_; (first | omega | (dsimp only; omega) | decide | (simp only [Nat.add_zero, Int.toNat_natCast, *]; omega))))
    all_goals (conv => whnf)
    all_goals first
      | exact ret_out (l := [0, 1, 2]) rfl rfl trivial allRw_nil
      | (exfalso; first | omega | contradiction)
      | trace_state
  | true =>
  rw [hsm] at cs
  have h60 := (smB_ok hsm).1
  have c0 := pos_NewA ps l0 hl0
  have r0 := ref40_New ps l0 hl0 hsz
  unfold nwOut at c0
  unfold rnOut at r0
  by_cases he : nwErr ps = 0
  case neg =>
    rw [if_pos he] at c0 r0
    generalize nwErr ps = er at *
    refine fc_of mixed T_ok Tryz.func3 rfl (by kernel_rfl) (by kernel_rfl) (by kernel_rfl) ?_
    repeat' ((conv => whnf); first | (refine vcall_out (l :=  [0, 1]) (ch ) ⟨rfl, rfl, rfl, rfl, (by (repeat' (first | exact trivial | exact GB_wf | exact fun _ _ => rfl | constructor)); first | done | fail), (by (repeat' (first | exact trivial | exact GB_fits rfl | constructor)); first | done | fail)⟩ ?_) | (refine vcall_out (l :=  [0, 2]) (cs ) ⟨rfl, rfl, rfl, rfl, (by (repeat' (first | exact trivial | exact GB_wf | exact fun _ _ => rfl | constructor)); first | done | fail), (by (repeat' (first | exact trivial | exact GB_fits rfl | constructor)); first | done | fail)⟩ ?_) | (refine vcall_out (l :=  [0, 1]) (c0 ) ⟨rfl, rfl, rfl, rfl, (by (repeat' (first | exact trivial | exact GB_wf | exact fun _ _ => rfl | constructor)); first | done | fail), (by (repeat' (first | exact trivial | exact GB_fits rfl | constructor)); first | done | fail)⟩ ?_) | (refine vcall_out (l :=  [0, 1]) (r0 ) ⟨rfl, rfl, rfl, rfl, (by (repeat' (first | exact trivial | exact GB_wf | exact fun _ _ => rfl | constructor)); first | done | fail), (by (repeat' (first | exact trivial | exact GB_fits rfl | constructor)); first | done | fail)⟩ ?_) | (refine vcall_out (l :=  [0]) (cw ) ⟨rfl, rfl, rfl, rfl, (by (repeat' (first | exact trivial | exact GB_wf | exact fun _ _ => rfl | constructor)); first | done | fail), (by (repeat' (first | exact trivial | exact GB_fits rfl | constructor)); first | done | fail)⟩ ?_) | (refine vcallD_out (l :=  [0]) (cw ) ⟨rfl, rfl, rfl, rfl, (by (repeat' (first | exact trivial | exact GB_wf | exact fun _ _ => rfl | constructor)); first | done | fail), (by (repeat' (first | exact trivial | exact GB_fits rfl | constructor)); first | done | fail)⟩ ?_) | (refine br_dec (fun h => ?_) (fun h => ?_) <;> try (exfalso; (try dsimp only at h); omega)) | (refine br_ndec (fun h => ?_) (fun h => ?_) <;> try (exfalso; (try dsimp only at h); omega)) | refine br_seq (fun h => ?_) (fun h => ?_) | refine br_nseq (fun h => ?_) (fun h => ?_) | refine br_not (fun h => ?_) (fun h => ?_) | refine br_intro (fun h => ?_) (fun h => ?_) | refine cond_intro rfl ?_ | (refine cond_intro ⟨rfl, ?_⟩ ?_; (first | omega | (dsimp only; omega) | decide)) | (refine cond_intro ?_ ?_; (first | omega | (dsimp only; omega) | decide | (simp only [Nat.add_zero, Int.toNat_natCast, *]; omega))))
    all_goals (conv => whnf)
    all_goals first
      | exact ret_out (l := [0, 1, 2]) rfl rfl trivial allRw_nil
      | (exfalso; first | omega | contradiction)
      | skip
    refine vloop_lp (fun _ : Unit => ⟨[(1, .sl 2 0 0 n), (5, .nptr), (9, .int .i64 0)], orH l0 ps n mf mt ma mc, 3⟩) (fun _ => True) (fun _ => 0) () [0, 1, 2] [] ⟨rfl, ⟨rfl, rfl, rfl, trivial⟩, ⟨gwk rfl, rfl, rfl, trivial⟩⟩ trivial ?_
    rintro u -
    repeat' ((conv => whnf); first | (refine vcall_pure (z0 _) rfl rfl rfl ?_) | (refine vcallD_pure (z0 _) rfl rfl rfl ?_) | (refine vcall_pure (z1 _ _ _ _) rfl rfl rfl ?_) | (refine vcallD_pure (z1 _ _ _ _) rfl rfl rfl ?_) | (refine vcall_pure (z2 _ _) rfl rfl rfl ?_) | (refine vcallD_pure (z2 _ _) rfl rfl rfl ?_) | (refine vcall_pure (z3) rfl rfl rfl ?_) | (refine vcallD_pure (z3) rfl rfl rfl ?_) | (refine vcall_pure (z4) rfl rfl rfl ?_) | (refine vcallD_pure (z4) rfl rfl rfl ?_) | (refine vcall_pure (z5 _ _) rfl rfl rfl ?_) | (refine vcallD_pure (z5 _ _) rfl rfl rfl ?_) | (refine vcall_out (l :=  [0]) (cw ) ⟨rfl, rfl, rfl, rfl, (by (repeat' (first | exact trivial | exact GB_wf | exact fun _ _ => rfl | constructor)); first | done | fail), (by (repeat' (first | exact trivial | exact GB_fits rfl | constructor)); first | done | fail)⟩ ?_) | (refine vcallD_out (l :=  [0]) (cw ) ⟨rfl, rfl, rfl, rfl, (by (repeat' (first | exact trivial | exact GB_wf | exact fun _ _ => rfl | constructor)); first | done | fail), (by (repeat' (first | exact trivial | exact GB_fits rfl | constructor)); first | done | fail)⟩ ?_) | (refine br_dec (fun h => ?_) (fun h => ?_) <;> try (exfalso; (try dsimp only at h); omega)) | (refine br_ndec (fun h => ?_) (fun h => ?_) <;> try (exfalso; (try dsimp only at h); omega)) | refine br_seq (fun h => ?_) (fun h => ?_) | refine br_nseq (fun h => ?_) (fun h => ?_) | refine br_not (fun h => ?_) (fun h => ?_) | refine br_intro (fun h => ?_) (fun h => ?_) | refine cond_intro rfl ?_ | (refine cond_intro ⟨rfl, ?_⟩ ?_; (first | omega | (dsimp only; omega) | decide)) | (refine cond_intro ?_ ?_; (first | omega | (dsimp only; omega) | decide | (simp only [Nat.add_zero, Int.toNat_natCast, *]; omega))))
    all_goals (conv => whnf)
    all_goals first
      | exact ret_out (l := [0, 1, 2]) rfl rfl trivial allRw_nil
      | (exfalso; first | omega | contradiction)
      | trace_state
  rw [if_neg (by simpa using he), hl0] at c0
  rw [if_neg (by simpa using he)] at r0
  have hI0 := nwB_I he
  obtain ⟨h16, hnd, _⟩ := nw_ok he
  have hps0 : (nwB ps).ps = sortS ps := rfl
  have hn0 : (nwB ps).n = l0 := hl0
  have hm0 : (nwB ps).m = 0 := rfl
  have hR0 : RlB (nwB ps) [] := rl_new
  have hasc := sortS_pairwise hnd
  have hprm := sortS_perm ps
  unfold bkP at c0
  rw [hn0, hps0] at c0
  generalize nwB ps = b0 at *
  generalize sortS ps = sp at *
  refine fc_of mixed T_ok Tryz.func3 rfl (by kernel_rfl) (by kernel_rfl) (by kernel_rfl) ?_
  repeat' ((conv => whnf); first | (refine vcall_out (l :=  [0, 1]) (ch ) ⟨rfl, rfl, rfl, rfl, (by (repeat' (first | exact trivial | exact GB_wf | exact fun _ _ => rfl | constructor)); first | done | fail), (by (repeat' (first | exact trivial | exact GB_fits rfl | constructor)); first | done | fail)⟩ ?_) | (refine vcall_out (l :=  [0, 2]) (cs ) ⟨rfl, rfl, rfl, rfl, (by (repeat' (first | exact trivial | exact GB_wf | exact fun _ _ => rfl | constructor)); first | done | fail), (by (repeat' (first | exact trivial | exact GB_fits rfl | constructor)); first | done | fail)⟩ ?_) | (refine vcall_out (l :=  [0, 1]) (c0 ) ⟨rfl, rfl, rfl, rfl, (by (repeat' (first | exact trivial | exact GB_wf | exact fun _ _ => rfl | constructor)); first | done | fail), (by (repeat' (first | exact trivial | exact GB_fits rfl | constructor)); first | done | fail)⟩ ?_) | (refine vcall_out (l :=  [0, 1]) (r0 ) ⟨rfl, rfl, rfl, rfl, (by (repeat' (first | exact trivial | exact GB_wf | exact fun _ _ => rfl | constructor)); first | done | fail), (by (repeat' (first | exact trivial | exact GB_fits rfl | constructor)); first | done | fail)⟩ ?_) | (refine vcall_out (l :=  [0]) (cw ) ⟨rfl, rfl, rfl, rfl, (by (repeat' (first | exact trivial | exact GB_wf | exact fun _ _ => rfl | constructor)); first | done | fail), (by (repeat' (first | exact trivial | exact GB_fits rfl | constructor)); first | done | fail)⟩ ?_) | (refine vcallD_out (l :=  [0]) (cw ) ⟨rfl, rfl, rfl, rfl, (by (repeat' (first | exact trivial | exact GB_wf | exact fun _ _ => rfl | constructor)); first | done | fail), (by (repeat' (first | exact trivial | exact GB_fits rfl | constructor)); first | done | fail)⟩ ?_) | (refine br_dec (fun h => ?_) (fun h => ?_) <;> try (exfalso; (try dsimp only at h); omega)) | (refine br_ndec (fun h => ?_) (fun h => ?_) <;> try (exfalso; (try dsimp only at h); omega)) | refine br_seq (fun h => ?_) (fun h => ?_) | refine br_nseq (fun h => ?_) (fun h => ?_) | refine br_not (fun h => ?_) (fun h => ?_) | refine br_intro (fun h => ?_) (fun h => ?_) | refine cond_intro rfl ?_ | (refine cond_intro ⟨rfl, ?_⟩ ?_; (first | omega | (dsimp only; omega) | decide)) | (refine cond_intro ?_ ?_; (first | omega | (dsimp only; omega) | decide | (simp only [Nat.add_zero, Int.toNat_natCast, *]; omega))))
  all_goals (conv => whnf)
  all_goals first
    | (exfalso; first | omega | contradiction)
    | skip
  refine vloop_lp (fun x : Nat × Bk × List Px => ⟨[(1, .sl 2 0 0 n), (5, .ptr 3 0 0 0), (7, .ptr 6 0 0 0), (9, .int .i64 x.1)], orH l0 ps n mf mt ma mc ++ (orA l0 sp x.2.1 ++ mzR l0 x.2.2.length x.2.2), 8⟩) (fun x => x.1 ≤ n ∧ BkI x.2.1 4503599627370496 ∧ x.2.1.n = l0 ∧ x.2.1.ps = sp ∧ x.2.1.m ≤ x.1 ∧ RlB x.2.1 x.2.2 ∧ x.2.2.length ≤ 2 * x.1) (fun x => n - x.1) (0, b0, []) [0, 1, 2, 4, 5, 6, 7, 8] [.cell 7 1 [.sc (.strs []), .sc (.ints .i64 []), .sc (.strs [])]] ⟨rfl, ⟨rfl, rfl, rfl, rfl, trivial⟩, ⟨gwk rfl, rfl, rfl, rfl, rfl, rfl, rfl, rfl, trivial⟩⟩ ⟨Nat.zero_le _, hI0.up (by decide), hn0, hps0, by dsimp only; omega, hR0, Nat.le_refl _⟩ ?_
  rintro ⟨i, b, R⟩ ⟨hi, hbI, hbn, hbp, hbm, hbR, hRl⟩
  dsimp only at hi hbI hbn hbp hbm hbR hRl
  by_cases hi2 : i < n
  case neg =>
    repeat' ((conv => whnf); first | (refine vcall_pure (z0 _) rfl rfl rfl ?_) | (refine vcallD_pure (z0 _) rfl rfl rfl ?_) | (refine vcall_pure (z1 _ _ _ _) rfl rfl rfl ?_) | (refine vcallD_pure (z1 _ _ _ _) rfl rfl rfl ?_) | (refine vcall_pure (z2 _ _) rfl rfl rfl ?_) | (refine vcallD_pure (z2 _ _) rfl rfl rfl ?_) | (refine vcall_pure (z3) rfl rfl rfl ?_) | (refine vcallD_pure (z3) rfl rfl rfl ?_) | (refine vcall_pure (z4) rfl rfl rfl ?_) | (refine vcallD_pure (z4) rfl rfl rfl ?_) | (refine vcall_pure (z5 _ _) rfl rfl rfl ?_) | (refine vcallD_pure (z5 _ _) rfl rfl rfl ?_) | (refine vcall_out (l :=  [0]) (cw ) ⟨rfl, rfl, rfl, rfl, (by (repeat' (first | exact trivial | exact GB_wf | exact fun _ _ => rfl | constructor)); first | done | fail), (by (repeat' (first | exact trivial | exact GB_fits rfl | constructor)); first | done | fail)⟩ ?_) | (refine vcallD_out (l :=  [0]) (cw ) ⟨rfl, rfl, rfl, rfl, (by (repeat' (first | exact trivial | exact GB_wf | exact fun _ _ => rfl | constructor)); first | done | fail), (by (repeat' (first | exact trivial | exact GB_fits rfl | constructor)); first | done | fail)⟩ ?_) | (refine br_dec (fun h => ?_) (fun h => ?_) <;> try (exfalso; (try dsimp only at h); omega)) | (refine br_ndec (fun h => ?_) (fun h => ?_) <;> try (exfalso; (try dsimp only at h); omega)) | refine br_seq (fun h => ?_) (fun h => ?_) | refine br_nseq (fun h => ?_) (fun h => ?_) | refine br_not (fun h => ?_) (fun h => ?_) | refine br_intro (fun h => ?_) (fun h => ?_) | refine cond_intro rfl ?_ | (refine cond_intro ⟨rfl, ?_⟩ ?_; (first | omega | (dsimp only; omega) | decide)) | (refine cond_intro ?_ ?_; (first | omega | (dsimp only; omega) | decide | (simp only [Nat.add_zero, Int.toNat_natCast, *]; omega))))
    all_goals (conv => whnf)
    all_goals first
      | exact ret_out (l := [0, 1, 2]) rfl rfl trivial allRw_nil
      | (exfalso; first | omega | contradiction)
      | trace_state
  have hpp : b.ps.Perm ps := hbp ▸ hprm
  have hpa : b.ps.Pairwise (fun a b => strLt a b = true) := hbp ▸ hasc
  have d1 := pos_MoveX hbI hbn hbp (mf.getD i ⟨#[]⟩) (mt.getD i ⟨#[]⟩) (mc.getD i ⟨#[]⟩) (ma.getD i 0)
  have d2 := ref40_Move l0 ps (by omega) R R.length rfl (by omega) (mf.getD i ⟨#[]⟩) (mt.getD i ⟨#[]⟩) (mc.getD i ⟨#[]⟩) (ma.getD i 0) (fun p c => by rw [hbR.net]; exact netI_bd hbI (by decide) p c)
  obtain ⟨k1, k2⟩ := rl_move hbI hpp hbR (mf.getD i ⟨#[]⟩) (mt.getD i ⟨#[]⟩) (mc.getD i ⟨#[]⟩) (ma.getD i 0)
  have hb2 := mv_I hbI (mf.getD i ⟨#[]⟩) (mt.getD i ⟨#[]⟩) (mc.getD i ⟨#[]⟩) (ma.getD i 0)
  have hp2 := mv_ps b (mf.getD i ⟨#[]⟩) (mt.getD i ⟨#[]⟩) (mc.getD i ⟨#[]⟩) (ma.getD i 0)
  have hm2 := mv_m b (mf.getD i ⟨#[]⟩) (mt.getD i ⟨#[]⟩) (mc.getD i ⟨#[]⟩) (ma.getD i 0)
  rw [rmE_np hbn] at k1
  unfold rmOut at d2
  rw [k1] at d2
  by_cases g : mvE b (mf.getD i ⟨#[]⟩) (mt.getD i ⟨#[]⟩) (mc.getD i ⟨#[]⟩) (ma.getD i 0) = 0
  · rw [if_pos g] at d2
    rw [g] at d1
    have hRR := k2 g
    have hl2 : (rmR R (mf.getD i ⟨#[]⟩) (mt.getD i ⟨#[]⟩) (mc.getD i ⟨#[]⟩) (ma.getD i 0)).length ≤ R.length + 2 := by
      unfold rmR
      have a1 := putR_len R (mf.getD i ⟨#[]⟩) (mc.getD i ⟨#[]⟩) (netR R (mf.getD i ⟨#[]⟩) (mc.getD i ⟨#[]⟩) - ma.getD i 0)
      have a2 := putR_len (putR R (mf.getD i ⟨#[]⟩) (mc.getD i ⟨#[]⟩) (netR R (mf.getD i ⟨#[]⟩) (mc.getD i ⟨#[]⟩) - ma.getD i 0)) (mt.getD i ⟨#[]⟩) (mc.getD i ⟨#[]⟩) (netR R (mt.getD i ⟨#[]⟩) (mc.getD i ⟨#[]⟩) + ma.getD i 0)
      omega
    generalize rmR R (mf.getD i ⟨#[]⟩) (mt.getD i ⟨#[]⟩) (mc.getD i ⟨#[]⟩) (ma.getD i 0) = R2 at *
    generalize b.mv (mf.getD i ⟨#[]⟩) (mt.getD i ⟨#[]⟩) (mc.getD i ⟨#[]⟩) (ma.getD i 0) = b2 at *
    have hn2 := hp2.2.trans hbn
    have hq2 := hp2.1.trans hbp
    have hpa2 : b2.ps.Pairwise (fun a b => strLt a b = true) := hq2 ▸ hasc
    have n1 := pos_NetX hb2 hn2 hq2 (mf.getD i ⟨#[]⟩) (mc.getD i ⟨#[]⟩)
    have n2 := ref40_Net l0 ps R2 R2.length rfl (by omega) (mf.getD i ⟨#[]⟩) (mc.getD i ⟨#[]⟩)
    rw [hRR.net] at n2
    have la := pos_ListX hb2 hn2 hq2 (by omega)
    have lb := ref40_List l0 ps R2 R2.length rfl (by omega) hRR.d
    obtain ⟨e1, e2⟩ := rl_list hb2 hpa2 hRR
    obtain ⟨e3, e4⟩ := rl_cur hb2 hpa2 hRR
    rw [e1, e2] at lb
    have ca := pos_CurX hb2 hn2 hq2 (by omega)
    have cb := ref40_Currencies l0 ps R2 R2.length rfl (by omega) hRR.d
    rw [e4, e3] at cb
    have cS := law_same (pxOf b2.list) b2.list.length (list_le b2 hb2.n16 (by omega))
    have hinv : i + 1 ≤ n ∧ BkI b2 4503599627370496 ∧ b2.n = l0 ∧ b2.ps = sp ∧ b2.m ≤ i + 1 ∧ RlB b2 R2 ∧ R2.length ≤ 2 * (i + 1) := ⟨hi2, hb2, hn2, hq2, by omega, hRR, by omega⟩
    generalize netI b2 (mf.getD i ⟨#[]⟩) (mc.getD i ⟨#[]⟩) = nn at *
    generalize b2.list.length = ll at *
    generalize pxOf b2.list = LL at *
    generalize sortS b2.cs = CC at *
    have hm3 : b2.m ≤ 60 := by omega
    generalize hcm : b2.m = cm at ca cb hm3
    repeat' ((conv => whnf); first | (refine vcall_out (l :=  [0, 3, 4, 5]) (d1 ) ⟨rfl, rfl, rfl, rfl, (by (repeat' (first | exact trivial | exact GB_wf | exact fun _ _ => rfl | constructor)); first | done | fail), (by (repeat' (first | exact trivial | exact GB_fits rfl | constructor)); first | done | fail)⟩ ?_) | (refine vcallD_out (l :=  [0, 3, 4, 5]) (d1 ) ⟨rfl, rfl, rfl, rfl, (by (repeat' (first | exact trivial | exact GB_wf | exact fun _ _ => rfl | constructor)); first | done | fail), (by (repeat' (first | exact trivial | exact GB_fits rfl | constructor)); first | done | fail)⟩ ?_) | (refine vcall_out (l :=  [0, 6, 1, 7]) (d2 ) ⟨rfl, rfl, rfl, rfl, (by (repeat' (first | exact trivial | exact GB_wf | exact fun _ _ => rfl | constructor)); first | done | fail), (by (repeat' (first | exact trivial | exact GB_fits rfl | constructor)); first | done | fail)⟩ ?_) | (refine vcallD_out (l :=  [0, 6, 1, 7]) (d2 ) ⟨rfl, rfl, rfl, rfl, (by (repeat' (first | exact trivial | exact GB_wf | exact fun _ _ => rfl | constructor)); first | done | fail), (by (repeat' (first | exact trivial | exact GB_fits rfl | constructor)); first | done | fail)⟩ ?_) | (refine vcall_out (l :=  [0, 3, 4, 5]) (n1 ) ⟨rfl, rfl, rfl, rfl, (by (repeat' (first | exact trivial | exact GB_wf | exact fun _ _ => rfl | constructor)); first | done | fail), (by (repeat' (first | exact trivial | exact GB_fits rfl | constructor)); first | done | fail)⟩ ?_) | (refine vcallD_out (l :=  [0, 3, 4, 5]) (n1 ) ⟨rfl, rfl, rfl, rfl, (by (repeat' (first | exact trivial | exact GB_wf | exact fun _ _ => rfl | constructor)); first | done | fail), (by (repeat' (first | exact trivial | exact GB_fits rfl | constructor)); first | done | fail)⟩ ?_) | (refine vcall_out (l :=  [0, 6, 1, 9]) (n2 ) ⟨rfl, rfl, rfl, rfl, (by (repeat' (first | exact trivial | exact GB_wf | exact fun _ _ => rfl | constructor)); first | done | fail), (by (repeat' (first | exact trivial | exact GB_fits rfl | constructor)); first | done | fail)⟩ ?_) | (refine vcallD_out (l :=  [0, 6, 1, 9]) (n2 ) ⟨rfl, rfl, rfl, rfl, (by (repeat' (first | exact trivial | exact GB_wf | exact fun _ _ => rfl | constructor)); first | done | fail), (by (repeat' (first | exact trivial | exact GB_fits rfl | constructor)); first | done | fail)⟩ ?_) | (refine vcall_out (l :=  [0, 3, 4, 5]) (la ) ⟨rfl, rfl, rfl, rfl, (by (repeat' (first | exact trivial | exact GB_wf | exact fun _ _ => rfl | constructor)); first | done | fail), (by (repeat' (first | exact trivial | exact GB_fits rfl | constructor)); first | done | fail)⟩ ?_) | (refine vcallD_out (l :=  [0, 3, 4, 5]) (la ) ⟨rfl, rfl, rfl, rfl, (by (repeat' (first | exact trivial | exact GB_wf | exact fun _ _ => rfl | constructor)); first | done | fail), (by (repeat' (first | exact trivial | exact GB_fits rfl | constructor)); first | done | fail)⟩ ?_) | (refine vcall_out (l :=  [0, 6, 1, 9]) (lb ) ⟨rfl, rfl, rfl, rfl, (by (repeat' (first | exact trivial | exact GB_wf | exact fun _ _ => rfl | constructor)); first | done | fail), (by (repeat' (first | exact trivial | exact GB_fits rfl | constructor)); first | done | fail)⟩ ?_) | (refine vcallD_out (l :=  [0, 6, 1, 9]) (lb ) ⟨rfl, rfl, rfl, rfl, (by (repeat' (first | exact trivial | exact GB_wf | exact fun _ _ => rfl | constructor)); first | done | fail), (by (repeat' (first | exact trivial | exact GB_fits rfl | constructor)); first | done | fail)⟩ ?_) | (refine vcall_out (l :=  [0, 10, 11]) (cS ) ⟨rfl, rfl, rfl, rfl, (by (repeat' (first | exact trivial | exact GB_wf | exact fun _ _ => rfl | constructor)); first | done | fail), (by (repeat' (first | exact trivial | exact GB_fits rfl | constructor)); first | done | fail)⟩ ?_) | (refine vcallD_out (l :=  [0, 10, 11]) (cS ) ⟨rfl, rfl, rfl, rfl, (by (repeat' (first | exact trivial | exact GB_wf | exact fun _ _ => rfl | constructor)); first | done | fail), (by (repeat' (first | exact trivial | exact GB_fits rfl | constructor)); first | done | fail)⟩ ?_) | (refine vcall_out (l :=  [0, 3, 4, 5]) (ca ) ⟨rfl, rfl, rfl, rfl, (by (repeat' (first | exact trivial | exact GB_wf | exact fun _ _ => rfl | constructor)); first | done | fail), (by (repeat' (first | exact trivial | exact GB_fits rfl | constructor)); first | done | fail)⟩ ?_) | (refine vcallD_out (l :=  [0, 3, 4, 5]) (ca ) ⟨rfl, rfl, rfl, rfl, (by (repeat' (first | exact trivial | exact GB_wf | exact fun _ _ => rfl | constructor)); first | done | fail), (by (repeat' (first | exact trivial | exact GB_fits rfl | constructor)); first | done | fail)⟩ ?_) | (refine vcall_out (l :=  [0, 6, 1, 9]) (cb ) ⟨rfl, rfl, rfl, rfl, (by (repeat' (first | exact trivial | exact GB_wf | exact fun _ _ => rfl | constructor)); first | done | fail), (by (repeat' (first | exact trivial | exact GB_fits rfl | constructor)); first | done | fail)⟩ ?_) | (refine vcallD_out (l :=  [0, 6, 1, 9]) (cb ) ⟨rfl, rfl, rfl, rfl, (by (repeat' (first | exact trivial | exact GB_wf | exact fun _ _ => rfl | constructor)); first | done | fail), (by (repeat' (first | exact trivial | exact GB_fits rfl | constructor)); first | done | fail)⟩ ?_) | (refine br_dec (fun h => ?_) (fun h => ?_) <;> try (exfalso; (try dsimp only at h); omega)) | (refine br_ndec (fun h => ?_) (fun h => ?_) <;> try (exfalso; (try dsimp only at h); omega)) | refine br_seq (fun h => ?_) (fun h => ?_) | refine br_nseq (fun h => ?_) (fun h => ?_) | refine br_not (fun h => ?_) (fun h => ?_) | refine br_intro (fun h => ?_) (fun h => ?_) | refine cond_intro rfl ?_ | (refine cond_intro ⟨rfl, ?_⟩ ?_; (first | omega | (dsimp only; omega) | decide)) | (refine cond_intro ?_ ?_; (first | omega | (dsimp only; omega) | decide | (simp only [Nat.add_zero, Int.toNat_natCast, *]; omega))))
    all_goals (conv => whnf)
    all_goals first
      | (exfalso; first | omega | contradiction)
      | skip
    all_goals refine vloop_lp (fun k : Nat => ⟨[(1, .sl 2 0 0 n), (5, .ptr 3 0 0 0), (7, .ptr 6 0 0 0), (9, .int .i64 i), (11, .sl 8 0 0 cm), (12, .sl 9 0 0 cm), (13, .int .i64 k)], orH l0 ps n mf mt ma mc ++ (orA l0 sp b2 ++ (mzR l0 R2.length R2 ++ mzC cm CC)), 10⟩) (fun k => k ≤ cm) (fun k => cm - k) 0 [0, 1, 2, 3, 4, 5, 6, 9, 12, 13] [] ⟨rfl, ⟨rfl, rfl, rfl, rfl, rfl, rfl, rfl, trivial⟩, ⟨gwk rfl, rfl, rfl, rfl, rfl, rfl, rfl, rfl, rfl, rfl, trivial⟩⟩ (Nat.zero_le _) ?_
    all_goals intro k hk
    all_goals by_cases hk2 : k < cm
    all_goals repeat' ((conv => whnf); first | (refine br_dec (fun h => ?_) (fun h => ?_) <;> try (exfalso; (try dsimp only at h); omega)) | (refine br_ndec (fun h => ?_) (fun h => ?_) <;> try (exfalso; (try dsimp only at h); omega)) | refine br_seq (fun h => ?_) (fun h => ?_) | refine br_nseq (fun h => ?_) (fun h => ?_) | refine br_not (fun h => ?_) (fun h => ?_) | refine br_intro (fun h => ?_) (fun h => ?_) | refine cond_intro rfl ?_ | (refine cond_intro ⟨rfl, ?_⟩ ?_; (first | omega | (dsimp only; omega) | decide)) | (refine cond_intro ?_ ?_; (first | omega | (dsimp only; omega) | decide | (simp only [Nat.add_zero, Int.toNat_natCast, *]; omega))))
    all_goals (conv => whnf)
    all_goals first
      | exact ⟨k + 1, [0, 1, 2, 3, 4, 5, 6, 7, 8, 9], [], hk2, (show cm - (k + 1) < cm - k by omega), ⟨rfl, ⟨rfl, rfl, rfl, rfl, rfl, rfl, congrArg (fun z => some (SV.int .i64 z)) (i64_succ (by omega)), trivial⟩, ⟨gwk rfl, rfl, rfl, rfl, rfl, rfl, rfl, rfl, rfl, rfl, trivial⟩⟩⟩
      | exact ⟨(i + 1, b2, R2), [0, 1, 2, 3, 4, 5, 6, 7], [], hinv, (show n - (i + 1) < n - i by omega), ⟨rfl, ⟨rfl, rfl, rfl, congrArg (fun z => some (SV.int .i64 z)) (i64_succ (by omega)), trivial⟩, ⟨gwk rfl, rfl, rfl, rfl, rfl, rfl, rfl, rfl, trivial⟩⟩⟩
      | (exfalso; first | omega | contradiction)
      | trace_state
  · rw [if_neg g] at d2
    rw [mv_err g] at d1
    have n1 := pos_NetX hbI hbn hbp (mf.getD i ⟨#[]⟩) (mc.getD i ⟨#[]⟩)
    have n2 := ref40_Net l0 ps R R.length rfl (by omega) (mf.getD i ⟨#[]⟩) (mc.getD i ⟨#[]⟩)
    rw [hbR.net] at n2
    have la := pos_ListX hbI hbn hbp (by omega)
    have lb := ref40_List l0 ps R R.length rfl (by omega) hbR.d
    obtain ⟨e1, e2⟩ := rl_list hbI hpa hbR
    obtain ⟨e3, e4⟩ := rl_cur hbI hpa hbR
    rw [e1, e2] at lb
    have ca := pos_CurX hbI hbn hbp (by omega)
    have cb := ref40_Currencies l0 ps R R.length rfl (by omega) hbR.d
    rw [e4, e3] at cb
    have cS := law_same (pxOf b.list) b.list.length (list_le b hbI.n16 (by omega))
    have hinv : i + 1 ≤ n ∧ BkI b 4503599627370496 ∧ b.n = l0 ∧ b.ps = sp ∧ b.m ≤ i + 1 ∧ RlB b R ∧ R.length ≤ 2 * (i + 1) := ⟨hi2, hbI, hbn, hbp, by omega, hbR, by omega⟩
    clear k1 k2 hb2 hp2 hm2
    generalize mvE b (mf.getD i ⟨#[]⟩) (mt.getD i ⟨#[]⟩) (mc.getD i ⟨#[]⟩) (ma.getD i 0) = er at *
    generalize netI b (mf.getD i ⟨#[]⟩) (mc.getD i ⟨#[]⟩) = nn at *
    generalize b.list.length = ll at *
    generalize pxOf b.list = LL at *
    generalize sortS b.cs = CC at *
    have hm3 : b.m ≤ 60 := by omega
    generalize hcm : b.m = cm at ca cb hm3
    repeat' ((conv => whnf); first | (refine vcall_out (l :=  [0, 3, 4, 5]) (d1 ) ⟨rfl, rfl, rfl, rfl, (by (repeat' (first | exact trivial | exact GB_wf | exact fun _ _ => rfl | constructor)); first | done | fail), (by (repeat' (first | exact trivial | exact GB_fits rfl | constructor)); first | done | fail)⟩ ?_) | (refine vcallD_out (l :=  [0, 3, 4, 5]) (d1 ) ⟨rfl, rfl, rfl, rfl, (by (repeat' (first | exact trivial | exact GB_wf | exact fun _ _ => rfl | constructor)); first | done | fail), (by (repeat' (first | exact trivial | exact GB_fits rfl | constructor)); first | done | fail)⟩ ?_) | (refine vcall_out (l :=  [0, 6, 1, 7]) (d2 ) ⟨rfl, rfl, rfl, rfl, (by (repeat' (first | exact trivial | exact GB_wf | exact fun _ _ => rfl | constructor)); first | done | fail), (by (repeat' (first | exact trivial | exact GB_fits rfl | constructor)); first | done | fail)⟩ ?_) | (refine vcallD_out (l :=  [0, 6, 1, 7]) (d2 ) ⟨rfl, rfl, rfl, rfl, (by (repeat' (first | exact trivial | exact GB_wf | exact fun _ _ => rfl | constructor)); first | done | fail), (by (repeat' (first | exact trivial | exact GB_fits rfl | constructor)); first | done | fail)⟩ ?_) | (refine vcall_out (l :=  [0, 3, 4, 5]) (n1 ) ⟨rfl, rfl, rfl, rfl, (by (repeat' (first | exact trivial | exact GB_wf | exact fun _ _ => rfl | constructor)); first | done | fail), (by (repeat' (first | exact trivial | exact GB_fits rfl | constructor)); first | done | fail)⟩ ?_) | (refine vcallD_out (l :=  [0, 3, 4, 5]) (n1 ) ⟨rfl, rfl, rfl, rfl, (by (repeat' (first | exact trivial | exact GB_wf | exact fun _ _ => rfl | constructor)); first | done | fail), (by (repeat' (first | exact trivial | exact GB_fits rfl | constructor)); first | done | fail)⟩ ?_) | (refine vcall_out (l :=  [0, 6, 1, 7]) (n2 ) ⟨rfl, rfl, rfl, rfl, (by (repeat' (first | exact trivial | exact GB_wf | exact fun _ _ => rfl | constructor)); first | done | fail), (by (repeat' (first | exact trivial | exact GB_fits rfl | constructor)); first | done | fail)⟩ ?_) | (refine vcallD_out (l :=  [0, 6, 1, 7]) (n2 ) ⟨rfl, rfl, rfl, rfl, (by (repeat' (first | exact trivial | exact GB_wf | exact fun _ _ => rfl | constructor)); first | done | fail), (by (repeat' (first | exact trivial | exact GB_fits rfl | constructor)); first | done | fail)⟩ ?_) | (refine vcall_out (l :=  [0, 3, 4, 5]) (la ) ⟨rfl, rfl, rfl, rfl, (by (repeat' (first | exact trivial | exact GB_wf | exact fun _ _ => rfl | constructor)); first | done | fail), (by (repeat' (first | exact trivial | exact GB_fits rfl | constructor)); first | done | fail)⟩ ?_) | (refine vcallD_out (l :=  [0, 3, 4, 5]) (la ) ⟨rfl, rfl, rfl, rfl, (by (repeat' (first | exact trivial | exact GB_wf | exact fun _ _ => rfl | constructor)); first | done | fail), (by (repeat' (first | exact trivial | exact GB_fits rfl | constructor)); first | done | fail)⟩ ?_) | (refine vcall_out (l :=  [0, 6, 1, 7]) (lb ) ⟨rfl, rfl, rfl, rfl, (by (repeat' (first | exact trivial | exact GB_wf | exact fun _ _ => rfl | constructor)); first | done | fail), (by (repeat' (first | exact trivial | exact GB_fits rfl | constructor)); first | done | fail)⟩ ?_) | (refine vcallD_out (l :=  [0, 6, 1, 7]) (lb ) ⟨rfl, rfl, rfl, rfl, (by (repeat' (first | exact trivial | exact GB_wf | exact fun _ _ => rfl | constructor)); first | done | fail), (by (repeat' (first | exact trivial | exact GB_fits rfl | constructor)); first | done | fail)⟩ ?_) | (refine vcall_out (l :=  [0, 9, 10]) (cS ) ⟨rfl, rfl, rfl, rfl, (by (repeat' (first | exact trivial | exact GB_wf | exact fun _ _ => rfl | constructor)); first | done | fail), (by (repeat' (first | exact trivial | exact GB_fits rfl | constructor)); first | done | fail)⟩ ?_) | (refine vcallD_out (l :=  [0, 9, 10]) (cS ) ⟨rfl, rfl, rfl, rfl, (by (repeat' (first | exact trivial | exact GB_wf | exact fun _ _ => rfl | constructor)); first | done | fail), (by (repeat' (first | exact trivial | exact GB_fits rfl | constructor)); first | done | fail)⟩ ?_) | (refine vcall_out (l :=  [0, 3, 4, 5]) (ca ) ⟨rfl, rfl, rfl, rfl, (by (repeat' (first | exact trivial | exact GB_wf | exact fun _ _ => rfl | constructor)); first | done | fail), (by (repeat' (first | exact trivial | exact GB_fits rfl | constructor)); first | done | fail)⟩ ?_) | (refine vcallD_out (l :=  [0, 3, 4, 5]) (ca ) ⟨rfl, rfl, rfl, rfl, (by (repeat' (first | exact trivial | exact GB_wf | exact fun _ _ => rfl | constructor)); first | done | fail), (by (repeat' (first | exact trivial | exact GB_fits rfl | constructor)); first | done | fail)⟩ ?_) | (refine vcall_out (l :=  [0, 6, 1, 7]) (cb ) ⟨rfl, rfl, rfl, rfl, (by (repeat' (first | exact trivial | exact GB_wf | exact fun _ _ => rfl | constructor)); first | done | fail), (by (repeat' (first | exact trivial | exact GB_fits rfl | constructor)); first | done | fail)⟩ ?_) | (refine vcallD_out (l :=  [0, 6, 1, 7]) (cb ) ⟨rfl, rfl, rfl, rfl, (by (repeat' (first | exact trivial | exact GB_wf | exact fun _ _ => rfl | constructor)); first | done | fail), (by (repeat' (first | exact trivial | exact GB_fits rfl | constructor)); first | done | fail)⟩ ?_) | (refine br_dec (fun h => ?_) (fun h => ?_) <;> try (exfalso; (try dsimp only at h); omega)) | (refine br_ndec (fun h => ?_) (fun h => ?_) <;> try (exfalso; (try dsimp only at h); omega)) | refine br_seq (fun h => ?_) (fun h => ?_) | refine br_nseq (fun h => ?_) (fun h => ?_) | refine br_not (fun h => ?_) (fun h => ?_) | refine br_intro (fun h => ?_) (fun h => ?_) | refine cond_intro rfl ?_ | (refine cond_intro ⟨rfl, ?_⟩ ?_; (first | omega | (dsimp only; omega) | decide)) | (refine cond_intro ?_ ?_; (first | omega | (dsimp only; omega) | decide | (simp only [Nat.add_zero, Int.toNat_natCast, *]; omega))))
    all_goals (conv => whnf)
    all_goals first
      | (exfalso; first | omega | contradiction)
      | skip
    all_goals refine vloop_lp (fun k : Nat => ⟨[(1, .sl 2 0 0 n), (5, .ptr 3 0 0 0), (7, .ptr 6 0 0 0), (9, .int .i64 i), (11, .sl 8 0 0 cm), (12, .sl 9 0 0 cm), (13, .int .i64 k)], orH l0 ps n mf mt ma mc ++ (orA l0 sp b ++ (mzR l0 R.length R ++ mzC cm CC)), 10⟩) (fun k => k ≤ cm) (fun k => cm - k) 0 [0, 1, 2, 3, 4, 5, 6, 7, 11, 12] [] ⟨rfl, ⟨rfl, rfl, rfl, rfl, rfl, rfl, rfl, trivial⟩, ⟨gwk rfl, rfl, rfl, rfl, rfl, rfl, rfl, rfl, rfl, rfl, trivial⟩⟩ (Nat.zero_le _) ?_
    all_goals intro k hk
    all_goals by_cases hk2 : k < cm
    all_goals repeat' ((conv => whnf); first | (refine br_dec (fun h => ?_) (fun h => ?_) <;> try (exfalso; (try dsimp only at h); omega)) | (refine br_ndec (fun h => ?_) (fun h => ?_) <;> try (exfalso; (try dsimp only at h); omega)) | refine br_seq (fun h => ?_) (fun h => ?_) | refine br_nseq (fun h => ?_) (fun h => ?_) | refine br_not (fun h => ?_) (fun h => ?_) | refine br_intro (fun h => ?_) (fun h => ?_) | refine cond_intro rfl ?_ | (refine cond_intro ⟨rfl, ?_⟩ ?_; (first | omega | (dsimp only; omega) | decide)) | (refine cond_intro ?_ ?_; (first | omega | (dsimp only; omega) | decide | (simp only [Nat.add_zero, Int.toNat_natCast, *]; omega))))
    all_goals (conv => whnf)
    all_goals first
      | exact ⟨k + 1, [0, 1, 2, 3, 4, 5, 6, 7, 8, 9], [], hk2, (show cm - (k + 1) < cm - k by omega), ⟨rfl, ⟨rfl, rfl, rfl, rfl, rfl, rfl, congrArg (fun z => some (SV.int .i64 z)) (i64_succ (by omega)), trivial⟩, ⟨gwk rfl, rfl, rfl, rfl, rfl, rfl, rfl, rfl, rfl, rfl, trivial⟩⟩⟩
      | exact ⟨(i + 1, b, R), [0, 1, 2, 3, 4, 5, 6, 7], [], hinv, (show n - (i + 1) < n - i by omega), ⟨rfl, ⟨rfl, rfl, rfl, congrArg (fun z => some (SV.int .i64 z)) (i64_succ (by omega)), trivial⟩, ⟨gwk rfl, rfl, rfl, rfl, rfl, rfl, rfl, rfl, trivial⟩⟩⟩
      | (exfalso; first | omega | contradiction)
      | trace_state
end Go.Proofs.YtkbidlijinclcaaGreatDoor

