/- Contracts of packages lexer and binrange: names, prefixes. -/
import Derived.Test.YtkmbnniikncaiaaPanC
import Derived.Test.YtkmbnniikncaiaaYCalls
import Derived.Test.YtkmbnniikncaiaaShelf
namespace Go.Proofs.Ytkmbnniikncaiaa
open Go.RowKit Go.Sy
attribute [local irreducible] vcall vloop vcallD retP
set_option maxRecDepth 100000
set_option linter.unusedVariables false
set_option linter.unusedSimpArgs false

/-- The marks of the lexer. -/
def mkB (c : Int) : Bool := decide (0 ≤ Lib.indexByte [40, 41, 123, 125, 44, 59, 58, 61, 60, 62, 43, 45, 42, 37, 46] c.toNat.toUInt8)
theorem str_Marks (c : Int) (h0 : 0 ≤ c) (h1 : c < 128) : Pure Try.prog 64 [.str ⟨#[40, 41, 123, 125, 44, 59, 58, 61, 60, 62, 43, 45, 42, 37, 46]⟩, .int .i32 c] (.bool (mkB c)) := by
  refine pure_of_calls (vals := [.string ⟨#[40, 41, 123, 125, 44, 59, 58, 61, 60, 62, 43, 45, 42, 37, 46]⟩, .int .i32 c]) (v := .bool (mkB c)) (bodied_of' Try.func64 (by kernel_rfl) (by kernel_rfl)) ?_ ?_ ?_
  · intro g vs h
    simpa [Rvs, Rv] using h
  · intro g; simp [Rv]
  · intro w
    have h := Try.strings_ContainsRune_ascii ⟨#[40, 41, 123, 125, 44, 59, 58, 61, 60, 62, 43, 45, 42, 37, 46]⟩ c w h0 h1
    refine h.mono ?_
    rintro e w' ⟨rfl, rfl⟩
    exact ⟨rfl, Below.refl _ _⟩

/-- Letters; the bytes of a word. -/
def ltP (c : Int) : Prop := (97 ≤ c ∧ c ≤ 122) ∨ (65 ≤ c ∧ c ≤ 90)
instance (c : Int) : Decidable (ltP c) := by unfold ltP; infer_instance
def wdP (c : Int) : Prop := ltP c ∨ (48 ≤ c ∧ c ≤ 57) ∨ c = 95
instance (c : Int) : Decidable (wdP c) := by unfold wdP; infer_instance
def clsI (c : Int) : Int := if c = 32 ∨ c = 9 ∨ c = 10 then 1 else if ltP c then 2 else if 48 ≤ c ∧ c ≤ 57 then 3 else if c = 95 then 4 else if c = 34 then 5 else if c = 35 then 6 else if c ≤ 126 ∧ mkB c = true then 7 else 0
theorem i32_in {c : Int} (h0 : 0 ≤ c) (h1 : c ≤ 255) : IntKind.i32.wrap c = c := IntWalk.i32_in _ ⟨by omega, by omega⟩
theorem clsI_lt {c : Int} : clsI c = 2 ↔ ltP c := by
  unfold clsI
  by_cases h : ltP c
  · have : ¬ (c = 32 ∨ c = 9 ∨ c = 10) := by unfold ltP at h; omega
    rw [if_neg this, if_pos h]; simp [h]
  · simp only [if_neg h]
    (repeat' split) <;> simp [h]
theorem clsI_wd {c : Int} : (clsI c = 2 ∨ clsI c = 3 ∨ clsI c = 4) ↔ wdP c := by
  have e : ∀ x, clsI c = x → (clsI c = 2 ∨ clsI c = 3 ∨ clsI c = 4 ↔ x = 2 ∨ x = 3 ∨ x = 4) := fun x e => by rw [e]
  refine (e _ rfl).trans ?_
  unfold wdP
  by_cases h2 : ltP c
  · have := clsI_lt.2 h2; simp [this, h2]
  · have h2' := h2
    unfold ltP at h2'
    have n2 : clsI c ≠ 2 := fun h => h2 (clsI_lt.1 h)
    have e3 : clsI c = 3 ↔ (48 ≤ c ∧ c ≤ 57) := by
      unfold clsI; rw [if_neg h2]; (repeat' split) <;> omega
    have e4 : clsI c = 4 ↔ c = 95 := by
      unfold clsI; rw [if_neg h2]; (repeat' split) <;> omega
    rw [e3, e4]
    simp [n2, h2]
theorem lex_classOf (c : Int) (h0 : 0 ≤ c) (h1 : c ≤ 255) : Pure Try.prog 54 [.int .i32 c] (.int .i64 (clsI c)) := by
  by_cases h126 : c ≤ 126
  · have cm := str_Marks c h0 (by omega)
    cases hm : mkB c with
    | true =>
      rw [hm] at cm
      unfold clsI ltP
      rw [hm]
      refine fc_of mixed T_ok Try.func54 rfl (by kernel_rfl) (by kernel_rfl) (by kernel_rfl) ?_
      repeat' ((conv => whnf); first | (refine vcall_pure (cm) rfl rfl rfl ?_) | (refine vcallD_pure (cm) rfl rfl rfl ?_) | (refine br_dec (fun h => ?_) (fun h => ?_) <;> try (exfalso; (try dsimp only at h); omega)) | (refine br_ndec (fun h => ?_) (fun h => ?_) <;> try (exfalso; (try dsimp only at h); omega)) | refine br_seq (fun h => ?_) (fun h => ?_) | refine br_nseq (fun h => ?_) (fun h => ?_) | refine br_not (fun h => ?_) (fun h => ?_) | refine br_intro (fun h => ?_) (fun h => ?_) | refine cond_intro rfl ?_ | (refine cond_intro ⟨rfl, ?_⟩ ?_; (first | omega | (dsimp only; omega) | decide)) | (refine cond_intro ?_ ?_; (first | omega | (dsimp only; omega) | decide | (simp only [Nat.add_zero, Int.toNat_natCast, *]; omega))))
      all_goals (conv => whnf)
      all_goals (refine ret_pure (congrArg (SV.int .i64) ?_))
      all_goals first
        | ((try simp only [and_true, Bool.false_eq_true, and_false, if_false]); (repeat' split) <;> omega)
    | false =>
      rw [hm] at cm
      unfold clsI ltP
      rw [hm]
      refine fc_of mixed T_ok Try.func54 rfl (by kernel_rfl) (by kernel_rfl) (by kernel_rfl) ?_
      repeat' ((conv => whnf); first | (refine vcall_pure (cm) rfl rfl rfl ?_) | (refine vcallD_pure (cm) rfl rfl rfl ?_) | (refine br_dec (fun h => ?_) (fun h => ?_) <;> try (exfalso; (try dsimp only at h); omega)) | (refine br_ndec (fun h => ?_) (fun h => ?_) <;> try (exfalso; (try dsimp only at h); omega)) | refine br_seq (fun h => ?_) (fun h => ?_) | refine br_nseq (fun h => ?_) (fun h => ?_) | refine br_not (fun h => ?_) (fun h => ?_) | refine br_intro (fun h => ?_) (fun h => ?_) | refine cond_intro rfl ?_ | (refine cond_intro ⟨rfl, ?_⟩ ?_; (first | omega | (dsimp only; omega) | decide)) | (refine cond_intro ?_ ?_; (first | omega | (dsimp only; omega) | decide | (simp only [Nat.add_zero, Int.toNat_natCast, *]; omega))))
      all_goals (conv => whnf)
      all_goals (refine ret_pure (congrArg (SV.int .i64) ?_))
      all_goals first
        | ((try simp only [and_true, Bool.false_eq_true, and_false, if_false]); (repeat' split) <;> omega)
  · unfold clsI ltP
    refine fc_of mixed T_ok Try.func54 rfl (by kernel_rfl) (by kernel_rfl) (by kernel_rfl) ?_
    repeat' ((conv => whnf); first | (refine br_dec (fun h => ?_) (fun h => ?_) <;> try (exfalso; (try dsimp only at h); omega)) | (refine br_ndec (fun h => ?_) (fun h => ?_) <;> try (exfalso; (try dsimp only at h); omega)) | refine br_seq (fun h => ?_) (fun h => ?_) | refine br_nseq (fun h => ?_) (fun h => ?_) | refine br_not (fun h => ?_) (fun h => ?_) | refine br_intro (fun h => ?_) (fun h => ?_) | refine cond_intro rfl ?_ | (refine cond_intro ⟨rfl, ?_⟩ ?_; (first | omega | (dsimp only; omega) | decide)) | (refine cond_intro ?_ ?_; (first | omega | (dsimp only; omega) | decide | (simp only [Nat.add_zero, Int.toNat_natCast, *]; omega))))
    all_goals (conv => whnf)
    all_goals (refine ret_pure (congrArg (SV.int .i64) ?_))
    all_goals first
      | ((repeat' split) <;> omega)

theorem lex_isWordByte (c : Int) (h0 : 0 ≤ c) (h1 : c ≤ 255) : Pure Try.prog 65 [.int .u8 c] (.bool (decide (wdP c))) := by
  have c1 := lex_classOf c h0 h1
  have hw := clsI_wd (c := c)
  rw [show (SV.int .i32 c) = SV.int .i32 (IntKind.i32.wrap c) by rw [i32_in h0 h1]] at c1
  generalize clsI c = x at c1 hw
  refine fc_of mixed T_ok Try.func65 rfl (by kernel_rfl) (by kernel_rfl) (by kernel_rfl) ?_
  repeat' ((conv => whnf); first | (refine vcall_pure (c1) rfl rfl rfl ?_) | (refine vcallD_pure (c1) rfl rfl rfl ?_) | (refine br_dec (fun h => ?_) (fun h => ?_) <;> try (exfalso; (try dsimp only at h); omega)) | (refine br_ndec (fun h => ?_) (fun h => ?_) <;> try (exfalso; (try dsimp only at h); omega)) | refine br_seq (fun h => ?_) (fun h => ?_) | refine br_nseq (fun h => ?_) (fun h => ?_) | refine br_not (fun h => ?_) (fun h => ?_) | refine br_intro (fun h => ?_) (fun h => ?_) | refine cond_intro rfl ?_ | (refine cond_intro ⟨rfl, ?_⟩ ?_; (first | omega | (dsimp only; omega) | decide)) | (refine cond_intro ?_ ?_; (first | omega | (dsimp only; omega) | decide | (simp only [Nat.add_zero, Int.toNat_natCast, *]; omega))))
  all_goals (conv => whnf)
  all_goals first
    | exact ret_pure (congrArg SV.bool (decide_eq_true (hw.1 (by omega))).symm)
    | exact ret_pure (congrArg SV.bool (decide_eq_decide.2 ⟨fun hh => hw.1 (Or.inr (Or.inr hh)), fun hh => (hw.2 hh).resolve_left (by omega) |>.resolve_left (by omega)⟩))

def wdTo (s : ByteArray) : Nat → Bool
  | 0 => true
  | k + 1 => wdTo s k && decide (wdP (byteAt s (k : Int)))
theorem wdTo_step {s : ByteArray} {k : Nat} (h : wdTo s k = true) (h1 : wdP (byteAt s (k : Int))) : wdTo s (k + 1) = true := by
  simp only [wdTo, h, Bool.true_and, decide_eq_true_eq]; exact h1
theorem wdTo_false {s : ByteArray} {k n : Nat} (h : k < n) (hc : ¬ wdP (byteAt s (k : Int))) : wdTo s n = false := by
  induction n with
  | zero => omega
  | succ n ih =>
    simp only [wdTo]
    by_cases e : k = n
    · subst e; simp [hc]
    · rw [ih (by omega)]; rfl
theorem wdTo_at {s : ByteArray} {k n : Nat} (h : k < n) (hd : wdTo s n = true) : wdP (byteAt s (k : Int)) := by
  by_cases hc : wdP (byteAt s (k : Int))
  · exact hc
  · rw [wdTo_false h hc] at hd; cases hd
theorem wdTo_first {s : ByteArray} : ∀ n, wdTo s n = false → ∃ k, k < n ∧ wdTo s k = true ∧ ¬ wdP (byteAt s (k : Int))
  | 0, h => by simp [wdTo] at h
  | n + 1, h => by
    cases hn : wdTo s n with
    | false => obtain ⟨k, h1, h2⟩ := wdTo_first n hn; exact ⟨k, by omega, h2⟩
    | true =>
      refine ⟨n, by omega, hn, fun hw => ?_⟩
      rw [wdTo_step hn hw] at h; cases h

/-- The word at the beginning. -/
theorem lex_wordAt (s : ByteArray) (e : Nat) (he : e ≤ s.size) (ht : wdTo s e = true) (hx : e = s.size ∨ ¬ wdP (byteAt s (e : Int))) (hs : s.size ≤ 1000000) : Pure Try.prog 55 [.str s, .int .i64 0] (.str (s.extract 0 e)) := by
  refine fc_of mixed T_ok Try.func55 rfl (by kernel_rfl) (by kernel_rfl) (by kernel_rfl) ?_
  (conv => whnf)
  refine vloop_of (fun k : Nat => ⟨[(0, .str s), (1, .int .i64 0), (5, .int .i64 k)], [], 1⟩) (fun k => k ≤ e) (fun k => e - k) 0 [0] [] ⟨rfl, ⟨rfl, rfl, rfl, trivial⟩, trivial⟩ (by omega) ?_
  intro k hk
  have bd := byteAt_bd s (k : Int)
  have c := lex_isWordByte (byteAt s (k : Int)) bd.1 bd.2
  by_cases hk2 : k < e
  · rw [decide_eq_true (wdTo_at hk2 ht)] at c
    repeat' ((conv => whnf); first | (refine vcall_pure (c) rfl rfl rfl ?_) | (refine vcallD_pure (c) rfl rfl rfl ?_) | (refine br_dec (fun h => ?_) (fun h => ?_) <;> try (exfalso; (try dsimp only at h); omega)) | (refine br_ndec (fun h => ?_) (fun h => ?_) <;> try (exfalso; (try dsimp only at h); omega)) | refine br_seq (fun h => ?_) (fun h => ?_) | refine br_nseq (fun h => ?_) (fun h => ?_) | refine br_not (fun h => ?_) (fun h => ?_) | refine br_intro (fun h => ?_) (fun h => ?_) | refine cond_intro rfl ?_ | (refine cond_intro ⟨rfl, ?_⟩ ?_; (first | omega | (dsimp only; omega) | decide)) | (refine cond_intro ?_ ?_; (first | omega | (dsimp only; omega) | decide | (simp only [Nat.add_zero, Int.toNat_natCast, *]; omega))))
    all_goals (conv => whnf)
    all_goals first
      | exact ⟨k + 1, [0], [], by omega, by omega, ⟨rfl, ⟨rfl, rfl, congrArg (fun z => some (SV.int .i64 z)) (i64_succ (by omega)), trivial⟩, trivial⟩⟩
      | (exfalso; omega)
  · have e1 : k = e := by omega
    subst e1
    by_cases hsz : k < s.size
    · rw [decide_eq_false (hx.resolve_left (by omega))] at c
      repeat' ((conv => whnf); first | (refine vcall_pure (c) rfl rfl rfl ?_) | (refine vcallD_pure (c) rfl rfl rfl ?_) | (refine br_dec (fun h => ?_) (fun h => ?_) <;> try (exfalso; (try dsimp only at h); omega)) | (refine br_ndec (fun h => ?_) (fun h => ?_) <;> try (exfalso; (try dsimp only at h); omega)) | refine br_seq (fun h => ?_) (fun h => ?_) | refine br_nseq (fun h => ?_) (fun h => ?_) | refine br_not (fun h => ?_) (fun h => ?_) | refine br_intro (fun h => ?_) (fun h => ?_) | refine cond_intro rfl ?_ | (refine cond_intro ⟨rfl, ?_⟩ ?_; (first | omega | (dsimp only; omega) | decide)) | (refine cond_intro ?_ ?_; (first | omega | (dsimp only; omega) | decide | (simp only [Nat.add_zero, Int.toNat_natCast, *]; omega))))
      all_goals (conv => whnf)
      all_goals first
        | exact ret_pure rfl
        | (exfalso; omega)
    · repeat' ((conv => whnf); first | (refine br_dec (fun h => ?_) (fun h => ?_) <;> try (exfalso; (try dsimp only at h); omega)) | (refine br_ndec (fun h => ?_) (fun h => ?_) <;> try (exfalso; (try dsimp only at h); omega)) | refine br_seq (fun h => ?_) (fun h => ?_) | refine br_nseq (fun h => ?_) (fun h => ?_) | refine br_not (fun h => ?_) (fun h => ?_) | refine br_intro (fun h => ?_) (fun h => ?_) | refine cond_intro rfl ?_ | (refine cond_intro ⟨rfl, ?_⟩ ?_; (first | omega | (dsimp only; omega) | decide)) | (refine cond_intro ?_ ?_; (first | omega | (dsimp only; omega) | decide | (simp only [Nat.add_zero, Int.toNat_natCast, *]; omega))))
      all_goals (conv => whnf)
      all_goals first
        | exact ret_pure rfl
        | (exfalso; omega)

/-- Names. -/
def nmB (s : ByteArray) : Bool := decide (1 ≤ s.size) && decide (s.size ≤ 16) && decide (ltP (byteAt s 0)) && wdTo s s.size
theorem sz_pos {s : ByteArray} (h : ¬ s = ⟨#[]⟩) : 1 ≤ s.size := by
  rcases Nat.eq_zero_or_pos s.size with h0 | h0
  · exfalso; apply h
    cases s with | mk d => 
    have : d = #[] := Array.eq_empty_of_size_eq_zero h0
    rw [this]
  · exact h0
theorem extract_all (s : ByteArray) : s.extract 0 s.size = s := by
  apply ByteArray.ext
  simp
theorem lex_IsName (s : ByteArray) : Pure Try.prog 38 [.str s] (.bool (nmB s)) := by
  unfold nmB
  by_cases h0 : s = ⟨#[]⟩
  · subst h0
    refine fc_of mixed T_ok Try.func38 rfl (by kernel_rfl) (by kernel_rfl) (by kernel_rfl) ?_
    repeat' ((conv => whnf); first | (refine br_dec (fun h => ?_) (fun h => ?_) <;> try (exfalso; (try dsimp only at h); omega)) | (refine br_ndec (fun h => ?_) (fun h => ?_) <;> try (exfalso; (try dsimp only at h); omega)) | refine br_seq (fun h => ?_) (fun h => ?_) | refine br_nseq (fun h => ?_) (fun h => ?_) | refine br_not (fun h => ?_) (fun h => ?_) | refine br_intro (fun h => ?_) (fun h => ?_) | refine cond_intro rfl ?_ | (refine cond_intro ⟨rfl, ?_⟩ ?_; (first | omega | (dsimp only; omega) | decide)) | (refine cond_intro ?_ ?_; (first | omega | (dsimp only; omega) | decide | (simp only [Nat.add_zero, Int.toNat_natCast, *]; omega))))
    all_goals (conv => whnf)
    all_goals first
      | exact ret_pure rfl
      | (exfalso; exact h rfl)
  · have hz := sz_pos h0
    by_cases h16 : s.size ≤ 16
    · have bd := byteAt_bd s 0
      have c1 := lex_classOf (byteAt s 0) bd.1 bd.2
      rw [show (SV.int .i32 (byteAt s 0)) = SV.int .i32 (IntKind.i32.wrap (byteAt s 0)) by rw [i32_in bd.1 bd.2]] at c1
      by_cases hl : ltP (byteAt s 0)
      · rw [clsI_lt.2 hl] at c1
        cases hw : wdTo s s.size with
        | true =>
          have c2 := lex_wordAt s s.size (Nat.le_refl _) hw (.inl rfl) (by omega)
          rw [extract_all] at c2
          rw [decide_eq_true hz, decide_eq_true h16, decide_eq_true hl]
          refine fc_of mixed T_ok Try.func38 rfl (by kernel_rfl) (by kernel_rfl) (by kernel_rfl) ?_
          repeat' ((conv => whnf); first | (refine vcall_pure (c1) rfl rfl rfl ?_) | (refine vcallD_pure (c1) rfl rfl rfl ?_) | (refine vcall_pure (c2) rfl rfl rfl ?_) | (refine vcallD_pure (c2) rfl rfl rfl ?_) | (refine br_dec (fun h => ?_) (fun h => ?_) <;> try (exfalso; (try dsimp only at h); omega)) | (refine br_ndec (fun h => ?_) (fun h => ?_) <;> try (exfalso; (try dsimp only at h); omega)) | refine br_seq (fun h => ?_) (fun h => ?_) | refine br_nseq (fun h => ?_) (fun h => ?_) | refine br_not (fun h => ?_) (fun h => ?_) | refine br_intro (fun h => ?_) (fun h => ?_) | refine cond_intro rfl ?_ | (refine cond_intro ⟨rfl, ?_⟩ ?_; (first | omega | (dsimp only; omega) | decide)) | (refine cond_intro ?_ ?_; (first | omega | (dsimp only; omega) | decide | (simp only [Nat.add_zero, Int.toNat_natCast, *]; omega))))
          all_goals (conv => whnf)
          all_goals first
            | exact ret_pure rfl
            | (exfalso; exact h0 (by assumption))
            | (exfalso; omega)
            | exact ret_pure (congrArg SV.bool (decide_eq_true rfl))
        | false =>
          obtain ⟨k, k1, k2, k3⟩ := wdTo_first _ hw
          have c2 := lex_wordAt s k (by omega) k2 (.inr k3) (by omega)
          have hsz : (s.extract 0 k).size = k := by rw [ByteArray.size_extract]; omega
          rw [decide_eq_true hz, decide_eq_true h16, decide_eq_true hl]
          refine fc_of mixed T_ok Try.func38 rfl (by kernel_rfl) (by kernel_rfl) (by kernel_rfl) ?_
          repeat' ((conv => whnf); first | (refine vcall_pure (c1) rfl rfl rfl ?_) | (refine vcallD_pure (c1) rfl rfl rfl ?_) | (refine vcall_pure (c2) rfl rfl rfl ?_) | (refine vcallD_pure (c2) rfl rfl rfl ?_) | (refine br_dec (fun h => ?_) (fun h => ?_) <;> try (exfalso; (try dsimp only at h); omega)) | (refine br_ndec (fun h => ?_) (fun h => ?_) <;> try (exfalso; (try dsimp only at h); omega)) | refine br_seq (fun h => ?_) (fun h => ?_) | refine br_nseq (fun h => ?_) (fun h => ?_) | refine br_not (fun h => ?_) (fun h => ?_) | refine br_intro (fun h => ?_) (fun h => ?_) | refine cond_intro rfl ?_ | (refine cond_intro ⟨rfl, ?_⟩ ?_; (first | omega | (dsimp only; omega) | decide)) | (refine cond_intro ?_ ?_; (first | omega | (dsimp only; omega) | decide | (simp only [Nat.add_zero, Int.toNat_natCast, *]; omega))))
          all_goals (conv => whnf)
          all_goals first
            | exact ret_pure rfl
            | (exfalso; exact h0 (by assumption))
            | (exfalso; omega)
            | exact ret_pure (congrArg SV.bool (decide_eq_false (by rw [hsz]; omega)))
      · have hne : clsI (byteAt s 0) ≠ 2 := fun h => hl (clsI_lt.1 h)
        rw [decide_eq_false hl]
        generalize clsI (byteAt s 0) = x at c1 hne
        refine fc_of mixed T_ok Try.func38 rfl (by kernel_rfl) (by kernel_rfl) (by kernel_rfl) ?_
        repeat' ((conv => whnf); first | (refine vcall_pure (c1) rfl rfl rfl ?_) | (refine vcallD_pure (c1) rfl rfl rfl ?_) | (refine br_dec (fun h => ?_) (fun h => ?_) <;> try (exfalso; (try dsimp only at h); omega)) | (refine br_ndec (fun h => ?_) (fun h => ?_) <;> try (exfalso; (try dsimp only at h); omega)) | refine br_seq (fun h => ?_) (fun h => ?_) | refine br_nseq (fun h => ?_) (fun h => ?_) | refine br_not (fun h => ?_) (fun h => ?_) | refine br_intro (fun h => ?_) (fun h => ?_) | refine cond_intro rfl ?_ | (refine cond_intro ⟨rfl, ?_⟩ ?_; (first | omega | (dsimp only; omega) | decide)) | (refine cond_intro ?_ ?_; (first | omega | (dsimp only; omega) | decide | (simp only [Nat.add_zero, Int.toNat_natCast, *]; omega))))
        all_goals (conv => whnf)
        all_goals first
          | (exfalso; exact h0 (by assumption))
          | (exfalso; omega)
          | exact ret_pure (by rw [Bool.and_false]; rfl)
    · rw [decide_eq_false h16]
      refine fc_of mixed T_ok Try.func38 rfl (by kernel_rfl) (by kernel_rfl) (by kernel_rfl) ?_
      repeat' ((conv => whnf); first | (refine br_dec (fun h => ?_) (fun h => ?_) <;> try (exfalso; (try dsimp only at h); omega)) | (refine br_ndec (fun h => ?_) (fun h => ?_) <;> try (exfalso; (try dsimp only at h); omega)) | refine br_seq (fun h => ?_) (fun h => ?_) | refine br_nseq (fun h => ?_) (fun h => ?_) | refine br_not (fun h => ?_) (fun h => ?_) | refine br_intro (fun h => ?_) (fun h => ?_) | refine cond_intro rfl ?_ | (refine cond_intro ⟨rfl, ?_⟩ ?_; (first | omega | (dsimp only; omega) | decide)) | (refine cond_intro ?_ ?_; (first | omega | (dsimp only; omega) | decide | (simp only [Nat.add_zero, Int.toNat_natCast, *]; omega))))
      all_goals (conv => whnf)
      all_goals first
        | (exfalso; exact h0 (by assumption))
        | (exfalso; omega)
        | exact ret_pure (by rw [Bool.and_false]; rfl)

end Go.Proofs.Ytkmbnniikncaiaa
