/- Contracts of package wire: numbers with leading zeros, texts. -/
import Derived.Test.YtkbajejkllkahaaDoorWireC
namespace Go.Proofs.YtkbajejkllkahaaDoor
open Go.RowKit Go.Sy
attribute [local irreducible] vcall vloop vcallD retP
set_option maxRecDepth 100000
set_option linter.unusedVariables false
set_option linter.unusedSimpArgs false

/-- Blanks. -/
theorem str_Repeat32 (n : Nat) (hn : n ≤ 128) : Pure Tryd.prog 38 [.str ⟨#[32]⟩, .int .i64 n] (.str (bytesOf (List.replicate n 32))) := by
  have m := bits_Mul 1 n (by omega) (by omega)
  rw [Nat.one_mul, Nat.div_eq_of_lt (by omega), Nat.mod_eq_of_lt (by omega)] at m
  have hp := fun s hs => str_HasPrefix s ⟨#[32]⟩ hs
  have wn : IntKind.u64.wrap (n : Int) = (n : Int) := u64_in' (by omega) (by omega)
  rw [← wn] at m
  have wi : IntKind.i64.wrap (IntKind.u64.wrap (n : Int)) = (n : Int) := by rw [wn]; exact w64_in (by omega) (by omega)
  have hle : IntKind.i64.wrap (IntKind.u64.wrap (n : Int)) ≤ 128 := by rw [wi]; omega
  refine fc_of mixed T_ok Tryd.func38 rfl (by kernel_rfl) (by kernel_rfl) (by kernel_rfl) ?_
  by_cases h0 : n = 0
  · subst h0
    repeat' ((conv => whnf); first | (refine br_dec (fun h => ?_) (fun h => ?_) <;> try (exfalso; omega)) | (refine br_ndec (fun h => ?_) (fun h => ?_) <;> try (exfalso; omega)) | refine br_seq (fun h => ?_) (fun h => ?_) | refine br_nseq (fun h => ?_) (fun h => ?_) | refine br_not (fun h => ?_) (fun h => ?_) | refine br_intro (fun h => ?_) (fun h => ?_) | refine cond_intro rfl ?_ | (refine cond_intro ⟨rfl, ?_⟩ ?_; (first | omega | (dsimp only; omega) | decide)) | (refine cond_intro ?_ ?_; (first | omega | (dsimp only; omega) | decide | (simp only [Nat.add_zero, Int.toNat_natCast, *]; omega))))
    all_goals (conv => whnf)
    all_goals exact ret_pure rfl
  · by_cases h1 : n = 1
    · subst h1
      repeat' ((conv => whnf); first | (refine br_dec (fun h => ?_) (fun h => ?_) <;> try (exfalso; omega)) | (refine br_ndec (fun h => ?_) (fun h => ?_) <;> try (exfalso; omega)) | refine br_seq (fun h => ?_) (fun h => ?_) | refine br_nseq (fun h => ?_) (fun h => ?_) | refine br_not (fun h => ?_) (fun h => ?_) | refine br_intro (fun h => ?_) (fun h => ?_) | refine cond_intro rfl ?_ | (refine cond_intro ⟨rfl, ?_⟩ ?_; (first | omega | (dsimp only; omega) | decide)) | (refine cond_intro ?_ ?_; (first | omega | (dsimp only; omega) | decide | (simp only [Nat.add_zero, Int.toNat_natCast, *]; omega))))
      all_goals (conv => whnf)
      all_goals exact ret_pure rfl
    · repeat' ((conv => whnf); first | (refine vcall_pure (m) rfl rfl rfl ?_) | (refine vcallD_pure (m) rfl rfl rfl ?_) | (refine vcall_pure (hp _ (by decide)) rfl rfl rfl ?_) | (refine vcallD_pure (hp _ (by decide)) rfl rfl rfl ?_) | (refine cond_intro (show (0 : Int) ≤ 0 ∧ 0 ≤ IntKind.i64.wrap (IntKind.u64.wrap (n : Int)) ∧ IntKind.i64.wrap (IntKind.u64.wrap (n : Int)) ≤ ((128 : Nat) : Int) from ?_) ?_; (rw [wi]; omega)) | (refine br_dec (fun h => ?_) (fun h => ?_) <;> try (exfalso; omega)) | (refine br_ndec (fun h => ?_) (fun h => ?_) <;> try (exfalso; omega)) | refine br_seq (fun h => ?_) (fun h => ?_) | refine br_nseq (fun h => ?_) (fun h => ?_) | refine br_not (fun h => ?_) (fun h => ?_) | refine br_intro (fun h => ?_) (fun h => ?_) | refine cond_intro rfl ?_ | (refine cond_intro ⟨rfl, ?_⟩ ?_; (first | omega | (dsimp only; omega) | decide)) | (refine cond_intro ?_ ?_; (first | omega | (dsimp only; omega) | decide | (simp only [Nat.add_zero, Int.toNat_natCast, *]; omega))))
      all_goals (conv => whnf)
      · refine ret_pure (congrArg SV.str ?_)
        show (bytesOf (List.replicate 128 32)).extract 0 (IntKind.i64.wrap (IntKind.u64.wrap (n : Int))).toNat = _
        rw [wi, Int.toNat_natCast]
        exact rep_extract 32 128 n hn
      all_goals exact absurd hle (by assumption)

/-- Digits with leading zeros, if there is room. -/
def padS (w n : Nat) : ByteArray := if ndig n ≤ w then bytesOf (digs w n) else ⟨#[]⟩
theorem decI_nat (n : Nat) : decI (n : Int) = bytesOf (digs (ndig n) n) := by
  unfold decI dec
  rw [if_neg (by omega), Int.toNat_natCast]
theorem wire_padded (n w : Nat) (hn : n ≤ 9223372036854775807) (hw : w ≤ 64) : Glob Tryd.prog glT 35 [.int .i64 n, .int .i64 w] (.tup [.str (padS w n), .bool (decide (ndig n ≤ w))]) := by
  have f := conv_FormatInt (n : Int) (by omega) (by omega)
  rw [decI_nat] at f
  have z : (bytesOf (digs (ndig n) n)).size = ndig n := by rw [bytesOf_size, digs_length]
  have hd := ndig_le (u := n) (by omega)
  refine fc_of mixed T_ok Tryd.func35 rfl (by kernel_rfl) (by kernel_rfl) (by kernel_rfl) ?_
  by_cases hk : ndig n ≤ w
  · have c := str_Repeat0 (w - ndig n) (by omega)
    have wc : ((w - ndig n : Nat) : Int) = IntKind.i64.wrap ((w : Int) - ((bytesOf (digs (ndig n) n)).size : Int)) := by
      rw [z, w64_in (by omega) (by omega)]; omega
    rw [wc] at c
    repeat' ((conv => whnf); first | (refine vcall_glob (f) rfl rfl rfl rfl ?_) | (refine vcall_pure (c) rfl rfl rfl ?_) | (refine vcallD_pure (c) rfl rfl rfl ?_) | (refine cond_intro ?_ ?_; (rw [bytesOf_size, bytesOf_size, digs_length, List.length_replicate]; omega)) | (refine br_dec (fun h => ?_) (fun h => ?_) <;> try (exfalso; omega)) | (refine br_ndec (fun h => ?_) (fun h => ?_) <;> try (exfalso; omega)) | refine br_seq (fun h => ?_) (fun h => ?_) | refine br_nseq (fun h => ?_) (fun h => ?_) | refine br_not (fun h => ?_) (fun h => ?_) | refine br_intro (fun h => ?_) (fun h => ?_) | refine cond_intro rfl ?_ | (refine cond_intro ⟨rfl, ?_⟩ ?_; (first | omega | (dsimp only; omega) | decide)) | (refine cond_intro ?_ ?_; (first | omega | (dsimp only; omega) | decide | (simp only [Nat.add_zero, Int.toNat_natCast, *]; omega))))
    all_goals (conv => whnf)
    · refine ret_pure ?_
      rw [show padS w n = bytesOf (List.replicate (w - ndig n) 48) ++ bytesOf (digs (ndig n) n) by
        unfold padS; rw [if_pos hk, append_bytesOf, digs_pad (ndig_lt n) hk], decide_eq_true hk]
      rfl
  · repeat' ((conv => whnf); first | (refine vcall_glob (f) rfl rfl rfl rfl ?_) | (refine br_dec (fun h => ?_) (fun h => ?_) <;> try (exfalso; omega)) | (refine br_ndec (fun h => ?_) (fun h => ?_) <;> try (exfalso; omega)) | refine br_seq (fun h => ?_) (fun h => ?_) | refine br_nseq (fun h => ?_) (fun h => ?_) | refine br_not (fun h => ?_) (fun h => ?_) | refine br_intro (fun h => ?_) (fun h => ?_) | refine cond_intro rfl ?_ | (refine cond_intro ⟨rfl, ?_⟩ ?_; (first | omega | (dsimp only; omega) | decide)) | (refine cond_intro ?_ ?_; (first | omega | (dsimp only; omega) | decide | (simp only [Nat.add_zero, Int.toNat_natCast, *]; omega))))
    all_goals (conv => whnf)
    · refine ret_pure ?_
      rw [show padS w n = ⟨#[]⟩ by unfold padS; rw [if_neg hk], decide_eq_false hk]
      rfl

def numOk (n w : Int) : Prop := 1 ≤ w ∧ w ≤ 15 ∧ 0 ≤ n ∧ ndig n.toNat ≤ w.toNat
instance (n w : Int) : Decidable (numOk n w) := by unfold numOk; infer_instance
def numE (n w : Int) : Int := if numOk n w then 0 else 4
def numS (n w : Int) : ByteArray := if numOk n w then bytesOf (digs w.toNat n.toNat) else ⟨#[]⟩
theorem numE_no {n w : Int} (h : ¬ numOk n w) : numE n w = 4 := by unfold numE; rw [if_neg h]
theorem numS_no {n w : Int} (h : ¬ numOk n w) : numS n w = ⟨#[]⟩ := by unfold numS; rw [if_neg h]
theorem numE_ok {n w : Int} (h : numOk n w) : numE n w = 0 := by unfold numE; rw [if_pos h]
theorem numS_ok {n w : Int} (h : numOk n w) : numS n w = bytesOf (digs w.toNat n.toNat) := by unfold numS; rw [if_pos h]
attribute [irreducible] numE numS padS
theorem wire_Num (n w : Int) (hn : n ≤ 9223372036854775807) : Glob Tryd.prog glT 8 [.int .i64 n, .int .i64 w] (.tup [.str (numS n w), .int .i64 (numE n w)]) := by
  by_cases hb : 1 ≤ w ∧ w ≤ 15 ∧ 0 ≤ n
  · obtain ⟨n', rfl⟩ := Int.eq_ofNat_of_zero_le hb.2.2
    obtain ⟨w', rfl⟩ := Int.eq_ofNat_of_zero_le (show 0 ≤ w by omega)
    have c := wire_padded n' w' (by omega) (by omega)
    by_cases hk : ndig n' ≤ w'
    · have ho : numOk n' w' := ⟨hb.1, hb.2.1, hb.2.2, by simpa using hk⟩
      rw [show padS w' n' = bytesOf (digs w' n') by unfold padS; rw [if_pos hk], decide_eq_true hk] at c
      rw [numS_ok ho, numE_ok ho, Int.toNat_natCast, Int.toNat_natCast]
      refine fc_of mixed T_ok Tryd.func8 rfl (by kernel_rfl) (by kernel_rfl) (by kernel_rfl) ?_
      repeat' ((conv => whnf); first | (refine vcall_glob (c) rfl rfl rfl rfl ?_) | (refine br_dec (fun h => ?_) (fun h => ?_) <;> try (exfalso; omega)) | (refine br_ndec (fun h => ?_) (fun h => ?_) <;> try (exfalso; omega)) | refine br_seq (fun h => ?_) (fun h => ?_) | refine br_nseq (fun h => ?_) (fun h => ?_) | refine br_not (fun h => ?_) (fun h => ?_) | refine br_intro (fun h => ?_) (fun h => ?_) | refine cond_intro rfl ?_ | (refine cond_intro ⟨rfl, ?_⟩ ?_; (first | omega | (dsimp only; omega) | decide)) | (refine cond_intro ?_ ?_; (first | omega | (dsimp only; omega) | decide | (simp only [Nat.add_zero, Int.toNat_natCast, *]; omega))))
      all_goals (conv => whnf)
      all_goals first
        | exact ret_pure rfl
        | (exfalso; omega)
    · have ho : ¬ numOk n' w' := fun h => hk (by simpa using h.2.2.2)
      rw [decide_eq_false hk] at c
      rw [numS_no ho, numE_no ho]
      refine fc_of mixed T_ok Tryd.func8 rfl (by kernel_rfl) (by kernel_rfl) (by kernel_rfl) ?_
      repeat' ((conv => whnf); first | (refine vcall_glob (c) rfl rfl rfl rfl ?_) | (refine br_dec (fun h => ?_) (fun h => ?_) <;> try (exfalso; omega)) | (refine br_ndec (fun h => ?_) (fun h => ?_) <;> try (exfalso; omega)) | refine br_seq (fun h => ?_) (fun h => ?_) | refine br_nseq (fun h => ?_) (fun h => ?_) | refine br_not (fun h => ?_) (fun h => ?_) | refine br_intro (fun h => ?_) (fun h => ?_) | refine cond_intro rfl ?_ | (refine cond_intro ⟨rfl, ?_⟩ ?_; (first | omega | (dsimp only; omega) | decide)) | (refine cond_intro ?_ ?_; (first | omega | (dsimp only; omega) | decide | (simp only [Nat.add_zero, Int.toNat_natCast, *]; omega))))
      all_goals (conv => whnf)
      all_goals first
        | exact ret_pure rfl
        | (exfalso; omega)
  · have ho : ¬ numOk n w := fun h => hb ⟨h.1, h.2.1, h.2.2.1⟩
    rw [numS_no ho, numE_no ho]
    refine fc_of mixed T_ok Tryd.func8 rfl (by kernel_rfl) (by kernel_rfl) (by kernel_rfl) ?_
    repeat' ((conv => whnf); first | (refine br_dec (fun h => ?_) (fun h => ?_) <;> try (exfalso; omega)) | (refine br_ndec (fun h => ?_) (fun h => ?_) <;> try (exfalso; omega)) | refine br_seq (fun h => ?_) (fun h => ?_) | refine br_nseq (fun h => ?_) (fun h => ?_) | refine br_not (fun h => ?_) (fun h => ?_) | refine br_intro (fun h => ?_) (fun h => ?_) | refine cond_intro rfl ?_ | (refine cond_intro ⟨rfl, ?_⟩ ?_; (first | omega | (dsimp only; omega) | decide)) | (refine cond_intro ?_ ?_; (first | omega | (dsimp only; omega) | decide | (simp only [Nat.add_zero, Int.toNat_natCast, *]; omega))))
    all_goals (conv => whnf)
    all_goals first
      | exact ret_pure rfl
      | (exfalso; omega)

/-- A text behind its length. -/
def varE (s : ByteArray) (d : Int) : Int := if d ≠ 2 ∧ d ≠ 3 then 4 else if (d = 2 ∧ 99 < s.size) ∨ 255 < s.size then 3 else 0
def varS (s : ByteArray) (d : Int) : ByteArray := if varE s d = 0 then bytesOf (digs d.toNat s.size) ++ s else ⟨#[]⟩
theorem ndig_of_lt {n w : Nat} (h : n < 10 ^ w) (hw : 1 ≤ w) : ndig n ≤ w := by
  rcases Nat.lt_or_ge w (ndig n) with h1 | h1
  · by_cases h0 : n = 0
    · subst h0; rw [ndig] at h1; simp at h1; omega
    · have := ndig_ge n (by omega)
      have h2 := Nat.pow_le_pow_right (n := 10) (by omega) (show w ≤ ndig n - 1 by omega)
      omega
  · exact h1
theorem wire_Var (s : ByteArray) (d : Int) (hs : s.size ≤ 9223372036854775807) : Glob Tryd.prog glT 12 [.str s, .int .i64 d] (.tup [.str (varS s d), .int .i64 (varE s d)]) := by
  by_cases h0 : varE s d = 0
  · have hd : d = 2 ∨ d = 3 := by
      unfold varE at h0
      by_cases h : d ≠ 2 ∧ d ≠ 3
      · rw [if_pos h] at h0; omega
      · omega
    have hl : ¬ ((d = 2 ∧ 99 < s.size) ∨ 255 < s.size) := by
      intro h
      unfold varE at h0
      rw [if_neg (by omega), if_pos h] at h0
      omega
    have hS : varS s d = bytesOf (digs d.toNat s.size) ++ s := by unfold varS; rw [if_pos h0]
    rw [hS, h0]
    obtain ⟨d', rfl⟩ := Int.eq_ofNat_of_zero_le (show 0 ≤ d by omega)
    have hp : ndig s.size ≤ d' := ndig_of_lt (by
      have hd' : d' = 2 ∨ d' = 3 := by omega
      rcases hd' with rfl | rfl <;> simp <;> omega) (by omega)
    have c := wire_padded s.size d' (by omega) (by omega)
    rw [show padS d' s.size = bytesOf (digs d' s.size) by unfold padS; rw [if_pos hp], decide_eq_true hp] at c
    refine fc_of mixed T_ok Tryd.func12 rfl (by kernel_rfl) (by kernel_rfl) (by kernel_rfl) ?_
    repeat' ((conv => whnf); first | (refine vcall_glob (c) rfl rfl rfl rfl ?_) | (refine cond_intro ?_ ?_; (rw [bytesOf_size, digs_length]; omega)) | (refine br_dec (fun h => ?_) (fun h => ?_) <;> try (exfalso; omega)) | (refine br_ndec (fun h => ?_) (fun h => ?_) <;> try (exfalso; omega)) | refine br_seq (fun h => ?_) (fun h => ?_) | refine br_nseq (fun h => ?_) (fun h => ?_) | refine br_not (fun h => ?_) (fun h => ?_) | refine br_intro (fun h => ?_) (fun h => ?_) | refine cond_intro rfl ?_ | (refine cond_intro ⟨rfl, ?_⟩ ?_; (first | omega | (dsimp only; omega) | decide)) | (refine cond_intro ?_ ?_; (first | omega | (dsimp only; omega) | decide | (simp only [Nat.add_zero, Int.toNat_natCast, *]; omega))))
    all_goals (conv => whnf)
    all_goals first
      | exact ret_pure rfl
      | (exfalso; omega)
  · have hS : varS s d = ⟨#[]⟩ := by unfold varS; rw [if_neg h0]
    rw [hS]
    by_cases h : d ≠ 2 ∧ d ≠ 3
    · have hE : varE s d = 4 := by unfold varE; rw [if_pos h]
      rw [hE]
      refine fc_of mixed T_ok Tryd.func12 rfl (by kernel_rfl) (by kernel_rfl) (by kernel_rfl) ?_
      repeat' ((conv => whnf); first | (refine br_dec (fun h => ?_) (fun h => ?_) <;> try (exfalso; omega)) | (refine br_ndec (fun h => ?_) (fun h => ?_) <;> try (exfalso; omega)) | refine br_seq (fun h => ?_) (fun h => ?_) | refine br_nseq (fun h => ?_) (fun h => ?_) | refine br_not (fun h => ?_) (fun h => ?_) | refine br_intro (fun h => ?_) (fun h => ?_) | refine cond_intro rfl ?_ | (refine cond_intro ⟨rfl, ?_⟩ ?_; (first | omega | (dsimp only; omega) | decide)) | (refine cond_intro ?_ ?_; (first | omega | (dsimp only; omega) | decide | (simp only [Nat.add_zero, Int.toNat_natCast, *]; omega))))
      all_goals (conv => whnf)
      all_goals first
        | exact ret_pure rfl
        | (exfalso; omega)
    · have h2 : (d = 2 ∧ 99 < s.size) ∨ 255 < s.size := by
        by_cases h2 : (d = 2 ∧ 99 < s.size) ∨ 255 < s.size
        · exact h2
        · unfold varE at h0; rw [if_neg h, if_neg h2] at h0; omega
      have hE : varE s d = 3 := by unfold varE; rw [if_neg h, if_pos h2]
      rw [hE]
      refine fc_of mixed T_ok Tryd.func12 rfl (by kernel_rfl) (by kernel_rfl) (by kernel_rfl) ?_
      repeat' ((conv => whnf); first | (refine br_dec (fun h => ?_) (fun h => ?_) <;> try (exfalso; omega)) | (refine br_ndec (fun h => ?_) (fun h => ?_) <;> try (exfalso; omega)) | refine br_seq (fun h => ?_) (fun h => ?_) | refine br_nseq (fun h => ?_) (fun h => ?_) | refine br_not (fun h => ?_) (fun h => ?_) | refine br_intro (fun h => ?_) (fun h => ?_) | refine cond_intro rfl ?_ | (refine cond_intro ⟨rfl, ?_⟩ ?_; (first | omega | (dsimp only; omega) | decide)) | (refine cond_intro ?_ ?_; (first | omega | (dsimp only; omega) | decide | (simp only [Nat.add_zero, Int.toNat_natCast, *]; omega))))
      all_goals (conv => whnf)
      all_goals first
        | exact ret_pure rfl
        | (exfalso; omega)

/-- Printable bytes. -/
def prAt (s : ByteArray) (i : Nat) : Prop := 32 ≤ byteAt s (i : Int) ∧ byteAt s (i : Int) ≤ 126
instance (s : ByteArray) (i : Nat) : Decidable (prAt s i) := by unfold prAt; infer_instance
def prTo (s : ByteArray) : Nat → Bool
  | 0 => true
  | k + 1 => prTo s k && decide (prAt s k)
def prB (s : ByteArray) : Bool := prTo s s.size
theorem prTo_false {s : ByteArray} {k n : Nat} (h : k < n) (hc : ¬ prAt s k) : prTo s n = false := by
  induction n with
  | zero => omega
  | succ n ih =>
    simp only [prTo]
    by_cases e : k = n
    · subst e; simp [hc]
    · rw [ih (by omega)]; rfl
theorem prTo_step {s : ByteArray} {k : Nat} (h : prTo s k = true) (h1 : 32 ≤ byteAt s (k : Int)) (h2 : byteAt s (k : Int) ≤ 126) : prTo s (k + 1) = true := by
  simp only [prTo, h, Bool.true_and, decide_eq_true_eq]; exact ⟨h1, h2⟩
theorem wire_isPrintable (s : ByteArray) (hs : s.size ≤ 9223372036854775000) : Pure Tryd.prog 36 [.str s] (.bool (prB s)) := by
  refine fc_of mixed T_ok Tryd.func36 rfl (by kernel_rfl) (by kernel_rfl) (by kernel_rfl) ?_
  (conv => whnf)
  refine vloop_of (fun k : Nat => ⟨[(0, .str s), (5, .int .i64 s.size), (6, .int .i64 k)], [], 1⟩) (fun k => k ≤ s.size ∧ prTo s k = true) (fun k => s.size - k) 0 [0] [] ⟨rfl, ⟨rfl, rfl, rfl, trivial⟩, trivial⟩ ⟨by omega, rfl⟩ ?_
  rintro k ⟨hk, hc⟩
  repeat' ((conv => whnf); first | (refine br_dec (fun h => ?_) (fun h => ?_) <;> try (exfalso; omega)) | (refine br_ndec (fun h => ?_) (fun h => ?_) <;> try (exfalso; omega)) | refine br_seq (fun h => ?_) (fun h => ?_) | refine br_nseq (fun h => ?_) (fun h => ?_) | refine br_not (fun h => ?_) (fun h => ?_) | refine br_intro (fun h => ?_) (fun h => ?_) | refine cond_intro rfl ?_ | (refine cond_intro ⟨rfl, ?_⟩ ?_; (first | omega | (dsimp only; omega) | decide)) | (refine cond_intro ?_ ?_; (first | omega | (dsimp only; omega) | decide | (simp only [Nat.add_zero, Int.toNat_natCast, *]; omega))))
  all_goals (conv => whnf)
  · exact ret_pure (by rw [show prB s = false from prTo_false (k := k) (by omega) (fun h => by have := h.1; omega)]; rfl)
  · exact ret_pure (by rw [show prB s = false from prTo_false (k := k) (by omega) (fun h => by have := h.2; omega)]; rfl)
  · exact ⟨k + 1, [0], [], ⟨by omega, prTo_step hc (by omega) (by omega)⟩, by omega, ⟨rfl, ⟨rfl, rfl, congrArg (fun z => some (SV.int .i64 z)) (i64_succ (by omega)), trivial⟩, trivial⟩⟩
  · have e : k = s.size := by omega
    subst e
    refine ret_pure ?_
    rw [show prB s = true from hc]; rfl
end Go.Proofs.YtkbajejkllkahaaDoor
