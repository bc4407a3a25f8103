/- Contracts of package pan: digits, the check of Luhn. -/
import Derived.Test.YtkmbnniikncaiaaTab
import Derived.Test.YtkmbnniikncaiaaNum
namespace Go.Proofs.Ytkmbnniikncaiaa
open Go.RowKit Go.Sy
attribute [local irreducible] vcall vloop vcallD retP
set_option maxRecDepth 100000
set_option linter.unusedVariables false
set_option linter.unusedSimpArgs false

theorem i64_succ {k : Nat} (h : k < 9223372036854775806) : IntKind.i64.wrap ((k : Int) + 1) = ((k + 1 : Nat) : Int) := by rw [w64_in (by omega) (by omega)]; rfl

/-- Digits. -/
def dgAt (s : ByteArray) (i : Nat) : Prop := 48 ≤ byteAt s (i : Int) ∧ byteAt s (i : Int) ≤ 57
instance (s : ByteArray) (i : Nat) : Decidable (dgAt s i) := by unfold dgAt; infer_instance
def dgTo (s : ByteArray) : Nat → Bool
  | 0 => true
  | k + 1 => dgTo s k && decide (dgAt s k)
def dgB (s : ByteArray) : Bool := dgTo s s.size
theorem dgTo_false {s : ByteArray} {k n : Nat} (h : k < n) (hc : ¬ dgAt s k) : dgTo s n = false := by
  induction n with
  | zero => omega
  | succ n ih =>
    simp only [dgTo]
    by_cases e : k = n
    · subst e; simp [hc]
    · rw [ih (by omega)]; rfl
theorem dgTo_step {s : ByteArray} {k : Nat} (h : dgTo s k = true) (h1 : 48 ≤ byteAt s (k : Int)) (h2 : byteAt s (k : Int) ≤ 57) : dgTo s (k + 1) = true := by
  simp only [dgTo, h, Bool.true_and, decide_eq_true_eq]; exact ⟨h1, h2⟩
theorem dgTo_at {s : ByteArray} {k n : Nat} (h : k < n) (hd : dgTo s n = true) : dgAt s k := by
  by_cases hc : dgAt s k
  · exact hc
  · rw [dgTo_false h hc] at hd; cases hd

/-- A rune that begins with a byte below 128 is that byte; another rune is not below 128. -/
theorem dec_low {s : ByteArray} {k : Nat} (hk : k < s.size) (h : byteAt s (k : Int) < 128) : Utf8.decode s k = ((byteAt s (k : Int)).toNat, 1) := by
  have e : (s.get! k).toNat = (byteAt s (k : Int)).toNat := by
    rw [byteAt_lt s k hk, Int.toNat_natCast]
    congr 1
    show s.data[k]! = s.data[k]
    exact getElem!_pos s.data k hk
  unfold Utf8.decode
  simp only [Nat.add_zero]
  rw [if_pos (by rw [e]; have := byteAt_bd s (k : Int); omega), e]
theorem dec_high {s : ByteArray} {k : Nat} (hk : k < s.size) (h : ¬ byteAt s (k : Int) < 128) : 128 ≤ (Utf8.decode s k).1 := by
  have e : (s.get! k).toNat = (byteAt s (k : Int)).toNat := by
    rw [byteAt_lt s k hk, Int.toNat_natCast]
    congr 1
    show s.data[k]! = s.data[k]
    exact getElem!_pos s.data k hk
  unfold Utf8.decode
  simp only [Nat.add_zero]
  rw [if_neg (by rw [e]; have := byteAt_bd s (k : Int); omega)]
  have hr : Utf8.runeError = 65533 := rfl
  split
  · split
    · dsimp only; omega
    · dsimp only; omega
  · split
    · split
      · rename_i hc; simp only [ge_iff_le, Bool.and_eq_true, decide_eq_true_eq] at hc; dsimp only; omega
      · dsimp only; omega
    · split
      · split
        · rename_i hc; simp only [ge_iff_le, Bool.and_eq_true, decide_eq_true_eq] at hc; dsimp only; omega
        · dsimp only; omega
      · dsimp only; omega

theorem pan_areDigits (s : ByteArray) : Pure Try.prog 32 [.str s] (.bool (dgB s)) := by
  refine fc_of mixed T_ok Try.func32 rfl (by kernel_rfl) (by kernel_rfl) (by kernel_rfl) ?_
  (conv => whnf)
  refine vloop_of (fun k : Nat => ⟨[(0, .str s), (6, .ptr 1 0 0 0)], [(1, some (.one false (.obj (.siter s k))))], 2⟩) (fun k => k ≤ s.size ∧ dgTo s k = true) (fun k => s.size - k) 0 [0, 1] [] ⟨rfl, ⟨rfl, rfl, trivial⟩, ⟨rfl, trivial⟩⟩ ⟨by omega, rfl⟩ ?_
  rintro k ⟨hk, hc⟩
  repeat' ((conv => whnf); first | (refine ⟨fun hlt => ?_, fun hge => ?_⟩) | (refine br_dec (fun h => ?_) (fun h => ?_) <;> try (exfalso; (try dsimp only at h); omega)) | (refine br_ndec (fun h => ?_) (fun h => ?_) <;> try (exfalso; (try dsimp only at h); omega)) | refine br_seq (fun h => ?_) (fun h => ?_) | refine br_nseq (fun h => ?_) (fun h => ?_) | refine br_not (fun h => ?_) (fun h => ?_) | refine br_intro (fun h => ?_) (fun h => ?_) | refine cond_intro rfl ?_ | (refine cond_intro ⟨rfl, ?_⟩ ?_; (first | omega | (dsimp only; omega) | decide)) | (refine cond_intro ?_ ?_; (first | omega | (dsimp only; omega) | decide | (simp only [Nat.add_zero, Int.toNat_natCast, *]; omega))))
  all_goals (conv => whnf)
  · have hf : dgB s = false := by
      refine dgTo_false hlt (fun hd => ?_)
      have h : ((Utf8.decode s k).1 : Int) < 48 := h
      rw [dec_low hlt (by have := hd.2; omega)] at h
      have := hd.1
      simp only at h
      omega
    exact ret_pure (by rw [hf]; rfl)
  · have hf : dgB s = false := by
      refine dgTo_false hlt (fun hd => ?_)
      have h2 : ((Utf8.decode s k).1 : Int) > 57 := by assumption
      rw [dec_low hlt (by have := hd.2; omega)] at h2
      have := hd.2
      simp only at h2
      omega
    exact ret_pure (by rw [hf]; rfl)
  · have h1 : ¬ ((Utf8.decode s k).1 : Int) < 48 := by assumption
    have h2 : ¬ ((Utf8.decode s k).1 : Int) > 57 := by assumption
    by_cases hl : byteAt s (k : Int) < 128
    · rw [dec_low hlt hl] at h1 h2 ⊢
      simp only at h1 h2
      refine ⟨k + 1, [0, 1], [], ⟨by omega, dgTo_step hc (by omega) (by omega)⟩, by omega, ⟨rfl, ⟨rfl, rfl, trivial⟩, ⟨rfl, trivial⟩⟩⟩
    · have := dec_high hlt hl
      exfalso; omega
  · have e : k = s.size := by omega
    subst e
    refine ret_pure ?_
    rw [show dgB s = true from hc]; rfl

/-- The sum of the check of Luhn. -/
def luT (s : ByteArray) (k : Nat) : Int :=
  let n := byteAt s (k : Int) - 48
  if (s.size - k) % 2 = 0 then (if n * 2 > 9 then n * 2 - 9 else n * 2) else n
def luTo (s : ByteArray) : Nat → Int
  | 0 => 0
  | k + 1 => luTo s k + luT s k
theorem luT_bd {s : ByteArray} {k : Nat} (h : dgAt s k) : 0 ≤ luT s k ∧ luT s k ≤ 9 := by
  obtain ⟨h1, h2⟩ := h
  unfold luT
  dsimp only
  split
  · split <;> omega
  · omega
theorem luTo_bd {s : ByteArray} : ∀ k, dgTo s k = true → 0 ≤ luTo s k ∧ luTo s k ≤ 9 * k
  | 0, _ => by simp [luTo]
  | k + 1, h => by
    have h1 := dgTo_at (Nat.lt_succ_self k) h
    have h0 : dgTo s k = true := by simp only [dgTo, Bool.and_eq_true] at h; exact h.1
    have := luTo_bd k h0
    have := luT_bd h1
    simp only [luTo]
    omega

theorem pan_sum (s : ByteArray) (hd : dgB s = true) (hs : s.size ≤ 1000000) : Pure Try.prog 41 [.str s] (.int .i64 (luTo s s.size)) := by
  refine fc_of mixed T_ok Try.func41 rfl (by kernel_rfl) (by kernel_rfl) (by kernel_rfl) ?_
  (conv => whnf)
  refine vloop_of (fun k : Nat => ⟨[(0, .str s), (3, .int .i64 (luTo s k)), (8, .ptr 1 0 0 0)], [(1, some (.one false (.obj (.siter s k))))], 2⟩) (fun k => k ≤ s.size ∧ dgTo s k = true) (fun k => s.size - k) 0 [0, 1] [] ⟨rfl, ⟨rfl, rfl, rfl, trivial⟩, ⟨rfl, trivial⟩⟩ ⟨by omega, rfl⟩ ?_
  rintro k ⟨hk, hc⟩
  by_cases hlt : k < s.size
  · have ha := dgTo_at hlt hd
    obtain ⟨h48, h57⟩ := ha
    have hde := dec_low hlt (by omega)
    have hb := luTo_bd k hc
    have hnx : (Utf8.decode s k).1 = (byteAt s (k : Int)).toNat := by rw [hde]
    have hpx : (Utf8.decode s k).2 = 1 := by rw [hde]
    have w1 : IntKind.i32.wrap (((Utf8.decode s k).1 : Int) - 48) = byteAt s (k : Int) - 48 := by
      rw [hnx, IntWalk.i32_in _ ⟨by omega, by omega⟩]; omega
    have w2 : IntKind.i64.wrap (byteAt s (k : Int) - 48) = byteAt s (k : Int) - 48 := w64_in (by omega) (by omega)
    have w3 : IntKind.i64.wrap ((byteAt s (k : Int) - 48) * 2) = (byteAt s (k : Int) - 48) * 2 := w64_in (by omega) (by omega)
    have w4 : IntKind.i64.wrap ((byteAt s (k : Int) - 48) * 2 - 9) = (byteAt s (k : Int) - 48) * 2 - 9 := w64_in (by omega) (by omega)
    have w5 : IntKind.i64.wrap ((s.size : Int) - (k : Int)) = ((s.size - k : Nat) : Int) := by rw [w64_in (by omega) (by omega)]; omega
    have w6 : (((s.size - k : Nat) : Int)).tmod 2 = (((s.size - k) % 2 : Nat) : Int) := by rw [Int.tmod_eq_emod_of_nonneg (by omega)]; rfl
    have w7 : IntKind.i64.wrap (((s.size - k) % 2 : Nat) : Int) = (((s.size - k) % 2 : Nat) : Int) := w64_in (by omega) (by omega)
    have w8 : IntKind.i64.wrap (luTo s k + luT s k) = luTo s (k + 1) := by
      have := luT_bd (s := s) (k := k) ⟨h48, h57⟩
      rw [w64_in (by omega) (by omega)]; rfl
    repeat' ((conv => whnf); first | (refine ⟨fun _ => ?_, fun hge => absurd hlt hge⟩) | (refine br_dec (fun h => ?_) (fun h => ?_) <;> try (exfalso; (try dsimp only at h); omega)) | (refine br_ndec (fun h => ?_) (fun h => ?_) <;> try (exfalso; (try dsimp only at h); omega)) | refine br_seq (fun h => ?_) (fun h => ?_) | refine br_nseq (fun h => ?_) (fun h => ?_) | refine br_not (fun h => ?_) (fun h => ?_) | refine br_intro (fun h => ?_) (fun h => ?_) | refine cond_intro rfl ?_ | (refine cond_intro ⟨rfl, ?_⟩ ?_; (first | omega | (dsimp only; omega) | decide)) | (refine cond_intro ?_ ?_; (first | omega | (dsimp only; omega) | decide | (simp only [Nat.add_zero, Int.toNat_natCast, *]; omega))))
    all_goals (conv => whnf)
    all_goals (rw [hpx]; refine ⟨k + 1, [0, 1], [], ⟨hlt, dgTo_step hc h48 h57⟩, by omega, ⟨rfl, ⟨rfl, congrArg (fun z => some (SV.int .i64 z)) ?_, rfl, trivial⟩, ⟨rfl, trivial⟩⟩⟩)
    · have h' : (IntKind.i64.wrap ((s.size : Int) - (k : Int))).tmod 2 = 0 := by assumption
      have e9 : 9 < IntKind.i64.wrap (IntKind.i64.wrap (IntKind.i32.wrap (((Utf8.decode s k).1 : Int) - 48)) * 2) := h
      rw [w1, w2, w3] at e9
      rw [w5, w6] at h'
      show IntKind.i64.wrap (luTo s k + IntKind.i64.wrap (IntKind.i64.wrap (IntKind.i64.wrap (IntKind.i32.wrap (((Utf8.decode s k).1 : Int) - 48)) * 2) - 9)) = _
      have e : luT s k = (byteAt s (k : Int) - 48) * 2 - 9 := by unfold luT; dsimp only; rw [if_pos (by omega), if_pos (by omega)]
      rw [w1, w2, w3, w4, ← w8, e]
    · have h' : (IntKind.i64.wrap ((s.size : Int) - (k : Int))).tmod 2 = 0 := by assumption
      have e9 : ¬ 9 < IntKind.i64.wrap (IntKind.i64.wrap (IntKind.i32.wrap (((Utf8.decode s k).1 : Int) - 48)) * 2) := h
      rw [w1, w2, w3] at e9
      rw [w5, w6] at h'
      show IntKind.i64.wrap (luTo s k + IntKind.i64.wrap (IntKind.i64.wrap (IntKind.i32.wrap (((Utf8.decode s k).1 : Int) - 48)) * 2)) = _
      have e : luT s k = (byteAt s (k : Int) - 48) * 2 := by unfold luT; dsimp only; rw [if_pos (by omega), if_neg (by omega)]
      rw [w1, w2, w3, ← w8, e]
    · have h' : ¬ (IntKind.i64.wrap ((s.size : Int) - (k : Int))).tmod 2 = 0 := h
      rw [w5, w6] at h'
      show IntKind.i64.wrap (luTo s k + IntKind.i64.wrap (IntKind.i32.wrap (((Utf8.decode s k).1 : Int) - 48))) = _
      have e : luT s k = (byteAt s (k : Int) - 48) := by unfold luT; dsimp only; rw [if_neg (by omega)]
      rw [w1, w2, ← w8, e]
  · have e : k = s.size := by omega
    subst e
    repeat' ((conv => whnf); first | (refine ⟨fun h0 => absurd h0 hlt, fun _ => ?_⟩) | (refine br_dec (fun h => ?_) (fun h => ?_) <;> try (exfalso; (try dsimp only at h); omega)) | (refine br_ndec (fun h => ?_) (fun h => ?_) <;> try (exfalso; (try dsimp only at h); omega)) | refine br_seq (fun h => ?_) (fun h => ?_) | refine br_nseq (fun h => ?_) (fun h => ?_) | refine br_not (fun h => ?_) (fun h => ?_) | refine br_intro (fun h => ?_) (fun h => ?_) | refine cond_intro rfl ?_ | (refine cond_intro ⟨rfl, ?_⟩ ?_; (first | omega | (dsimp only; omega) | decide)) | (refine cond_intro ?_ ?_; (first | omega | (dsimp only; omega) | decide | (simp only [Nat.add_zero, Int.toNat_natCast, *]; omega))))
    all_goals (conv => whnf)
    all_goals exact ret_pure rfl

def luB (s : ByteArray) : Bool := dgB s && decide ((luTo s s.size).tmod 10 = 0)
theorem pan_Luhn (s : ByteArray) (h0 : ¬ s = ⟨#[]⟩) (hs : s.size ≤ 1000000) : Pure Try.prog 33 [.str s] (.bool (luB s)) := by
  have c1 := pan_areDigits s
  unfold luB
  cases hd : dgB s with
  | false =>
    rw [hd] at c1
    refine fc_of mixed T_ok Try.func33 rfl (by kernel_rfl) (by kernel_rfl) (by kernel_rfl) ?_
    repeat' ((conv => whnf); first | (refine vcall_pure (c1) rfl rfl rfl ?_) | (refine vcallD_pure (c1) rfl rfl rfl ?_) | (refine br_dec (fun h => ?_) (fun h => ?_) <;> try (exfalso; (try dsimp only at h); omega)) | (refine br_ndec (fun h => ?_) (fun h => ?_) <;> try (exfalso; (try dsimp only at h); omega)) | refine br_seq (fun h => ?_) (fun h => ?_) | refine br_nseq (fun h => ?_) (fun h => ?_) | refine br_not (fun h => ?_) (fun h => ?_) | refine br_intro (fun h => ?_) (fun h => ?_) | refine cond_intro rfl ?_ | (refine cond_intro ⟨rfl, ?_⟩ ?_; (first | omega | (dsimp only; omega) | decide)) | (refine cond_intro ?_ ?_; (first | omega | (dsimp only; omega) | decide | (simp only [Nat.add_zero, Int.toNat_natCast, *]; omega))))
    all_goals (conv => whnf)
    all_goals first
      | exact ret_pure rfl
      | (exfalso; exact h0 (by assumption))
  | true =>
    rw [hd] at c1
    have c2 := pan_sum s hd hs
    by_cases hm : (luTo s s.size).tmod 10 = 0
    · rw [decide_eq_true hm]
      refine fc_of mixed T_ok Try.func33 rfl (by kernel_rfl) (by kernel_rfl) (by kernel_rfl) ?_
      repeat' ((conv => whnf); first | (refine vcall_pure (c1) rfl rfl rfl ?_) | (refine vcallD_pure (c1) rfl rfl rfl ?_) | (refine vcall_pure (c2) rfl rfl rfl ?_) | (refine vcallD_pure (c2) rfl rfl rfl ?_) | (refine br_dec (fun h => ?_) (fun h => ?_) <;> try (exfalso; (try dsimp only at h); omega)) | (refine br_ndec (fun h => ?_) (fun h => ?_) <;> try (exfalso; (try dsimp only at h); omega)) | refine br_seq (fun h => ?_) (fun h => ?_) | refine br_nseq (fun h => ?_) (fun h => ?_) | refine br_not (fun h => ?_) (fun h => ?_) | refine br_intro (fun h => ?_) (fun h => ?_) | refine cond_intro rfl ?_ | (refine cond_intro ⟨rfl, ?_⟩ ?_; (first | omega | (dsimp only; omega) | decide)) | (refine cond_intro ?_ ?_; (first | omega | (dsimp only; omega) | decide | (simp only [Nat.add_zero, Int.toNat_natCast, *]; omega))))
      all_goals (conv => whnf)
      all_goals first
        | exact ret_pure rfl
        | (exfalso; exact h0 (by assumption))
        | exact ret_pure (congrArg SV.bool (decide_eq_true hm))
    · rw [decide_eq_false hm]
      refine fc_of mixed T_ok Try.func33 rfl (by kernel_rfl) (by kernel_rfl) (by kernel_rfl) ?_
      repeat' ((conv => whnf); first | (refine vcall_pure (c1) rfl rfl rfl ?_) | (refine vcallD_pure (c1) rfl rfl rfl ?_) | (refine vcall_pure (c2) rfl rfl rfl ?_) | (refine vcallD_pure (c2) rfl rfl rfl ?_) | (refine br_dec (fun h => ?_) (fun h => ?_) <;> try (exfalso; (try dsimp only at h); omega)) | (refine br_ndec (fun h => ?_) (fun h => ?_) <;> try (exfalso; (try dsimp only at h); omega)) | refine br_seq (fun h => ?_) (fun h => ?_) | refine br_nseq (fun h => ?_) (fun h => ?_) | refine br_not (fun h => ?_) (fun h => ?_) | refine br_intro (fun h => ?_) (fun h => ?_) | refine cond_intro rfl ?_ | (refine cond_intro ⟨rfl, ?_⟩ ?_; (first | omega | (dsimp only; omega) | decide)) | (refine cond_intro ?_ ?_; (first | omega | (dsimp only; omega) | decide | (simp only [Nat.add_zero, Int.toNat_natCast, *]; omega))))
      all_goals (conv => whnf)
      all_goals first
        | exact ret_pure rfl
        | (exfalso; exact h0 (by assumption))
        | exact ret_pure (congrArg SV.bool (decide_eq_false hm))

/-- The error of a card number. -/
def panE (s : ByteArray) : Int := if s.size < 12 then 1 else if 19 < s.size then 3 else if dgB s = false then 2 else if luB s = false then 9 else 0
theorem pan_Check (s : ByteArray) : Pure Try.prog 22 [.str s] (.int .i64 (panE s)) := by
  have c1 := pan_areDigits s
  unfold panE
  by_cases h12 : s.size < 12
  · rw [if_pos h12]
    refine fc_of mixed T_ok Try.func22 rfl (by kernel_rfl) (by kernel_rfl) (by kernel_rfl) ?_
    repeat' ((conv => whnf); first | (refine br_dec (fun h => ?_) (fun h => ?_) <;> try (exfalso; (try dsimp only at h); omega)) | (refine br_ndec (fun h => ?_) (fun h => ?_) <;> try (exfalso; (try dsimp only at h); omega)) | refine br_seq (fun h => ?_) (fun h => ?_) | refine br_nseq (fun h => ?_) (fun h => ?_) | refine br_not (fun h => ?_) (fun h => ?_) | refine br_intro (fun h => ?_) (fun h => ?_) | refine cond_intro rfl ?_ | (refine cond_intro ⟨rfl, ?_⟩ ?_; (first | omega | (dsimp only; omega) | decide)) | (refine cond_intro ?_ ?_; (first | omega | (dsimp only; omega) | decide | (simp only [Nat.add_zero, Int.toNat_natCast, *]; omega))))
    all_goals (conv => whnf)
    all_goals exact ret_pure rfl
  · rw [if_neg h12]
    by_cases h19 : 19 < s.size
    · rw [if_pos h19]
      refine fc_of mixed T_ok Try.func22 rfl (by kernel_rfl) (by kernel_rfl) (by kernel_rfl) ?_
      repeat' ((conv => whnf); first | (refine br_dec (fun h => ?_) (fun h => ?_) <;> try (exfalso; (try dsimp only at h); omega)) | (refine br_ndec (fun h => ?_) (fun h => ?_) <;> try (exfalso; (try dsimp only at h); omega)) | refine br_seq (fun h => ?_) (fun h => ?_) | refine br_nseq (fun h => ?_) (fun h => ?_) | refine br_not (fun h => ?_) (fun h => ?_) | refine br_intro (fun h => ?_) (fun h => ?_) | refine cond_intro rfl ?_ | (refine cond_intro ⟨rfl, ?_⟩ ?_; (first | omega | (dsimp only; omega) | decide)) | (refine cond_intro ?_ ?_; (first | omega | (dsimp only; omega) | decide | (simp only [Nat.add_zero, Int.toNat_natCast, *]; omega))))
      all_goals (conv => whnf)
      all_goals exact ret_pure rfl
    · rw [if_neg h19]
      have c2 := pan_Luhn s (fun e => h12 (by rw [e]; decide)) (by omega)
      cases hd : dgB s with
      | false =>
        rw [hd] at c1
        rw [if_pos rfl]
        refine fc_of mixed T_ok Try.func22 rfl (by kernel_rfl) (by kernel_rfl) (by kernel_rfl) ?_
        repeat' ((conv => whnf); first | (refine vcall_pure (c1) rfl rfl rfl ?_) | (refine vcallD_pure (c1) rfl rfl rfl ?_) | (refine br_dec (fun h => ?_) (fun h => ?_) <;> try (exfalso; (try dsimp only at h); omega)) | (refine br_ndec (fun h => ?_) (fun h => ?_) <;> try (exfalso; (try dsimp only at h); omega)) | refine br_seq (fun h => ?_) (fun h => ?_) | refine br_nseq (fun h => ?_) (fun h => ?_) | refine br_not (fun h => ?_) (fun h => ?_) | refine br_intro (fun h => ?_) (fun h => ?_) | refine cond_intro rfl ?_ | (refine cond_intro ⟨rfl, ?_⟩ ?_; (first | omega | (dsimp only; omega) | decide)) | (refine cond_intro ?_ ?_; (first | omega | (dsimp only; omega) | decide | (simp only [Nat.add_zero, Int.toNat_natCast, *]; omega))))
        all_goals (conv => whnf)
        all_goals exact ret_pure rfl
      | true =>
        rw [hd] at c1
        rw [if_neg (by decide)]
        cases hl : luB s with
        | false =>
          rw [hl] at c2
          rw [if_pos rfl]
          refine fc_of mixed T_ok Try.func22 rfl (by kernel_rfl) (by kernel_rfl) (by kernel_rfl) ?_
          repeat' ((conv => whnf); first | (refine vcall_pure (c1) rfl rfl rfl ?_) | (refine vcallD_pure (c1) rfl rfl rfl ?_) | (refine vcall_pure (c2) rfl rfl rfl ?_) | (refine vcallD_pure (c2) rfl rfl rfl ?_) | (refine br_dec (fun h => ?_) (fun h => ?_) <;> try (exfalso; (try dsimp only at h); omega)) | (refine br_ndec (fun h => ?_) (fun h => ?_) <;> try (exfalso; (try dsimp only at h); omega)) | refine br_seq (fun h => ?_) (fun h => ?_) | refine br_nseq (fun h => ?_) (fun h => ?_) | refine br_not (fun h => ?_) (fun h => ?_) | refine br_intro (fun h => ?_) (fun h => ?_) | refine cond_intro rfl ?_ | (refine cond_intro ⟨rfl, ?_⟩ ?_; (first | omega | (dsimp only; omega) | decide)) | (refine cond_intro ?_ ?_; (first | omega | (dsimp only; omega) | decide | (simp only [Nat.add_zero, Int.toNat_natCast, *]; omega))))
          all_goals (conv => whnf)
          all_goals exact ret_pure rfl
        | true =>
          rw [hl] at c2
          rw [if_neg (by decide)]
          refine fc_of mixed T_ok Try.func22 rfl (by kernel_rfl) (by kernel_rfl) (by kernel_rfl) ?_
          repeat' ((conv => whnf); first | (refine vcall_pure (c1) rfl rfl rfl ?_) | (refine vcallD_pure (c1) rfl rfl rfl ?_) | (refine vcall_pure (c2) rfl rfl rfl ?_) | (refine vcallD_pure (c2) rfl rfl rfl ?_) | (refine br_dec (fun h => ?_) (fun h => ?_) <;> try (exfalso; (try dsimp only at h); omega)) | (refine br_ndec (fun h => ?_) (fun h => ?_) <;> try (exfalso; (try dsimp only at h); omega)) | refine br_seq (fun h => ?_) (fun h => ?_) | refine br_nseq (fun h => ?_) (fun h => ?_) | refine br_not (fun h => ?_) (fun h => ?_) | refine br_intro (fun h => ?_) (fun h => ?_) | refine cond_intro rfl ?_ | (refine cond_intro ⟨rfl, ?_⟩ ?_; (first | omega | (dsimp only; omega) | decide)) | (refine cond_intro ?_ ?_; (first | omega | (dsimp only; omega) | decide | (simp only [Nat.add_zero, Int.toNat_natCast, *]; omega))))
          all_goals (conv => whnf)
          all_goals exact ret_pure rfl
end Go.Proofs.Ytkmbnniikncaiaa
