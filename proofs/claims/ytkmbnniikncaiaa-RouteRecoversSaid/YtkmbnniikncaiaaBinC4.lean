/- Contracts of package binrange: the check of a table. -/
import Derived.Test.YtkmbnniikncaiaaBinC3
namespace Go.Proofs.Ytkmbnniikncaiaa
open Go.RowKit Go.Sy
attribute [local irreducible] vcall vloop vcallD retP
set_option maxRecDepth 100000
set_option linter.unusedVariables false
set_option linter.unusedSimpArgs false

/-- A table of ranges, by columns. -/
structure Rg where
  n : Nat
  lo : List ByteArray
  hi : List ByteArray
  is : List ByteArray
  pr : List ByteArray
def rgB (L : Rg) : HB := .one true (.cols L.n [.sc (.strs L.lo), .sc (.strs L.hi), .sc (.strs L.is), .sc (.strs L.pr)])
def Rg.l (L : Rg) (i : Nat) : ByteArray := L.lo.getD i ⟨#[]⟩
def Rg.h (L : Rg) (i : Nat) : ByteArray := L.hi.getD i ⟨#[]⟩
def Rg.s (L : Rg) (i : Nat) : ByteArray := L.is.getD i ⟨#[]⟩
def Rg.p (L : Rg) (i : Nat) : ByteArray := L.pr.getD i ⟨#[]⟩

def rE (L : Rg) (k : Nat) : Int := if fmB (L.l k) (L.h k) = false then 2 else if sle (L.l k) (L.h k) = false then 4 else if (nmB (L.s k) && nmB (L.p k)) = false then 5 else 0
def exA (L : Rg) : Nat → Int
  | 0 => 0
  | k + 1 => if exA L k = 0 then rE L k else exA L k
def exI (L : Rg) : Nat → Nat
  | 0 => 0
  | k + 1 => if exA L k = 0 then k else exI L k
theorem exA_stop {L : Rg} {k : Nat} (h0 : exA L k = 0) (h1 : rE L k ≠ 0) : ∀ n, k < n → exA L n = rE L k ∧ exI L n = k
  | 0, h => by omega
  | n + 1, h => by
    by_cases e : k = n
    · subst e; simp only [exA, exI, if_pos h0]; exact ⟨trivial, trivial⟩
    · obtain ⟨a, b⟩ := exA_stop h0 h1 n (by omega)
      simp only [exA, exI, a, b, if_neg h1]
      exact ⟨trivial, trivial⟩
theorem exA_zero {L : Rg} {k : Nat} : ∀ n, exA L n = 0 → k < n → rE L k = 0
  | 0, _, h => by omega
  | n + 1, h0, h => by
    simp only [exA] at h0
    by_cases e : exA L n = 0
    · rw [if_pos e] at h0
      by_cases e2 : k = n
      · subst e2; exact h0
      · exact exA_zero n e (by omega)
    · rw [if_neg e] at h0; exact absurd h0 e
def ovP (L : Rg) (i j : Nat) : Bool := decide ((L.l i).size = (L.l j).size) && ovB (L.l i) (L.h i) (L.l j) (L.h j)
def ovTo (L : Rg) (i : Nat) : Nat → Bool
  | 0 => false
  | j + 1 => ovTo L i j || ovP L i j
theorem ovTo_stop {L : Rg} {i j : Nat} (h : ovP L i j = true) : ∀ n, j < n → ovTo L i n = true
  | 0, hh => by omega
  | n + 1, hh => by
    simp only [ovTo]
    by_cases e : j = n
    · subst e; rw [h, Bool.or_true]
    · rw [ovTo_stop h n (by omega)]; rfl
def exB (L : Rg) : Nat → Bool
  | 0 => false
  | i + 1 => exB L i || ovTo L i i
def exJ (L : Rg) : Nat → Nat
  | 0 => 0
  | i + 1 => if exB L i then exJ L i else i
theorem exB_stop {L : Rg} {i : Nat} (h0 : exB L i = false) (h : ovTo L i i = true) : ∀ n, i < n → exB L n = true ∧ exJ L n = i
  | 0, hh => by omega
  | n + 1, hh => by
    by_cases e : i = n
    · subst e; simp only [exB, exJ, h0, h]; exact ⟨rfl, rfl⟩
    · obtain ⟨a, b⟩ := exB_stop h0 h n (by omega)
      simp only [exB, exJ, a, b]; exact ⟨rfl, rfl⟩
def exR (L : Rg) : Int := if 64 < L.n then 3 else if exA L L.n ≠ 0 then exA L L.n else if exB L L.n then 7 else 0
def exX (L : Rg) : Nat := if 64 < L.n then 64 else if exA L L.n ≠ 0 then exI L L.n else if exB L L.n then exJ L L.n else 0

theorem bin_examine (L : Rg) : FC Try.prog 2 28 [.sl 1 0 0 L.n] [(1, some (rgB L))] (isOut (.tup [.int .i64 (exR L), .int .i64 (exX L)]) [] 2) := by
  unfold exR exX
  by_cases h64 : 64 < L.n
  · rw [if_pos h64, if_pos h64]
    refine fc_of mixed T_ok Try.func28 rfl (by kernel_rfl) (by kernel_rfl) (by kernel_rfl) ?_
    repeat' ((conv => whnf); first | (refine br_dec (fun h => ?_) (fun h => ?_) <;> try (exfalso; (try dsimp only at h); omega)) | (refine br_ndec (fun h => ?_) (fun h => ?_) <;> try (exfalso; (try dsimp only at h); omega)) | refine br_seq (fun h => ?_) (fun h => ?_) | refine br_nseq (fun h => ?_) (fun h => ?_) | refine br_not (fun h => ?_) (fun h => ?_) | refine br_intro (fun h => ?_) (fun h => ?_) | refine cond_intro rfl ?_ | (refine cond_intro ⟨rfl, ?_⟩ ?_; (first | omega | (dsimp only; omega) | decide)) | (refine cond_intro ?_ ?_; (first | omega | (dsimp only; omega) | decide | (simp only [Nat.add_zero, Int.toNat_natCast, *]; omega))))
    all_goals (conv => whnf)
    all_goals exact ret_out (l := [0, 1]) rfl rfl trivial allRw_nil
  · rw [if_neg h64, if_neg h64]
    by_cases hA : exA L L.n ≠ 0
    · rw [if_pos hA, if_pos hA]
      refine fc_of mixed T_ok Try.func28 rfl (by kernel_rfl) (by kernel_rfl) (by kernel_rfl) ?_
      repeat' ((conv => whnf); first | (refine br_dec (fun h => ?_) (fun h => ?_) <;> try (exfalso; (try dsimp only at h); omega)) | (refine br_ndec (fun h => ?_) (fun h => ?_) <;> try (exfalso; (try dsimp only at h); omega)) | refine br_seq (fun h => ?_) (fun h => ?_) | refine br_nseq (fun h => ?_) (fun h => ?_) | refine br_not (fun h => ?_) (fun h => ?_) | refine br_intro (fun h => ?_) (fun h => ?_) | refine cond_intro rfl ?_ | (refine cond_intro ⟨rfl, ?_⟩ ?_; (first | omega | (dsimp only; omega) | decide)) | (refine cond_intro ?_ ?_; (first | omega | (dsimp only; omega) | decide | (simp only [Nat.add_zero, Int.toNat_natCast, *]; omega))))
      all_goals (conv => whnf)
      refine vloop_of (fun k : Nat => ⟨[(0, .sl 1 0 0 L.n), (13, .sl 1 0 0 L.n), (14, .int .i64 L.n), (15, .int .i64 k)], [(1, some (rgB L))], 2⟩) (fun k => k ≤ L.n ∧ exA L k = 0) (fun k => L.n - k) 0 [0, 1] [] ⟨rfl, ⟨rfl, rfl, rfl, rfl, trivial⟩, ⟨rfl, trivial⟩⟩ ⟨by omega, rfl⟩ ?_
      rintro k ⟨hk, hc⟩
      have c1 := bin_formed (L.l k) (L.h k) (L.s k) (L.p k)
      have c2 := lex_IsName (L.s k)
      have c3 := lex_IsName (L.p k)
      by_cases hk2 : k < L.n
      · cases h1 : fmB (L.l k) (L.h k) with
        | false =>
          have e3 : rE L k = 2 := by unfold rE; rw [if_pos h1]
          obtain ⟨e1, e2⟩ := exA_stop hc (by rw [e3]; decide) _ hk2
          rw [h1] at c1
          rw [e1, e2, e3]
          repeat' ((conv => whnf); first | (refine vcall_pure (c1) rfl rfl rfl ?_) | (refine vcallD_pure (c1) rfl rfl rfl ?_) | (refine br_dec (fun h => ?_) (fun h => ?_) <;> try (exfalso; (try dsimp only at h); omega)) | (refine br_ndec (fun h => ?_) (fun h => ?_) <;> try (exfalso; (try dsimp only at h); omega)) | refine br_seq (fun h => ?_) (fun h => ?_) | refine br_nseq (fun h => ?_) (fun h => ?_) | refine br_not (fun h => ?_) (fun h => ?_) | refine br_intro (fun h => ?_) (fun h => ?_) | refine cond_intro rfl ?_ | (refine cond_intro ⟨rfl, ?_⟩ ?_; (first | omega | (dsimp only; omega) | decide)) | (refine cond_intro ?_ ?_; (first | omega | (dsimp only; omega) | decide | (simp only [Nat.add_zero, Int.toNat_natCast, *]; omega))))
          all_goals (conv => whnf)
          all_goals first
            | exact ret_out (l := [0, 1]) rfl rfl trivial allRw_nil
            | (exfalso; omega)
        | true =>
          rw [h1] at c1
          cases h2 : sle (L.l k) (L.h k) with
          | false =>
            have e3 : rE L k = 4 := by unfold rE; rw [h1, h2]; rfl
            obtain ⟨e1, e2⟩ := exA_stop hc (by rw [e3]; decide) _ hk2
            rw [e1, e2, e3]
            repeat' ((conv => whnf); first | (refine vcall_pure (c1) rfl rfl rfl ?_) | (refine vcallD_pure (c1) rfl rfl rfl ?_) | (refine br_intro (fun h => ?_) (fun h => absurd ((congrArg (fun z => !z) h2).symm.trans h) (by decide))) | (refine br_dec (fun h => ?_) (fun h => ?_) <;> try (exfalso; (try dsimp only at h); omega)) | (refine br_ndec (fun h => ?_) (fun h => ?_) <;> try (exfalso; (try dsimp only at h); omega)) | refine br_seq (fun h => ?_) (fun h => ?_) | refine br_nseq (fun h => ?_) (fun h => ?_) | refine br_not (fun h => ?_) (fun h => ?_) | refine br_intro (fun h => ?_) (fun h => ?_) | refine cond_intro rfl ?_ | (refine cond_intro ⟨rfl, ?_⟩ ?_; (first | omega | (dsimp only; omega) | decide)) | (refine cond_intro ?_ ?_; (first | omega | (dsimp only; omega) | decide | (simp only [Nat.add_zero, Int.toNat_natCast, *]; omega))))
            all_goals (conv => whnf)
            all_goals first
              | exact ret_out (l := [0, 1]) rfl rfl trivial allRw_nil
              | (exfalso; omega)
          | true =>
            cases h3 : nmB (L.s k) with
            | false =>
              have e3 : rE L k = 5 := by unfold rE; rw [h1, h2, h3]; rfl
              obtain ⟨e1, e2⟩ := exA_stop hc (by rw [e3]; decide) _ hk2
              rw [e1, e2, e3]
              rw [h3] at c2
              repeat' ((conv => whnf); first | (refine vcall_pure (c1) rfl rfl rfl ?_) | (refine vcallD_pure (c1) rfl rfl rfl ?_) | (refine vcall_pure (c2) rfl rfl rfl ?_) | (refine vcallD_pure (c2) rfl rfl rfl ?_) | (refine br_intro (fun h => absurd ((congrArg (fun z => !z) h2).symm.trans h) (by decide)) (fun h => ?_)) | (refine br_dec (fun h => ?_) (fun h => ?_) <;> try (exfalso; (try dsimp only at h); omega)) | (refine br_ndec (fun h => ?_) (fun h => ?_) <;> try (exfalso; (try dsimp only at h); omega)) | refine br_seq (fun h => ?_) (fun h => ?_) | refine br_nseq (fun h => ?_) (fun h => ?_) | refine br_not (fun h => ?_) (fun h => ?_) | refine br_intro (fun h => ?_) (fun h => ?_) | refine cond_intro rfl ?_ | (refine cond_intro ⟨rfl, ?_⟩ ?_; (first | omega | (dsimp only; omega) | decide)) | (refine cond_intro ?_ ?_; (first | omega | (dsimp only; omega) | decide | (simp only [Nat.add_zero, Int.toNat_natCast, *]; omega))))
              all_goals (conv => whnf)
              all_goals first
                | exact ret_out (l := [0, 1]) rfl rfl trivial allRw_nil
                | (exfalso; omega)
            | true =>
              rw [h3] at c2
              cases h4 : nmB (L.p k) with
              | false =>
                have e3 : rE L k = 5 := by unfold rE; rw [h1, h2, h3, h4]; rfl
                obtain ⟨e1, e2⟩ := exA_stop hc (by rw [e3]; decide) _ hk2
                rw [e1, e2, e3]
                rw [h4] at c3
                repeat' ((conv => whnf); first | (refine vcall_pure (c1) rfl rfl rfl ?_) | (refine vcallD_pure (c1) rfl rfl rfl ?_) | (refine vcall_pure (c2) rfl rfl rfl ?_) | (refine vcallD_pure (c2) rfl rfl rfl ?_) | (refine vcall_pure (c3) rfl rfl rfl ?_) | (refine vcallD_pure (c3) rfl rfl rfl ?_) | (refine br_intro (fun h => absurd ((congrArg (fun z => !z) h2).symm.trans h) (by decide)) (fun h => ?_)) | (refine br_dec (fun h => ?_) (fun h => ?_) <;> try (exfalso; (try dsimp only at h); omega)) | (refine br_ndec (fun h => ?_) (fun h => ?_) <;> try (exfalso; (try dsimp only at h); omega)) | refine br_seq (fun h => ?_) (fun h => ?_) | refine br_nseq (fun h => ?_) (fun h => ?_) | refine br_not (fun h => ?_) (fun h => ?_) | refine br_intro (fun h => ?_) (fun h => ?_) | refine cond_intro rfl ?_ | (refine cond_intro ⟨rfl, ?_⟩ ?_; (first | omega | (dsimp only; omega) | decide)) | (refine cond_intro ?_ ?_; (first | omega | (dsimp only; omega) | decide | (simp only [Nat.add_zero, Int.toNat_natCast, *]; omega))))
                all_goals (conv => whnf)
                all_goals first
                  | exact ret_out (l := [0, 1]) rfl rfl trivial allRw_nil
                  | (exfalso; omega)
              | true =>
                have e3 : rE L k = 0 := by unfold rE; rw [h1, h2, h3, h4]; rfl
                rw [h4] at c3
                repeat' ((conv => whnf); first | (refine vcall_pure (c1) rfl rfl rfl ?_) | (refine vcallD_pure (c1) rfl rfl rfl ?_) | (refine vcall_pure (c2) rfl rfl rfl ?_) | (refine vcallD_pure (c2) rfl rfl rfl ?_) | (refine vcall_pure (c3) rfl rfl rfl ?_) | (refine vcallD_pure (c3) rfl rfl rfl ?_) | (refine br_intro (fun h => absurd ((congrArg (fun z => !z) h2).symm.trans h) (by decide)) (fun h => ?_)) | (refine br_dec (fun h => ?_) (fun h => ?_) <;> try (exfalso; (try dsimp only at h); omega)) | (refine br_ndec (fun h => ?_) (fun h => ?_) <;> try (exfalso; (try dsimp only at h); omega)) | refine br_seq (fun h => ?_) (fun h => ?_) | refine br_nseq (fun h => ?_) (fun h => ?_) | refine br_not (fun h => ?_) (fun h => ?_) | refine br_intro (fun h => ?_) (fun h => ?_) | refine cond_intro rfl ?_ | (refine cond_intro ⟨rfl, ?_⟩ ?_; (first | omega | (dsimp only; omega) | decide)) | (refine cond_intro ?_ ?_; (first | omega | (dsimp only; omega) | decide | (simp only [Nat.add_zero, Int.toNat_natCast, *]; omega))))
                all_goals (conv => whnf)
                all_goals first
                  | exact ⟨k + 1, [0, 1], [], ⟨by omega, by simp only [exA, if_pos hc]; exact e3⟩, by omega, ⟨rfl, ⟨rfl, rfl, rfl, congrArg (fun z => some (SV.int .i64 z)) (i64_succ (by omega)), trivial⟩, ⟨rfl, trivial⟩⟩⟩
                  | (exfalso; omega)
      · have e : k = L.n := by omega
        subst e
        exact absurd hc hA
    · have hA' : exA L L.n = 0 := Classical.not_not.1 hA
      rw [if_neg hA, if_neg hA]
      refine fc_of mixed T_ok Try.func28 rfl (by kernel_rfl) (by kernel_rfl) (by kernel_rfl) ?_
      repeat' ((conv => whnf); first | (refine br_dec (fun h => ?_) (fun h => ?_) <;> try (exfalso; (try dsimp only at h); omega)) | (refine br_ndec (fun h => ?_) (fun h => ?_) <;> try (exfalso; (try dsimp only at h); omega)) | refine br_seq (fun h => ?_) (fun h => ?_) | refine br_nseq (fun h => ?_) (fun h => ?_) | refine br_not (fun h => ?_) (fun h => ?_) | refine br_intro (fun h => ?_) (fun h => ?_) | refine cond_intro rfl ?_ | (refine cond_intro ⟨rfl, ?_⟩ ?_; (first | omega | (dsimp only; omega) | decide)) | (refine cond_intro ?_ ?_; (first | omega | (dsimp only; omega) | decide | (simp only [Nat.add_zero, Int.toNat_natCast, *]; omega))))
      all_goals (conv => whnf)
      refine vloop_of (fun k : Nat => ⟨[(0, .sl 1 0 0 L.n), (13, .sl 1 0 0 L.n), (14, .int .i64 L.n), (15, .int .i64 k)], [(1, some (rgB L))], 2⟩) (fun k => k ≤ L.n ∧ exA L k = 0) (fun k => L.n - k) 0 [0, 1] [] ⟨rfl, ⟨rfl, rfl, rfl, rfl, trivial⟩, ⟨rfl, trivial⟩⟩ ⟨by omega, rfl⟩ ?_
      rintro k ⟨hk, hc⟩
      have c1 := bin_formed (L.l k) (L.h k) (L.s k) (L.p k)
      have c2 := lex_IsName (L.s k)
      have c3 := lex_IsName (L.p k)
      by_cases hk2 : k < L.n
      · have e3 := exA_zero _ hA' hk2
        have h1 : fmB (L.l k) (L.h k) = true := by
          cases h : fmB (L.l k) (L.h k) with
          | true => rfl
          | false => unfold rE at e3; rw [h] at e3; simp at e3
        have h2 : sle (L.l k) (L.h k) = true := by
          cases h : sle (L.l k) (L.h k) with
          | true => rfl
          | false => unfold rE at e3; rw [h1, h] at e3; simp at e3
        have h34 : (nmB (L.s k) && nmB (L.p k)) = true := by
          cases h : (nmB (L.s k) && nmB (L.p k)) with
          | true => rfl
          | false => unfold rE at e3; rw [h1, h2, h] at e3; simp at e3
        simp only [Bool.and_eq_true] at h34
        obtain ⟨h3, h4⟩ := h34
        rw [h1] at c1
        rw [h3] at c2
        rw [h4] at c3
        repeat' ((conv => whnf); first | (refine vcall_pure (c1) rfl rfl rfl ?_) | (refine vcallD_pure (c1) rfl rfl rfl ?_) | (refine vcall_pure (c2) rfl rfl rfl ?_) | (refine vcallD_pure (c2) rfl rfl rfl ?_) | (refine vcall_pure (c3) rfl rfl rfl ?_) | (refine vcallD_pure (c3) rfl rfl rfl ?_) | (refine br_intro (fun h => absurd ((congrArg (fun z => !z) h2).symm.trans h) (by decide)) (fun h => ?_)) | (refine br_dec (fun h => ?_) (fun h => ?_) <;> try (exfalso; (try dsimp only at h); omega)) | (refine br_ndec (fun h => ?_) (fun h => ?_) <;> try (exfalso; (try dsimp only at h); omega)) | refine br_seq (fun h => ?_) (fun h => ?_) | refine br_nseq (fun h => ?_) (fun h => ?_) | refine br_not (fun h => ?_) (fun h => ?_) | refine br_intro (fun h => ?_) (fun h => ?_) | refine cond_intro rfl ?_ | (refine cond_intro ⟨rfl, ?_⟩ ?_; (first | omega | (dsimp only; omega) | decide)) | (refine cond_intro ?_ ?_; (first | omega | (dsimp only; omega) | decide | (simp only [Nat.add_zero, Int.toNat_natCast, *]; omega))))
        all_goals (conv => whnf)
        all_goals first
          | exact ⟨k + 1, [0, 1], [], ⟨by omega, by simp only [exA, if_pos hc]; exact e3⟩, by omega, ⟨rfl, ⟨rfl, rfl, rfl, congrArg (fun z => some (SV.int .i64 z)) (i64_succ (by omega)), trivial⟩, ⟨rfl, trivial⟩⟩⟩
          | (exfalso; omega)
      · have e : k = L.n := by omega
        subst e
        clear c1 c2 c3 hk hc hk2
        repeat' ((conv => whnf); first | (refine br_dec (fun h => ?_) (fun h => ?_) <;> try (exfalso; (try dsimp only at h); omega)) | (refine br_ndec (fun h => ?_) (fun h => ?_) <;> try (exfalso; (try dsimp only at h); omega)) | refine br_seq (fun h => ?_) (fun h => ?_) | refine br_nseq (fun h => ?_) (fun h => ?_) | refine br_not (fun h => ?_) (fun h => ?_) | refine br_intro (fun h => ?_) (fun h => ?_) | refine cond_intro rfl ?_ | (refine cond_intro ⟨rfl, ?_⟩ ?_; (first | omega | (dsimp only; omega) | decide)) | (refine cond_intro ?_ ?_; (first | omega | (dsimp only; omega) | decide | (simp only [Nat.add_zero, Int.toNat_natCast, *]; omega))))
        all_goals (conv => whnf)
        refine vloop_of (fun i : Nat => ⟨[(0, .sl 1 0 0 L.n), (42, .sl 1 0 0 L.n), (43, .int .i64 L.n), (44, .int .i64 i)], [(1, some (rgB L))], 2⟩) (fun i => i ≤ L.n ∧ exB L i = false) (fun i => L.n - i) 0 [0, 1] [] ⟨rfl, ⟨rfl, rfl, rfl, rfl, trivial⟩, ⟨rfl, trivial⟩⟩ ⟨by omega, rfl⟩ ?_
        rintro i ⟨hi, hb⟩
        by_cases hi2 : i < L.n
        · repeat' ((conv => whnf); first | (refine br_dec (fun h => ?_) (fun h => ?_) <;> try (exfalso; (try dsimp only at h); omega)) | (refine br_ndec (fun h => ?_) (fun h => ?_) <;> try (exfalso; (try dsimp only at h); omega)) | refine br_seq (fun h => ?_) (fun h => ?_) | refine br_nseq (fun h => ?_) (fun h => ?_) | refine br_not (fun h => ?_) (fun h => ?_) | refine br_intro (fun h => ?_) (fun h => ?_) | refine cond_intro rfl ?_ | (refine cond_intro ⟨rfl, ?_⟩ ?_; (first | omega | (dsimp only; omega) | decide)) | (refine cond_intro ?_ ?_; (first | omega | (dsimp only; omega) | decide | (simp only [Nat.add_zero, Int.toNat_natCast, *]; omega))))
          all_goals (conv => whnf)
          refine vloop_of (fun j : Nat => ⟨[(0, .sl 1 0 0 L.n), (42, .sl 1 0 0 L.n), (43, .int .i64 L.n), (44, .int .i64 i), (6, .int .i64 i), (7, .ptr 2 0 0 0), (51, .sl 1 0 0 i), (52, .int .i64 i), (53, .int .i64 j)], [(2, some (.one false (.cells [.str (L.l i), .str (L.h i), .str (L.s i), .str (L.p i)]))), (1, some (rgB L))], 3⟩) (fun j => j ≤ i ∧ ovTo L i j = false) (fun j => i - j) 0 [0, 1, 2] [] ⟨rfl, ⟨rfl, rfl, rfl, rfl, rfl, rfl, rfl, rfl, rfl, trivial⟩, ⟨rfl, rfl, trivial⟩⟩ ⟨by omega, rfl⟩ ?_
          rintro j ⟨hj, ho⟩
          have co := bin_Overlap (L.l i) (L.h i) (L.s i) (L.p i) (L.l j) (L.h j) (L.s j) (L.p j)
          by_cases hj2 : j < i
          · by_cases hz : (L.l i).size = (L.l j).size
            · cases hov : ovB (L.l i) (L.h i) (L.l j) (L.h j) with
              | true =>
                have hP : ovP L i j = true := by unfold ovP; rw [decide_eq_true hz, hov]; rfl
                obtain ⟨e1, e2⟩ := exB_stop hb (ovTo_stop hP _ hj2) _ hi2
                rw [hov] at co
                rw [if_pos e1, if_pos e1, e2]
                repeat' ((conv => whnf); first | (refine vcall_pure (co) rfl rfl rfl ?_) | (refine vcallD_pure (co) rfl rfl rfl ?_) | (refine br_dec (fun h => ?_) (fun h => absurd (congrArg (fun z : Nat => (z : Int)) hz) h)) | (refine br_dec (fun h => ?_) (fun h => ?_) <;> try (exfalso; (try dsimp only at h); omega)) | (refine br_ndec (fun h => ?_) (fun h => ?_) <;> try (exfalso; (try dsimp only at h); omega)) | refine br_seq (fun h => ?_) (fun h => ?_) | refine br_nseq (fun h => ?_) (fun h => ?_) | refine br_not (fun h => ?_) (fun h => ?_) | refine br_intro (fun h => ?_) (fun h => ?_) | refine cond_intro rfl ?_ | (refine cond_intro ⟨rfl, ?_⟩ ?_; (first | omega | (dsimp only; omega) | decide)) | (refine cond_intro ?_ ?_; (first | omega | (dsimp only; omega) | decide | (simp only [Nat.add_zero, Int.toNat_natCast, *]; omega))))
                all_goals (conv => whnf)
                all_goals first
                  | exact ret_out (l := [0, 1]) rfl rfl trivial allRw_nil
                  | (exfalso; omega)
              | false =>
                have hP : ovP L i j = false := by unfold ovP; rw [hov, Bool.and_false]
                rw [hov] at co
                repeat' ((conv => whnf); first | (refine vcall_pure (co) rfl rfl rfl ?_) | (refine vcallD_pure (co) rfl rfl rfl ?_) | (refine br_dec (fun h => ?_) (fun h => absurd (congrArg (fun z : Nat => (z : Int)) hz) h)) | (refine br_dec (fun h => ?_) (fun h => ?_) <;> try (exfalso; (try dsimp only at h); omega)) | (refine br_ndec (fun h => ?_) (fun h => ?_) <;> try (exfalso; (try dsimp only at h); omega)) | refine br_seq (fun h => ?_) (fun h => ?_) | refine br_nseq (fun h => ?_) (fun h => ?_) | refine br_not (fun h => ?_) (fun h => ?_) | refine br_intro (fun h => ?_) (fun h => ?_) | refine cond_intro rfl ?_ | (refine cond_intro ⟨rfl, ?_⟩ ?_; (first | omega | (dsimp only; omega) | decide)) | (refine cond_intro ?_ ?_; (first | omega | (dsimp only; omega) | decide | (simp only [Nat.add_zero, Int.toNat_natCast, *]; omega))))
                all_goals (conv => whnf)
                all_goals first
                  | exact ⟨j + 1, [0, 1, 2], [], ⟨by omega, by simp only [ovTo, ho, hP]; rfl⟩, by omega, ⟨rfl, ⟨rfl, rfl, rfl, rfl, rfl, rfl, rfl, rfl, congrArg (fun z => some (SV.int .i64 z)) (i64_succ (by omega)), trivial⟩, ⟨rfl, rfl, trivial⟩⟩⟩
                  | (exfalso; omega)
            · have hP : ovP L i j = false := by unfold ovP; rw [decide_eq_false hz]; rfl
              have hz' : ¬ ((L.l i).size : Int) = ((L.l j).size : Int) := fun h => hz (by omega)
              repeat' ((conv => whnf); first | (refine br_dec (fun h => absurd h hz') (fun h => ?_)) | (refine br_dec (fun h => ?_) (fun h => ?_) <;> try (exfalso; (try dsimp only at h); omega)) | (refine br_ndec (fun h => ?_) (fun h => ?_) <;> try (exfalso; (try dsimp only at h); omega)) | refine br_seq (fun h => ?_) (fun h => ?_) | refine br_nseq (fun h => ?_) (fun h => ?_) | refine br_not (fun h => ?_) (fun h => ?_) | refine br_intro (fun h => ?_) (fun h => ?_) | refine cond_intro rfl ?_ | (refine cond_intro ⟨rfl, ?_⟩ ?_; (first | omega | (dsimp only; omega) | decide)) | (refine cond_intro ?_ ?_; (first | omega | (dsimp only; omega) | decide | (simp only [Nat.add_zero, Int.toNat_natCast, *]; omega))))
              all_goals (conv => whnf)
              all_goals first
                | exact ⟨j + 1, [0, 1, 2], [], ⟨by omega, by simp only [ovTo, ho, hP]; rfl⟩, by omega, ⟨rfl, ⟨rfl, rfl, rfl, rfl, rfl, rfl, rfl, rfl, congrArg (fun z => some (SV.int .i64 z)) (i64_succ (by omega)), trivial⟩, ⟨rfl, rfl, trivial⟩⟩⟩
                | (exfalso; omega)
          · have e : j = i := by omega
            subst e
            clear co
            repeat' ((conv => whnf); first | (refine br_dec (fun h => ?_) (fun h => ?_) <;> try (exfalso; (try dsimp only at h); omega)) | (refine br_ndec (fun h => ?_) (fun h => ?_) <;> try (exfalso; (try dsimp only at h); omega)) | refine br_seq (fun h => ?_) (fun h => ?_) | refine br_nseq (fun h => ?_) (fun h => ?_) | refine br_not (fun h => ?_) (fun h => ?_) | refine br_intro (fun h => ?_) (fun h => ?_) | refine cond_intro rfl ?_ | (refine cond_intro ⟨rfl, ?_⟩ ?_; (first | omega | (dsimp only; omega) | decide)) | (refine cond_intro ?_ ?_; (first | omega | (dsimp only; omega) | decide | (simp only [Nat.add_zero, Int.toNat_natCast, *]; omega))))
            all_goals (conv => whnf)
            all_goals first
              | exact ⟨j + 1, [0, 1], [], ⟨by omega, by simp only [exB, hb, ho]; rfl⟩, by omega, ⟨rfl, ⟨rfl, rfl, rfl, congrArg (fun z => some (SV.int .i64 z)) (i64_succ (by omega)), trivial⟩, ⟨rfl, trivial⟩⟩⟩
              | (exfalso; omega)
        · have e : i = L.n := by omega
          subst e
          rw [hb]
          repeat' ((conv => whnf); first | (refine br_dec (fun h => ?_) (fun h => ?_) <;> try (exfalso; (try dsimp only at h); omega)) | (refine br_ndec (fun h => ?_) (fun h => ?_) <;> try (exfalso; (try dsimp only at h); omega)) | refine br_seq (fun h => ?_) (fun h => ?_) | refine br_nseq (fun h => ?_) (fun h => ?_) | refine br_not (fun h => ?_) (fun h => ?_) | refine br_intro (fun h => ?_) (fun h => ?_) | refine cond_intro rfl ?_ | (refine cond_intro ⟨rfl, ?_⟩ ?_; (first | omega | (dsimp only; omega) | decide)) | (refine cond_intro ?_ ?_; (first | omega | (dsimp only; omega) | decide | (simp only [Nat.add_zero, Int.toNat_natCast, *]; omega))))
          all_goals (conv => whnf)
          all_goals first
            | exact ret_out (l := [0, 1]) rfl rfl trivial allRw_nil
            | (exfalso; omega)

end Go.Proofs.Ytkmbnniikncaiaa
