/- Contracts of package link: faults. -/
import Derived.Test.YtpconbdoackcfaaYPlain
import Derived.Test.YtpconbdoackcfaaYNil
import Derived.Test.YtpconbdoackcfaaTab
namespace Go.Proofs.Ytpconbdoackcfaa
open Go.RowKit Go.Sy
attribute [local irreducible] vcall vloop vcallD retP
set_option maxRecDepth 100000
set_option linter.unusedVariables false
set_option linter.unusedSimpArgs false

theorem i64_succ {k : Nat} (h : k < 9223372036854775806) : IntKind.i64.wrap ((k : Int) + 1) = ((k + 1 : Nat) : Int) := by rw [w64_in (by omega) (by omega)]; rfl

/-- The error of a fault. -/
def ckE (p k a b f u e : Int) : Int := if p < 1 ∨ 16 < p ∨ k < 1 ∨ 4 < k then 4 else if a < 0 ∨ p ≤ a ∨ b < 0 ∨ p ≤ b ∨ a = b then 4 else if e < 0 ∨ (k = 2 ∨ k = 3) ∧ 100000 < e ∨ ¬ (k = 2 ∨ k = 3) ∧ 0 < e then 4 else if f < 0 ∨ u < f ∨ 1099511627776 < u then 14 else 0
theorem lk_Check (p k a b f u e : Int) : Pure Try.prog 13 [.int .i64 p, .agg [.int .i64 k, .int .i64 a, .int .i64 b, .int .i64 f, .int .i64 u, .int .i64 e]] (.int .i64 (ckE p k a b f u e)) := by
  refine fc_of mixed T_ok Try.func13 rfl (by kernel_rfl) (by kernel_rfl) (by kernel_rfl) ?_
  repeat' ((conv => whnf); first | (refine br_dec (fun h => ?_) (fun h => ?_) <;> try (exfalso; (try dsimp only at h); omega)) | (refine br_ndec (fun h => ?_) (fun h => ?_) <;> try (exfalso; (try dsimp only at h); omega)) | refine br_seq (fun h => ?_) (fun h => ?_) | refine br_nseq (fun h => ?_) (fun h => ?_) | refine br_not (fun h => ?_) (fun h => ?_) | refine br_intro (fun h => ?_) (fun h => ?_) | refine cond_intro rfl ?_ | (refine cond_intro ⟨rfl, ?_⟩ ?_; (first | omega | (dsimp only; omega) | decide)) | (refine cond_intro ?_ ?_; (first | omega | (dsimp only; omega) | decide | (simp only [Nat.add_zero, Int.toNat_natCast, *]; omega))))
  all_goals (conv => whnf)
  all_goals first
    | (have e0 : ckE p k a b f u e = 4 := (by unfold ckE; (repeat (first | rw [if_pos (by omega)] | rw [if_neg (by omega)] | rw [if_pos (by assumption)] | rw [if_neg (by assumption)] | rw [if_neg (bnf (by assumption))]))); rw [e0]; exact ret_pure rfl)
    | (have e0 : ckE p k a b f u e = 14 := (by unfold ckE; (repeat (first | rw [if_pos (by omega)] | rw [if_neg (by omega)] | rw [if_pos (by assumption)] | rw [if_neg (by assumption)] | rw [if_neg (bnf (by assumption))]))); rw [e0]; exact ret_pure rfl)
    | (have e0 : ckE p k a b f u e = 0 := (by unfold ckE; (repeat (first | rw [if_pos (by omega)] | rw [if_neg (by omega)] | rw [if_pos (by assumption)] | rw [if_neg (by assumption)] | rw [if_neg (bnf (by assumption))]))); rw [e0]; exact ret_pure rfl)
    | (exfalso; omega)
/-- Whether a fault is in force. -/
def ifB (f u t : Int) : Bool := decide (f ≤ t ∧ t < u)
theorem lk_inForce (k a b f u e t : Int) : Pure Try.prog 33 [.agg [.int .i64 k, .int .i64 a, .int .i64 b, .int .i64 f, .int .i64 u, .int .i64 e], .int .i64 t] (.bool (ifB f u t)) := by
  unfold ifB
  refine fc_of mixed T_ok Try.func33 rfl (by kernel_rfl) (by kernel_rfl) (by kernel_rfl) ?_
  repeat' ((conv => whnf); first | (refine br_dec (fun h => ?_) (fun h => ?_) <;> try (exfalso; (try dsimp only at h); omega)) | (refine br_ndec (fun h => ?_) (fun h => ?_) <;> try (exfalso; (try dsimp only at h); omega)) | refine br_seq (fun h => ?_) (fun h => ?_) | refine br_nseq (fun h => ?_) (fun h => ?_) | refine br_not (fun h => ?_) (fun h => ?_) | refine br_intro (fun h => ?_) (fun h => ?_) | refine cond_intro rfl ?_ | (refine cond_intro ⟨rfl, ?_⟩ ?_; (first | omega | (dsimp only; omega) | decide)) | (refine cond_intro ?_ ?_; (first | omega | (dsimp only; omega) | decide | (simp only [Nat.add_zero, Int.toNat_natCast, *]; omega))))
  all_goals (conv => whnf)
  all_goals exact ret_pure (by show SV.bool _ = SV.bool _; congr 1; (first | exact (decide_eq_true (by omega)).symm | exact (decide_eq_false (by omega)).symm | exact decide_eq_decide.2 (by omega)))
/-- Whether a fault concerns a transmission. -/
def cnB (k a b x y : Int) : Bool := decide (a = x ∧ b = y ∨ k = 4 ∧ a = y ∧ b = x)
theorem lk_concerns (k a b f u e x y : Int) : Pure Try.prog 34 [.agg [.int .i64 k, .int .i64 a, .int .i64 b, .int .i64 f, .int .i64 u, .int .i64 e], .int .i64 x, .int .i64 y] (.bool (cnB k a b x y)) := by
  unfold cnB
  refine fc_of mixed T_ok Try.func34 rfl (by kernel_rfl) (by kernel_rfl) (by kernel_rfl) ?_
  repeat' ((conv => whnf); first | (refine br_dec (fun h => ?_) (fun h => ?_) <;> try (exfalso; (try dsimp only at h); omega)) | (refine br_ndec (fun h => ?_) (fun h => ?_) <;> try (exfalso; (try dsimp only at h); omega)) | refine br_seq (fun h => ?_) (fun h => ?_) | refine br_nseq (fun h => ?_) (fun h => ?_) | refine br_not (fun h => ?_) (fun h => ?_) | refine br_intro (fun h => ?_) (fun h => ?_) | refine cond_intro rfl ?_ | (refine cond_intro ⟨rfl, ?_⟩ ?_; (first | omega | (dsimp only; omega) | decide)) | (refine cond_intro ?_ ?_; (first | omega | (dsimp only; omega) | decide | (simp only [Nat.add_zero, Int.toNat_natCast, *]; omega))))
  all_goals (conv => whnf)
  all_goals exact ret_pure (by show SV.bool _ = SV.bool _; congr 1; (first | exact (decide_eq_true (by omega)).symm | exact (decide_eq_false (by omega)).symm | exact decide_eq_decide.2 (by omega)))

/-- Faults, by columns. -/
structure Fa where
  n : Nat
  k : List Int
  a : List Int
  b : List Int
  f : List Int
  u : List Int
  e : List Int
structure Fa.Ok (F : Fa) : Prop where
  k : F.k.length = F.n
  a : F.a.length = F.n
  b : F.b.length = F.n
  f : F.f.length = F.n
  u : F.u.length = F.n
  e : F.e.length = F.n
def faB (ro : Bool) (F : Fa) : HB := .one ro (.cols F.n [.sc (.ints .i64 F.k), .sc (.ints .i64 F.a), .sc (.ints .i64 F.b), .sc (.ints .i64 F.f), .sc (.ints .i64 F.u), .sc (.ints .i64 F.e)])
def Fa.err (F : Fa) (p : Int) (i : Nat) : Int := ckE p (F.k.getD i 0) (F.a.getD i 0) (F.b.getD i 0) (F.f.getD i 0) (F.u.getD i 0) (F.e.getD i 0)
def Fa.errs (F : Fa) (p : Int) : Nat → Int
  | 0 => 0
  | k + 1 => if F.errs p k ≠ 0 then F.errs p k else F.err p k
theorem errs_stop {F : Fa} {p : Int} {k : Nat} (h0 : F.errs p k = 0) (h1 : F.err p k ≠ 0) : ∀ n, k < n → F.errs p n = F.err p k
  | 0, hh => by omega
  | n + 1, hh => by
    simp only [Fa.errs]
    by_cases e : k = n
    · subst e; rw [h0, if_neg (by decide)]
    · rw [errs_stop h0 h1 n (by omega), if_pos h1]
theorem errs_zero {F : Fa} {p : Int} {k : Nat} : ∀ n, F.errs p n = 0 → k < n → F.err p k = 0
  | 0, _, hh => by omega
  | n + 1, h, hh => by
    simp only [Fa.errs] at h
    by_cases e : F.errs p n ≠ 0
    · rw [if_pos e] at h; exact absurd h e
    · rw [if_neg e] at h
      by_cases e2 : k = n
      · subst e2; exact h
      · exact errs_zero n (Classical.not_not.1 e) (by omega)
def lnE (p l : Int) (F : Fa) : Int := if p < 1 ∨ 16 < p ∨ l < 1 ∨ 1000 < l then 4 else if 32 < F.n then 3 else F.errs p F.n

theorem seg_all {α : Type} {l : List α} {n : Nat} (h : l.length = n) : seg 0 n l = l := by
  unfold seg; rw [List.drop_zero, List.take_of_length_le (by omega)]
theorem fa_Clone (F : Fa) (hn : F.n ≤ 1000000) (ho : F.Ok) : FC Try.prog 2 24 [.sl 1 0 0 F.n] [(1, some (faB true F))] (isOut (.sl 2 0 0 F.n) [(2, some (faB false F))] 3) := by
  obtain ⟨h1, h2, h3, h4, h5, h6⟩ := ho
  obtain ⟨n, k, a, b, f, u, e⟩ := F
  unfold faB
  dsimp only at *
  cases n with
  | zero =>
    obtain rfl := List.eq_nil_of_length_eq_zero h1
    obtain rfl := List.eq_nil_of_length_eq_zero h2
    obtain rfl := List.eq_nil_of_length_eq_zero h3
    obtain rfl := List.eq_nil_of_length_eq_zero h4
    obtain rfl := List.eq_nil_of_length_eq_zero h5
    obtain rfl := List.eq_nil_of_length_eq_zero h6
    refine fc_nil rfl ?_
    refine fc_of mixed T_ok Try.func24 rfl (by kernel_rfl) (by kernel_rfl) (by kernel_rfl) ?_
    repeat' ((conv => whnf); first | (refine br_dec (fun h => ?_) (fun h => ?_) <;> try (exfalso; (try dsimp only at h); omega)) | (refine br_ndec (fun h => ?_) (fun h => ?_) <;> try (exfalso; (try dsimp only at h); omega)) | refine br_seq (fun h => ?_) (fun h => ?_) | refine br_nseq (fun h => ?_) (fun h => ?_) | refine br_not (fun h => ?_) (fun h => ?_) | refine br_intro (fun h => ?_) (fun h => ?_) | refine cond_intro rfl ?_ | (refine cond_intro ⟨rfl, ?_⟩ ?_; (first | omega | (dsimp only; omega) | decide)) | (refine cond_intro ?_ ?_; (first | omega | (dsimp only; omega) | decide | (simp only [Nat.add_zero, Int.toNat_natCast, *]; omega))) | (refine And.intro ?_ ?_))
    all_goals (conv => whnf)
    all_goals first
      | exact retP_mono (fun _ _ _ h => .inl h) (ret_out (l := [0, 1]) rfl rfl trivial allRw_nil)
      | exact retP_mono (fun _ _ _ h => .inr h) (ret_out (l := [0, 1, 3]) rfl rfl ⟨rfl, trivial⟩ (allRw_cons allRw_nil))
      | decide
  | succ n =>
    refine fc_of mixed T_ok Try.func24 rfl (by kernel_rfl) (by kernel_rfl) (by kernel_rfl) ?_
    repeat' ((conv => whnf); first | (refine br_dec (fun h => ?_) (fun h => ?_) <;> try (exfalso; (try dsimp only at h); omega)) | (refine br_ndec (fun h => ?_) (fun h => ?_) <;> try (exfalso; (try dsimp only at h); omega)) | refine br_seq (fun h => ?_) (fun h => ?_) | refine br_nseq (fun h => ?_) (fun h => ?_) | refine br_not (fun h => ?_) (fun h => ?_) | refine br_intro (fun h => ?_) (fun h => ?_) | refine cond_intro rfl ?_ | (refine cond_intro ⟨rfl, ?_⟩ ?_; (first | omega | (dsimp only; omega) | decide)) | (refine cond_intro ?_ ?_; (first | omega | (dsimp only; omega) | decide | (simp only [Nat.add_zero, Int.toNat_natCast, *]; omega))))
    all_goals (conv => whnf)
    all_goals (rw [Nat.zero_add (n + 1), seg_all h1, seg_all h2, seg_all h3, seg_all h4, seg_all h5, seg_all h6]; exact ret_out (l := [0, 1, 3]) rfl rfl ⟨rfl, trivial⟩ (allRw_cons allRw_nil))
end Go.Proofs.Ytpconbdoackcfaa
