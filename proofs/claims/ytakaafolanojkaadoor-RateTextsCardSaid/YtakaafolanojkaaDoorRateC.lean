/- Contracts of package rate, and of the reference's: checks, fractions in lowest terms. -/
import Derived.Test.YtakaafolanojkaaDoorMoneyC2
namespace Go.Proofs.YtakaafolanojkaaDoor
open Go.RowKit Go.Sy
attribute [local irreducible] vcall vloop vcallD retP
set_option maxRecDepth 100000
set_option linter.unusedVariables false

theorem rate_isCurrency (s : ByteArray) : Glob Tryd.prog glT 13 [.str s] (.bool (curB s)) := by
  refine fc_of mixed T_ok Tryd.func13 rfl (by kernel_rfl) (by kernel_rfl) (by kernel_rfl) ?_
  repeat' ((conv => whnf); first | (refine vcall_glob (money_Exponent _) rfl rfl rfl rfl ?_) | (refine br_dec (fun h => ?_) (fun h => ?_) <;> try (exfalso; (try dsimp only at h); omega)) | (refine br_ndec (fun h => ?_) (fun h => ?_) <;> try (exfalso; (try dsimp only at h); omega)) | refine br_seq (fun h => ?_) (fun h => ?_) | refine br_nseq (fun h => ?_) (fun h => ?_) | refine br_not (fun h => ?_) (fun h => ?_) | refine br_intro (fun h => ?_) (fun h => ?_) | refine cond_intro rfl ?_ | (refine cond_intro ⟨rfl, ?_⟩ ?_; (first | omega | (dsimp only; omega) | decide)) | (refine cond_intro ?_ ?_; (first | omega | (dsimp only; omega) | decide | (simp only [Nat.add_zero, Int.toNat_natCast, *]; omega))))
  all_goals (conv => whnf)
  all_goals exact ret_pure rfl

/-- The error of a rate. -/
def rchk (f t : ByteArray) (n d : Int) : Int :=
  if curB f = false ∨ curB t = false ∨ f = t then 11 else if n < 1 ∨ 1099511627776 < n ∨ d < 1 ∨ 1099511627776 < d then 4 else 0
theorem rchk_or (f t : ByteArray) (n d : Int) : rchk f t n d = 11 ∨ rchk f t n d = 4 ∨ (rchk f t n d = 0 ∧ curB f = true ∧ curB t = true ∧ f ≠ t ∧ 1 ≤ n ∧ n ≤ 1099511627776 ∧ 1 ≤ d ∧ d ≤ 1099511627776) := by
  unfold rchk
  split
  · exact .inl rfl
  · split
    · exact .inr (.inl rfl)
    · rename_i h1 h2
      refine .inr (.inr ⟨rfl, ?_, ?_, ?_, ?_⟩)
      · cases h : curB f <;> simp_all
      · cases h : curB t <;> simp_all
      · intro h; exact h1 (.inr (.inr h))
      · omega
theorem rchk_ok {f t : ByteArray} {n d : Int} (h : rchk f t n d = 0) : curB f = true ∧ curB t = true ∧ f ≠ t ∧ 1 ≤ n ∧ n ≤ 1099511627776 ∧ 1 ≤ d ∧ d ≤ 1099511627776 := by
  rcases rchk_or f t n d with e | e | e
  · omega
  · omega
  · exact e.2
attribute [irreducible] rchk

def rateS (f t : ByteArray) (n d : Int) : SV := .agg [.str f, .str t, .int .i64 n, .int .i64 d]

theorem rate_Check (f t : ByteArray) (n d : Int) : Glob Tryd.prog glT 6 [.agg [.str f, .str t, .int .i64 n, .int .i64 d]] (.int .i64 (rchk f t n d)) := by
  refine fc_of mixed T_ok Tryd.func6 rfl (by kernel_rfl) (by kernel_rfl) (by kernel_rfl) ?_
  repeat' ((conv => whnf); first | (refine vcall_glob (rate_isCurrency _) rfl rfl rfl rfl ?_) | (refine br_dec (fun h => ?_) (fun h => ?_) <;> try (exfalso; (try dsimp only at h); omega)) | (refine br_ndec (fun h => ?_) (fun h => ?_) <;> try (exfalso; (try dsimp only at h); omega)) | refine br_seq (fun h => ?_) (fun h => ?_) | refine br_nseq (fun h => ?_) (fun h => ?_) | refine br_not (fun h => ?_) (fun h => ?_) | refine br_intro (fun h => ?_) (fun h => ?_) | refine cond_intro rfl ?_ | (refine cond_intro ⟨rfl, ?_⟩ ?_; (first | omega | (dsimp only; omega) | decide)) | (refine cond_intro ?_ ?_; (first | omega | (dsimp only; omega) | decide | (simp only [Nat.add_zero, Int.toNat_natCast, *]; omega))))
  all_goals (conv => whnf)
  all_goals refine ret_pure ?_
  all_goals simp only [oneOr, cv, rchk, SV.int.injEq, true_and]
  all_goals first
    | (rw [if_pos (by simp_all)]; done)
    | (rw [if_neg (by simp_all), if_pos (by omega)]; done)
    | (rw [if_neg (by simp_all), if_neg (by omega)]; done)

/-- The greatest common divisor. -/
def gcdI (a b : Int) : Int := (Nat.gcd a.toNat b.toNat : Nat)
attribute [irreducible] gcdI
theorem gcdI_step {a b : Int} (ha : 0 ≤ a) (hb : 1 ≤ b) : gcdI b (a.tmod b) = gcdI a b := by
  unfold gcdI
  rw [Int.tmod_eq_emod_of_nonneg ha, Int.toNat_emod ha (by omega), Nat.gcd_comm a.toNat, Nat.gcd_rec b.toNat a.toNat]
  rw [Nat.gcd_comm (a.toNat % b.toNat)]
theorem gcdI_zero {a : Int} (ha : 0 ≤ a) : gcdI a 0 = a := by unfold gcdI; simp; omega

theorem rate_divisor (a b : Int) (ha : 1 ≤ a) (hb : 1 ≤ b) : Pure Tryd.prog 18 [.int .i64 a, .int .i64 b] (.int .i64 (gcdI a b)) := by
  refine fc_of mixed T_ok Tryd.func18 rfl (by kernel_rfl) (by kernel_rfl) (by kernel_rfl) ?_
  (conv => whnf)
  refine vloop_of (fun x : Int × Int => ⟨[(0, .int .i64 x.1), (1, .int .i64 x.2)], [], 1⟩) (fun x => 0 ≤ x.1 ∧ 0 ≤ x.2 ∧ gcdI x.1 x.2 = gcdI a b) (fun x => x.2.toNat) (a, b) [0] [] ⟨rfl, ⟨rfl, rfl, trivial⟩, trivial⟩ ⟨by omega, by omega, rfl⟩ ?_
  rintro ⟨x, y⟩ ⟨hx, hy, hg⟩
  dsimp only at *
  repeat' ((conv => whnf); first | (refine br_dec (fun h => ?_) (fun h => ?_) <;> try (exfalso; (try dsimp only at h); omega)) | (refine br_ndec (fun h => ?_) (fun h => ?_) <;> try (exfalso; (try dsimp only at h); omega)) | refine br_seq (fun h => ?_) (fun h => ?_) | refine br_nseq (fun h => ?_) (fun h => ?_) | refine br_not (fun h => ?_) (fun h => ?_) | refine br_intro (fun h => ?_) (fun h => ?_) | refine cond_intro rfl ?_ | (refine cond_intro ⟨rfl, ?_⟩ ?_; (first | omega | (dsimp only; omega) | decide)) | (refine cond_intro ?_ ?_; (first | omega | (dsimp only; omega) | decide | (simp only [Nat.add_zero, Int.toNat_natCast, *]; omega))))
  all_goals (conv => whnf)
  · have h1 := Int.tmod_nonneg y hx
    have h2 := Int.tmod_lt_of_pos x (b := y) (by omega)
    exact ⟨(y, x.tmod y), [0], [], ⟨hy, h1, by rw [gcdI_step hx (by omega), hg]⟩, by dsimp only; omega, ⟨rfl, ⟨rfl, rfl, trivial⟩, trivial⟩⟩
  · have e : y = 0 := by omega
    subst e
    rw [gcdI_zero hx] at hg
    exact ret_pure (by rw [← hg]; rfl)

theorem gcdI_pos {a b : Int} (ha : 1 ≤ a) (hb : 1 ≤ b) : 1 ≤ gcdI a b ∧ gcdI a b ≤ a ∧ gcdI a b ≤ b := by
  unfold gcdI
  have h1 : 0 < Nat.gcd a.toNat b.toNat := Nat.gcd_pos_of_pos_left _ (by omega)
  have h2 : Nat.gcd a.toNat b.toNat ≤ a.toNat := Nat.gcd_le_left _ (by omega)
  have h3 : Nat.gcd a.toNat b.toNat ≤ b.toNat := Nat.gcd_le_right _ (by omega)
  omega

/-- A fraction in lowest terms. -/
def redN (a b : Int) : Int := if a < 1 ∨ b < 1 then a else a.tdiv (gcdI a b)
def redD (a b : Int) : Int := if a < 1 ∨ b < 1 then b else b.tdiv (gcdI a b)
theorem tdiv_bd {a g : Int} (ha : 1 ≤ a) (hg : 1 ≤ g) (hga : g ≤ a) : 1 ≤ a.tdiv g ∧ a.tdiv g ≤ a := by
  rw [Int.tdiv_eq_ediv_of_nonneg (by omega)]
  refine ⟨?_, Int.ediv_le_self _ (by omega)⟩
  have := Int.ediv_le_ediv (c := g) (by omega) hga
  rw [Int.ediv_self (by omega)] at this
  exact this
theorem red_bd {a b : Int} (ha : 1 ≤ a) (hb : 1 ≤ b) : 1 ≤ redN a b ∧ redN a b ≤ a ∧ 1 ≤ redD a b ∧ redD a b ≤ b := by
  obtain ⟨g1, g2, g3⟩ := gcdI_pos ha hb
  unfold redN redD
  rw [if_neg (by omega), if_neg (by omega)]
  have h1 := tdiv_bd ha g1 g2
  have h2 := tdiv_bd hb g1 g3
  omega
attribute [irreducible] redN redD

theorem rate_Reduce (a b : Int) (ha : a ≤ 9223372036854775807) (hb : b ≤ 9223372036854775807) : Pure Tryd.prog 10 [.int .i64 a, .int .i64 b] (.tup [.int .i64 (redN a b), .int .i64 (redD a b)]) := by
  refine fc_of mixed T_ok Tryd.func10 rfl (by kernel_rfl) (by kernel_rfl) (by kernel_rfl) ?_
  by_cases hab : a < 1 ∨ b < 1
  · have e1 : redN a b = a := by unfold redN; rw [if_pos hab]
    have e2 : redD a b = b := by unfold redD; rw [if_pos hab]
    rw [e1, e2]
    repeat' ((conv => whnf); first | (refine br_dec (fun h => ?_) (fun h => ?_) <;> try (exfalso; (try dsimp only at h); omega)) | (refine br_ndec (fun h => ?_) (fun h => ?_) <;> try (exfalso; (try dsimp only at h); omega)) | refine br_seq (fun h => ?_) (fun h => ?_) | refine br_nseq (fun h => ?_) (fun h => ?_) | refine br_not (fun h => ?_) (fun h => ?_) | refine br_intro (fun h => ?_) (fun h => ?_) | refine cond_intro rfl ?_ | (refine cond_intro ⟨rfl, ?_⟩ ?_; (first | omega | (dsimp only; omega) | decide)) | (refine cond_intro ?_ ?_; (first | omega | (dsimp only; omega) | decide | (simp only [Nat.add_zero, Int.toNat_natCast, *]; omega))))
    all_goals (conv => whnf)
    all_goals exact ret_pure rfl
  · obtain ⟨g1, g2, g3⟩ := gcdI_pos (a := a) (b := b) (by omega) (by omega)
    have t1 := tdiv_bd (a := a) (by omega) g1 g2
    have t2 := tdiv_bd (a := b) (by omega) g1 g3
    have e1 : redN a b = IntKind.i64.wrap (a.tdiv (gcdI a b)) := by rw [w64_in (by omega) (by omega)]; unfold redN; rw [if_neg hab]
    have e2 : redD a b = IntKind.i64.wrap (b.tdiv (gcdI a b)) := by rw [w64_in (by omega) (by omega)]; unfold redD; rw [if_neg hab]
    have hd := rate_divisor a b (by omega) (by omega)
    rw [e1, e2]
    repeat' ((conv => whnf); first | (refine vcall_pure (hd) rfl rfl rfl ?_) | (refine br_dec (fun h => ?_) (fun h => ?_) <;> try (exfalso; (try dsimp only at h); omega)) | (refine br_ndec (fun h => ?_) (fun h => ?_) <;> try (exfalso; (try dsimp only at h); omega)) | refine br_seq (fun h => ?_) (fun h => ?_) | refine br_nseq (fun h => ?_) (fun h => ?_) | refine br_not (fun h => ?_) (fun h => ?_) | refine br_intro (fun h => ?_) (fun h => ?_) | refine cond_intro rfl ?_ | (refine cond_intro ⟨rfl, ?_⟩ ?_; (first | omega | (dsimp only; omega) | decide)) | (refine cond_intro ?_ ?_; (first | omega | (dsimp only; omega) | decide | (simp only [Nat.add_zero, Int.toNat_natCast, *]; omega))))
    all_goals (conv => whnf)
    all_goals exact ret_pure rfl

end Go.Proofs.YtakaafolanojkaaDoor
