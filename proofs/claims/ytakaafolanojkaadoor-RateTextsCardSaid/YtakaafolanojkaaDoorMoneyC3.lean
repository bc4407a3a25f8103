/- Contracts of package money: checks, scaled amounts. -/
import Derived.Test.YtakaafolanojkaaDoorMoneyC
import Derived.Test.YtakaafolanojkaaDoorBitsC
namespace Go.Proofs.YtakaafolanojkaaDoor
open Go.RowKit Go.Sy
attribute [local irreducible] vcall vloop vcallD retP
set_option maxRecDepth 100000
set_option linter.unusedVariables false
set_option linter.unusedSimpArgs false

theorem money_inTotal (n : Int) : Pure Tryd.prog 27 [.int .i64 n] (.bool (decide (-4503599627370496 ≤ n ∧ n ≤ 4503599627370496))) := by
  refine fc_of mixed T_ok Tryd.func27 rfl (by kernel_rfl) (by kernel_rfl) (by kernel_rfl) ?_
  repeat' ((conv => whnf); first | (refine br_dec (fun h => ?_) (fun h => ?_) <;> try (exfalso; (try dsimp only at h); omega)) | (refine br_ndec (fun h => ?_) (fun h => ?_) <;> try (exfalso; (try dsimp only at h); omega)) | refine br_seq (fun h => ?_) (fun h => ?_) | refine br_nseq (fun h => ?_) (fun h => ?_) | refine br_not (fun h => ?_) (fun h => ?_) | refine br_intro (fun h => ?_) (fun h => ?_) | refine cond_intro rfl ?_ | (refine cond_intro ⟨rfl, ?_⟩ ?_; (first | omega | (dsimp only; omega) | decide)) | (refine cond_intro ?_ ?_; (first | omega | (dsimp only; omega) | decide | (simp only [Nat.add_zero, Int.toNat_natCast, *]; omega))))
  all_goals (conv => whnf)
  · exact ret_pure (congrArg SV.bool (by rw [decide_eq_decide]; omega))
  · exact ret_pure (congrArg SV.bool (by rw [eq_comm, decide_eq_false_iff_not]; omega))
/-- The error of an amount. -/
def mchk (a : Int) (c : ByteArray) : Int := if curB c = false then 11 else if -4503599627370496 ≤ a ∧ a ≤ 4503599627370496 then 0 else 4
theorem mchk_or (a : Int) (c : ByteArray) : (mchk a c = 11 ∨ mchk a c = 4) ∨ (mchk a c = 0 ∧ curB c = true ∧ -4503599627370496 ≤ a ∧ a ≤ 4503599627370496) := by
  unfold mchk
  split
  · exact .inl (.inl rfl)
  · split
    · rename_i h1 h2
      exact .inr ⟨rfl, by cases h : curB c <;> simp_all, h2⟩
    · exact .inl (.inr rfl)
attribute [irreducible] mchk

theorem money_Check (a : Int) (c : ByteArray) : Pure Tryd.prog 19 [.agg [.int .i64 a, .str c]] (.int .i64 (mchk a c)) := by
  refine fc_of mixed T_ok Tryd.func19 rfl (by kernel_rfl) (by kernel_rfl) (by kernel_rfl) ?_
  repeat' ((conv => whnf); first | (refine vcall_pure (money_isCurrency _) rfl rfl rfl ?_) | (refine vcall_pure (money_inTotal _) rfl rfl rfl ?_) | (refine br_dec (fun h => ?_) (fun h => ?_) <;> try (exfalso; (try dsimp only at h); omega)) | (refine br_ndec (fun h => ?_) (fun h => ?_) <;> try (exfalso; (try dsimp only at h); omega)) | refine br_seq (fun h => ?_) (fun h => ?_) | refine br_nseq (fun h => ?_) (fun h => ?_) | refine br_not (fun h => ?_) (fun h => ?_) | refine br_intro (fun h => ?_) (fun h => ?_) | refine cond_intro rfl ?_ | (refine cond_intro ⟨rfl, ?_⟩ ?_; (first | omega | (dsimp only; omega) | decide)) | (refine cond_intro ?_ ?_; (first | omega | (dsimp only; omega) | decide | (simp only [Nat.add_zero, Int.toNat_natCast, *]; omega))))
  all_goals (conv => whnf)
  all_goals refine ret_pure (congrArg (SV.int .i64) ?_)
  all_goals unfold mchk
  all_goals simp_all
theorem money_magnitude (n : Int) (h1 : -9223372036854775808 ≤ n) (h2 : n ≤ 9223372036854775807) : Pure Tryd.prog 29 [.int .i64 n] (.int .u64 (n.natAbs : Int)) := by
  refine fc_of mixed T_ok Tryd.func29 rfl (by kernel_rfl) (by kernel_rfl) (by kernel_rfl) ?_
  repeat' ((conv => whnf); first | (refine br_dec (fun h => ?_) (fun h => ?_) <;> try (exfalso; (try dsimp only at h); omega)) | (refine br_ndec (fun h => ?_) (fun h => ?_) <;> try (exfalso; (try dsimp only at h); omega)) | refine br_seq (fun h => ?_) (fun h => ?_) | refine br_nseq (fun h => ?_) (fun h => ?_) | refine br_not (fun h => ?_) (fun h => ?_) | refine br_intro (fun h => ?_) (fun h => ?_) | refine cond_intro rfl ?_ | (refine cond_intro ⟨rfl, ?_⟩ ?_; (first | omega | (dsimp only; omega) | decide)) | (refine cond_intro ?_ ?_; (first | omega | (dsimp only; omega) | decide | (simp only [Nat.add_zero, Int.toNat_natCast, *]; omega))))
  all_goals (conv => whnf)
  all_goals refine ret_pure (congrArg (SV.int .u64) ?_)
  · simp only [IntKind.wrap, IntKind.bits, IntKind.signed]; simp; omega
  · dsimp only
    rw [u64_in' (by omega) (by omega)]; omega

/-- A quotient rounded in a mode. -/
def rnd (q r d : Nat) (mode : Int) : Nat :=
  if (mode = 2 ∧ 0 < r) ∨ (mode = 3 ∧ d ≤ 2 * r) ∨ (mode = 4 ∧ (d < 2 * r ∨ (2 * r = d ∧ q % 2 = 1))) then q + 1 else q
theorem rnd_bd (q r d : Nat) (mode : Int) : q ≤ rnd q r d mode ∧ rnd q r d mode ≤ q + 1 := by unfold rnd; split <;> omega
attribute [irreducible] rnd

theorem money_rounded (q r d : Nat) (mode : Int) (hq : q ≤ 4503599627370496) (hd : d ≤ 1099511627776) (hr : r < d) : Pure Tryd.prog 31 [.int .u64 q, .int .u64 r, .int .u64 d, .int .i64 mode] (.int .u64 (rnd q r d mode : Nat)) := by
  have e2 : IntKind.u64.wrap (2 * (r : Int)) = 2 * (r : Int) := u64_in' (by omega) (by omega)
  have e1 : IntKind.u64.wrap ((q : Int) + 1) = ((q + 1 : Nat) : Int) := by rw [u64_in' (by omega) (by omega)]; rfl
  have em : ((q : Int).tmod 2) = ((q % 2 : Nat) : Int) := rfl
  refine fc_of mixed T_ok Tryd.func31 rfl (by kernel_rfl) (by kernel_rfl) (by kernel_rfl) ?_
  repeat' ((conv => whnf); first | (refine br_dec (fun h => ?_) (fun h => ?_) <;> try (exfalso; (try dsimp only at h); omega)) | (refine br_ndec (fun h => ?_) (fun h => ?_) <;> try (exfalso; (try dsimp only at h); omega)) | refine br_seq (fun h => ?_) (fun h => ?_) | refine br_nseq (fun h => ?_) (fun h => ?_) | refine br_not (fun h => ?_) (fun h => ?_) | refine br_intro (fun h => ?_) (fun h => ?_) | refine cond_intro rfl ?_ | (refine cond_intro ⟨rfl, ?_⟩ ?_; (first | omega | (dsimp only; omega) | decide)) | (refine cond_intro ?_ ?_; (first | omega | (dsimp only; omega) | decide | (simp only [Nat.add_zero, Int.toNat_natCast, *]; omega))))
  all_goals (conv => whnf)
  all_goals refine ret_pure (congrArg (SV.int .u64) ?_)
  all_goals simp only [e1, e2, em] at *
  all_goals unfold rnd
  all_goals first
    | (rw [if_pos (by omega)]; done)
    | (rw [if_neg (by omega)]; done)
end Go.Proofs.YtakaafolanojkaaDoor
