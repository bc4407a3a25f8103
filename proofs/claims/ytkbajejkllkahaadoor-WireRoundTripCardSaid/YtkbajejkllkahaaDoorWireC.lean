/- Contracts of package wire and of the library: numbers with leading zeros. -/
import Derived.Test.YtkbajejkllkahaaDoorFmtC3
import Derived.Test.YtkbajejkllkahaaDoorBitsM
import Derived.Test.YtkbajejkllkahaaDoorWireP
namespace Go.Proofs.YtkbajejkllkahaaDoor
open Go.RowKit Go.Sy
attribute [local irreducible] vcall vloop vcallD retP
set_option maxRecDepth 100000
set_option linter.unusedVariables false
set_option linter.unusedSimpArgs false

theorem i64_succ {k : Nat} (h : k < 9223372036854775806) : IntKind.i64.wrap ((k : Int) + 1) = ((k + 1 : Nat) : Int) := by rw [w64_in (by omega) (by omega)]; rfl

theorem bits_Mul (x y : Nat) (hx : x < 18446744073709551616) (hy : y < 18446744073709551616) : Pure Tryd.prog 55 [.int .u64 x, .int .u64 y] (.tup [.int .u64 (x * y / 18446744073709551616 : Nat), .int .u64 (x * y % 18446744073709551616 : Nat)]) := by
  have c := bits_Mul64 x y hx hy
  refine fc_of mixed T_ok Tryd.func55 rfl (by kernel_rfl) (by kernel_rfl) (by kernel_rfl) ?_
  repeat' ((conv => whnf); first | (refine vcall_pure (c) rfl rfl rfl ?_) | (refine br_dec (fun h => ?_) (fun h => ?_) <;> try (exfalso; omega)) | (refine br_ndec (fun h => ?_) (fun h => ?_) <;> try (exfalso; omega)) | refine br_seq (fun h => ?_) (fun h => ?_) | refine br_nseq (fun h => ?_) (fun h => ?_) | refine br_not (fun h => ?_) (fun h => ?_) | refine br_intro (fun h => ?_) (fun h => ?_) | refine cond_intro rfl ?_ | (refine cond_intro ⟨rfl, ?_⟩ ?_; (first | omega | (dsimp only; omega) | decide)) | (refine cond_intro ?_ ?_; (first | omega | (dsimp only; omega) | decide | (simp only [Nat.add_zero, Int.toNat_natCast, *]; omega))))
  all_goals (conv => whnf)
  all_goals exact ret_pure rfl

/-- Whether a string begins with another. -/
def preB (s p : ByteArray) : Bool := decide (p.size ≤ s.size) && seq (s.extract 0 p.size) p
theorem sl_HasPrefix (s p : ByteArray) (hs : s.size ≤ 9223372036854775807) : Pure Tryd.prog 70 [.str s, .str p] (.bool (preB s p)) := by
  refine fc_of mixed T_ok Tryd.func70 rfl (by kernel_rfl) (by kernel_rfl) (by kernel_rfl) ?_
  repeat' ((conv => whnf); first | (refine br_dec (fun h => ?_) (fun h => ?_) <;> try (exfalso; omega)) | (refine br_ndec (fun h => ?_) (fun h => ?_) <;> try (exfalso; omega)) | refine br_seq (fun h => ?_) (fun h => ?_) | refine br_nseq (fun h => ?_) (fun h => ?_) | refine br_not (fun h => ?_) (fun h => ?_) | refine br_intro (fun h => ?_) (fun h => ?_) | refine cond_intro rfl ?_ | (refine cond_intro ⟨rfl, ?_⟩ ?_; (first | omega | (dsimp only; omega) | decide)) | (refine cond_intro ?_ ?_; (first | omega | (dsimp only; omega) | decide | (simp only [Nat.add_zero, Int.toNat_natCast, *]; omega))))
  all_goals (conv => whnf)
  all_goals refine ret_pure (congrArg SV.bool ?_)
  all_goals unfold preB
  · rw [decide_eq_true (by omega)]; rfl
  · rw [decide_eq_false (by omega)]; rfl
theorem str_HasPrefix (s p : ByteArray) (hs : s.size ≤ 9223372036854775807) : Pure Tryd.prog 56 [.str s, .str p] (.bool (preB s p)) := by
  have c := sl_HasPrefix s p hs
  refine fc_of mixed T_ok Tryd.func56 rfl (by kernel_rfl) (by kernel_rfl) (by kernel_rfl) ?_
  repeat' ((conv => whnf); first | (refine vcall_pure (c) rfl rfl rfl ?_) | (refine br_dec (fun h => ?_) (fun h => ?_) <;> try (exfalso; omega)) | (refine br_ndec (fun h => ?_) (fun h => ?_) <;> try (exfalso; omega)) | refine br_seq (fun h => ?_) (fun h => ?_) | refine br_nseq (fun h => ?_) (fun h => ?_) | refine br_not (fun h => ?_) (fun h => ?_) | refine br_intro (fun h => ?_) (fun h => ?_) | refine cond_intro rfl ?_ | (refine cond_intro ⟨rfl, ?_⟩ ?_; (first | omega | (dsimp only; omega) | decide)) | (refine cond_intro ?_ ?_; (first | omega | (dsimp only; omega) | decide | (simp only [Nat.add_zero, Int.toNat_natCast, *]; omega))))
  all_goals (conv => whnf)
  all_goals exact ret_pure rfl

theorem rep_extract (c : Int) (N n : Nat) (h : n ≤ N) : (bytesOf (List.replicate N c)).extract 0 n = bytesOf (List.replicate n c) := by
  apply ext_ba
  simp only [bytesOf, ByteArray.data_extract, Array.toList_extract, List.extract_eq_take_drop, Nat.sub_zero, List.drop_zero, List.map_replicate, List.take_replicate]
  rw [Nat.min_eq_left h]
/-- Zeros. -/
theorem str_Repeat0 (n : Nat) (hn : n ≤ 64) : Pure Tryd.prog 38 [.str ⟨#[48]⟩, .int .i64 n] (.str (bytesOf (List.replicate n 48))) := by
  have m := bits_Mul 1 n (by omega) (by omega)
  rw [Nat.one_mul, Nat.div_eq_of_lt (by omega), Nat.mod_eq_of_lt (by omega)] at m
  have hp := fun s hs => str_HasPrefix s ⟨#[48]⟩ hs
  have wn : IntKind.u64.wrap (n : Int) = (n : Int) := u64_in' (by omega) (by omega)
  rw [← wn] at m
  have wi : IntKind.i64.wrap (IntKind.u64.wrap (n : Int)) = (n : Int) := by rw [wn]; exact w64_in (by omega) (by omega)
  have hle : IntKind.i64.wrap (IntKind.u64.wrap (n : Int)) ≤ 64 := by rw [wi]; omega
  refine fc_of mixed T_ok Tryd.func38 rfl (by kernel_rfl) (by kernel_rfl) (by kernel_rfl) ?_
  by_cases h0 : n = 0
  · subst h0
    repeat' ((conv => whnf); first | (refine br_dec (fun h => ?_) (fun h => ?_) <;> try (exfalso; omega)) | (refine br_ndec (fun h => ?_) (fun h => ?_) <;> try (exfalso; omega)) | refine br_seq (fun h => ?_) (fun h => ?_) | refine br_nseq (fun h => ?_) (fun h => ?_) | refine br_not (fun h => ?_) (fun h => ?_) | refine br_intro (fun h => ?_) (fun h => ?_) | refine cond_intro rfl ?_ | (refine cond_intro ⟨rfl, ?_⟩ ?_; (first | omega | (dsimp only; omega) | decide)) | (refine cond_intro ?_ ?_; (first | omega | (dsimp only; omega) | decide | (simp only [Nat.add_zero, Int.toNat_natCast, *]; omega))))
    all_goals (conv => whnf)
    all_goals exact ret_pure rfl
  · by_cases h1 : n = 1
    · subst h1
      repeat' ((conv => whnf); first | (refine br_dec (fun h => ?_) (fun h => ?_) <;> try (exfalso; omega)) | (refine br_ndec (fun h => ?_) (fun h => ?_) <;> try (exfalso; omega)) | refine br_seq (fun h => ?_) (fun h => ?_) | refine br_nseq (fun h => ?_) (fun h => ?_) | refine br_not (fun h => ?_) (fun h => ?_) | refine br_intro (fun h => ?_) (fun h => ?_) | refine cond_intro rfl ?_ | (refine cond_intro ⟨rfl, ?_⟩ ?_; (first | omega | (dsimp only; omega) | decide)) | (refine cond_intro ?_ ?_; (first | omega | (dsimp only; omega) | decide | (simp only [Nat.add_zero, Int.toNat_natCast, *]; omega))))
      all_goals (conv => whnf)
      all_goals exact ret_pure rfl
    · repeat' ((conv => whnf); first | (refine vcall_pure (m) rfl rfl rfl ?_) | (refine vcallD_pure (m) rfl rfl rfl ?_) | (refine vcall_pure (hp _ (by decide)) rfl rfl rfl ?_) | (refine vcallD_pure (hp _ (by decide)) rfl rfl rfl ?_) | (refine cond_intro (show (0 : Int) ≤ 0 ∧ 0 ≤ IntKind.i64.wrap (IntKind.u64.wrap (n : Int)) ∧ IntKind.i64.wrap (IntKind.u64.wrap (n : Int)) ≤ ((64 : Nat) : Int) from ?_) ?_; (rw [wi]; omega)) | (refine br_dec (fun h => ?_) (fun h => ?_) <;> try (exfalso; omega)) | (refine br_ndec (fun h => ?_) (fun h => ?_) <;> try (exfalso; omega)) | refine br_seq (fun h => ?_) (fun h => ?_) | refine br_nseq (fun h => ?_) (fun h => ?_) | refine br_not (fun h => ?_) (fun h => ?_) | refine br_intro (fun h => ?_) (fun h => ?_) | refine cond_intro rfl ?_ | (refine cond_intro ⟨rfl, ?_⟩ ?_; (first | omega | (dsimp only; omega) | decide)) | (refine cond_intro ?_ ?_; (first | omega | (dsimp only; omega) | decide | (simp only [Nat.add_zero, Int.toNat_natCast, *]; omega))))
      all_goals (conv => whnf)
      · refine ret_pure (congrArg SV.str ?_)
        show (bytesOf (List.replicate 64 48)).extract 0 (IntKind.i64.wrap (IntKind.u64.wrap (n : Int))).toNat = _
        rw [wi, Int.toNat_natCast]
        exact rep_extract 48 64 n hn
      all_goals exact absurd hle (by assumption)
end Go.Proofs.YtkbajejkllkahaaDoor
