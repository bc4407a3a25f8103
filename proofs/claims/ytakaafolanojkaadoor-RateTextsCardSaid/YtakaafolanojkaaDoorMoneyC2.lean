/- Contracts of package money: decimal places. -/
import Derived.Test.YtakaafolanojkaaDoorMoneyC
namespace Go.Proofs.YtakaafolanojkaaDoor
open Go.RowKit Go.Sy
attribute [local irreducible] vcall vloop vcallD retP
set_option maxRecDepth 100000
set_option linter.unusedVariables false

def exS : List ByteArray := [⟨#[74, 80, 89]⟩, ⟨#[75, 82, 87]⟩, ⟨#[86, 78, 68]⟩, ⟨#[67, 76, 80]⟩, ⟨#[73, 83, 75]⟩, ⟨#[66, 72, 68]⟩, ⟨#[75, 87, 68]⟩, ⟨#[74, 79, 68]⟩, ⟨#[79, 77, 82]⟩, ⟨#[84, 78, 68]⟩]
def exN : List Int := [0, 0, 0, 0, 0, 3, 3, 3, 3, 3]
/-- The decimal places that the table has from row k on, of n rows. -/
def exFrom (s : ByteArray) : Nat → Nat → Int
  | 0, _ => 2
  | n + 1, k => if exS.getD k ⟨#[]⟩ = s then exN.getD k 0 else exFrom s n (k + 1)
def expo (s : ByteArray) : Int := if curB s = true then exFrom s 10 0 else 0
attribute [irreducible] expo

theorem money_Exponent (s : ByteArray) : Glob Tryd.prog glT 21 [.str s] (.tup [.int .i64 (expo s), .bool (curB s)]) := by
  refine fc_of mixed T_ok Tryd.func21 rfl (by kernel_rfl) (by kernel_rfl) (by kernel_rfl) ?_
  repeat' ((conv => whnf); first | (refine vcall_pure (money_isCurrency _) rfl rfl rfl ?_) | (refine br_dec (fun h => ?_) (fun h => ?_) <;> try (exfalso; (try dsimp only at h); omega)) | (refine br_ndec (fun h => ?_) (fun h => ?_) <;> try (exfalso; (try dsimp only at h); omega)) | refine br_seq (fun h => ?_) (fun h => ?_) | refine br_nseq (fun h => ?_) (fun h => ?_) | refine br_not (fun h => ?_) (fun h => ?_) | refine br_intro (fun h => ?_) (fun h => ?_) | refine cond_intro rfl ?_ | (refine cond_intro ⟨rfl, ?_⟩ ?_; (first | omega | (dsimp only; omega) | decide)) | (refine cond_intro ?_ ?_; (first | omega | (dsimp only; omega) | decide | (simp only [Nat.add_zero, Int.toNat_natCast, *]; omega))))
  all_goals (conv => whnf)
  · exact ret_pure (by simp [expo, oneOr, h, cv])
  · have hcur := h
    clear h
    refine vloop_of (fun k : Nat => ⟨[(0, .str s), (9, .arr 10 [.strs exS, .ints .i64 exN]), (10, .int .i64 k)], [], 1⟩) (fun k => k ≤ 10 ∧ exFrom s (10 - k) k = exFrom s 10 0) (fun k => 10 - k) 0 [0] [] ⟨rfl, ⟨rfl, rfl, rfl, trivial⟩, trivial⟩ ⟨by omega, rfl⟩ ?_
    rintro k ⟨hk, hc⟩
    repeat' ((conv => whnf); first | (refine br_dec (fun h => ?_) (fun h => ?_) <;> try (exfalso; (try dsimp only at h); omega)) | (refine br_ndec (fun h => ?_) (fun h => ?_) <;> try (exfalso; (try dsimp only at h); omega)) | refine br_seq (fun h => ?_) (fun h => ?_) | refine br_nseq (fun h => ?_) (fun h => ?_) | refine br_not (fun h => ?_) (fun h => ?_) | refine br_intro (fun h => ?_) (fun h => ?_) | refine cond_intro rfl ?_ | (refine cond_intro ⟨rfl, ?_⟩ ?_; (first | omega | (dsimp only; omega) | decide)) | (refine cond_intro ?_ ?_; (first | omega | (dsimp only; omega) | decide | (simp only [Nat.add_zero, Int.toNat_natCast, *]; omega))))
    all_goals (conv => whnf)
    · refine ret_pure ?_
      have e : expo s = exN.getD k 0 := by
        unfold expo; rw [if_pos hcur, ← hc, show 10 - k = (10 - k - 1) + 1 from by omega, exFrom, if_pos (by assumption)]
      rw [e, hcur]; rfl
    · refine ⟨k + 1, [0], [], ⟨by omega, ?_⟩, by omega, ⟨rfl, ⟨rfl, rfl, congrArg (fun z => some (SV.int .i64 z)) (i64_succ (by omega)), trivial⟩, trivial⟩⟩
      rw [← hc, show 10 - k = (10 - (k + 1)) + 1 from by omega, exFrom, if_neg (by assumption)]
    · have e : k = 10 := by omega
      subst e
      refine ret_pure ?_
      have : expo s = 2 := by unfold expo; rw [if_pos hcur, ← hc]; rfl
      rw [this, hcur]; rfl
end Go.Proofs.YtakaafolanojkaaDoor
