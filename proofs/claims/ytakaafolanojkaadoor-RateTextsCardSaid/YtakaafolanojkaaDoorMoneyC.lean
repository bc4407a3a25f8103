/- Contracts of package money, and of the reference's: currencies. -/
import Derived.Test.YtakaafolanojkaaDoorTab
import Derived.Test.YtakaafolanojkaaDoorNum
namespace Go.Proofs.YtakaafolanojkaaDoor
open Go.RowKit Go.Sy
attribute [local irreducible] vcall vloop vcallD retP
set_option maxRecDepth 100000
set_option linter.unusedVariables false

theorem i64_succ {k : Nat} (h : k < 9223372036854775806) : IntKind.i64.wrap ((k : Int) + 1) = ((k + 1 : Nat) : Int) := by rw [w64_in (by omega) (by omega)]; rfl

def capAt (s : ByteArray) (i : Nat) : Bool := decide (65 ≤ byteAt s (i : Int)) && decide (byteAt s (i : Int) ≤ 90)
def capsTo (s : ByteArray) : Nat → Bool
  | 0 => true
  | k + 1 => capsTo s k && capAt s k
/-- Three capital letters. -/
def curB (s : ByteArray) : Bool := decide (s.size = 3) && capsTo s s.size
theorem capsTo_false {s : ByteArray} {k n : Nat} (h : k < n) (hc : capAt s k = false) : capsTo s n = false := by
  induction n with
  | zero => omega
  | succ n ih =>
    simp only [capsTo]
    by_cases e : k = n
    · subst e; simp [hc]
    · rw [ih (by omega)]; rfl
theorem curB_false {s : ByteArray} {k : Nat} (h : k < s.size) (hc : byteAt s (k : Int) < 65 ∨ 90 < byteAt s (k : Int)) : curB s = false := by
  have : capAt s k = false := by unfold capAt; simp; omega
  unfold curB
  rw [capsTo_false h this]; simp
theorem curB_size {s : ByteArray} (h : s.size ≠ 3) : curB s = false := by unfold curB; simp [h]
theorem capsTo_step {s : ByteArray} {k : Nat} (h : capsTo s k = true) (h1 : ¬ byteAt s (k : Int) < 65) (h2 : ¬ 90 < byteAt s (k : Int)) : capsTo s (k + 1) = true := by
  simp only [capsTo, h, capAt]; simp; omega
attribute [irreducible] curB

theorem money_isCurrency (s : ByteArray) : Pure Tryd.prog 26 [.str s] (.bool (curB s)) := by
  refine fc_of mixed T_ok Tryd.func26 rfl (by kernel_rfl) (by kernel_rfl) (by kernel_rfl) ?_
  repeat' ((conv => whnf); first | (refine br_dec (fun h => ?_) (fun h => ?_) <;> try (exfalso; (try dsimp only at h); omega)) | (refine br_ndec (fun h => ?_) (fun h => ?_) <;> try (exfalso; (try dsimp only at h); omega)) | refine br_seq (fun h => ?_) (fun h => ?_) | refine br_nseq (fun h => ?_) (fun h => ?_) | refine br_not (fun h => ?_) (fun h => ?_) | refine br_intro (fun h => ?_) (fun h => ?_) | refine cond_intro rfl ?_ | (refine cond_intro ⟨rfl, ?_⟩ ?_; (first | omega | (dsimp only; omega) | decide)) | (refine cond_intro ?_ ?_; (first | omega | (dsimp only; omega) | decide | (simp only [Nat.add_zero, Int.toNat_natCast, *]; omega))))
  all_goals (conv => whnf)
  · exact ret_pure (by rw [curB_size (by omega)]; rfl)
  · refine vloop_of (fun k : Nat => ⟨[(0, .str s), (8, .int .i64 s.size), (9, .int .i64 k)], [], 1⟩) (fun k => k ≤ s.size ∧ capsTo s k = true) (fun k => s.size - k) 0 [0] [] ⟨rfl, ⟨rfl, rfl, rfl, trivial⟩, trivial⟩ ⟨by omega, rfl⟩ ?_
    rintro k ⟨hk, hc⟩
    repeat' ((conv => whnf); first | (refine br_dec (fun h => ?_) (fun h => ?_) <;> try (exfalso; (try dsimp only at h); omega)) | (refine br_ndec (fun h => ?_) (fun h => ?_) <;> try (exfalso; (try dsimp only at h); omega)) | refine br_seq (fun h => ?_) (fun h => ?_) | refine br_nseq (fun h => ?_) (fun h => ?_) | refine br_not (fun h => ?_) (fun h => ?_) | refine br_intro (fun h => ?_) (fun h => ?_) | refine cond_intro rfl ?_ | (refine cond_intro ⟨rfl, ?_⟩ ?_; (first | omega | (dsimp only; omega) | decide)) | (refine cond_intro ?_ ?_; (first | omega | (dsimp only; omega) | decide | (simp only [Nat.add_zero, Int.toNat_natCast, *]; omega))))
    all_goals (conv => whnf)
    · exact ret_pure (by rw [curB_false (k := k) (by omega) (by omega)]; rfl)
    · exact ret_pure (by rw [curB_false (k := k) (by omega) (by omega)]; rfl)
    · exact ⟨k + 1, [0], [], ⟨by omega, capsTo_step hc (by omega) (by omega)⟩, by omega, ⟨rfl, ⟨rfl, rfl, congrArg (fun z => some (SV.int .i64 z)) (i64_succ (by omega)), trivial⟩, trivial⟩⟩
    · have e : k = s.size := by omega
      subst e
      refine ret_pure ?_
      have : curB s = true := by unfold curB; rw [hc]; simp; omega
      rw [this]; rfl

end Go.Proofs.YtakaafolanojkaaDoor
