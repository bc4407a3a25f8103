/- Contracts of package link: a new link, the times of arrival, the next arrival. -/
import Derived.Test.YtpconbdoackcfaaLkC2
namespace Go.Proofs.Ytpconbdoackcfaa
open Go.RowKit Go.Sy
attribute [local irreducible] vcall vloop vcallD retP
set_option maxRecDepth 100000
set_option linter.unusedVariables false
set_option linter.unusedSimpArgs false

theorem lk_New_err (p l : Int) (F : Fa) (he : lnE p l F ≠ 0) : FC Try.prog 2 6 [.int .i64 p, .int .i64 l, .sl 1 0 0 F.n] [(1, some (faB true F))] (isOut (.tup [.nptr, .int .i64 (lnE p l F)]) [] 2) := by
  unfold lnE at he ⊢
  by_cases h1 : p < 1 ∨ 16 < p ∨ l < 1 ∨ 1000 < l
  · rw [if_pos h1] at he ⊢
    refine fc_of mixed T_ok Try.func6 rfl (by kernel_rfl) (by kernel_rfl) (by kernel_rfl) ?_
    repeat' ((conv => whnf); first | (refine br_dec (fun h => ?_) (fun h => ?_) <;> try (exfalso; (try dsimp only at h); omega)) | (refine br_ndec (fun h => ?_) (fun h => ?_) <;> try (exfalso; (try dsimp only at h); omega)) | refine br_seq (fun h => ?_) (fun h => ?_) | refine br_nseq (fun h => ?_) (fun h => ?_) | refine br_not (fun h => ?_) (fun h => ?_) | refine br_intro (fun h => ?_) (fun h => ?_) | refine cond_intro rfl ?_ | (refine cond_intro ⟨rfl, ?_⟩ ?_; (first | omega | (dsimp only; omega) | decide)) | (refine cond_intro ?_ ?_; (first | omega | (dsimp only; omega) | decide | (simp only [Nat.add_zero, Int.toNat_natCast, *]; omega))))
    all_goals (conv => whnf)
    all_goals first
      | exact ret_out (l := [0, 1]) rfl rfl trivial allRw_nil
      | (exfalso; omega)
  rw [if_neg h1] at he ⊢
  by_cases h2 : 32 < F.n
  · rw [if_pos h2] at he ⊢
    refine fc_of mixed T_ok Try.func6 rfl (by kernel_rfl) (by kernel_rfl) (by kernel_rfl) ?_
    repeat' ((conv => whnf); first | (refine br_dec (fun h => ?_) (fun h => ?_) <;> try (exfalso; (try dsimp only at h); omega)) | (refine br_ndec (fun h => ?_) (fun h => ?_) <;> try (exfalso; (try dsimp only at h); omega)) | refine br_seq (fun h => ?_) (fun h => ?_) | refine br_nseq (fun h => ?_) (fun h => ?_) | refine br_not (fun h => ?_) (fun h => ?_) | refine br_intro (fun h => ?_) (fun h => ?_) | refine cond_intro rfl ?_ | (refine cond_intro ⟨rfl, ?_⟩ ?_; (first | omega | (dsimp only; omega) | decide)) | (refine cond_intro ?_ ?_; (first | omega | (dsimp only; omega) | decide | (simp only [Nat.add_zero, Int.toNat_natCast, *]; omega))))
    all_goals (conv => whnf)
    all_goals first
      | exact ret_out (l := [0, 1]) rfl rfl trivial allRw_nil
      | (exfalso; omega)
  rw [if_neg h2] at he ⊢
  refine fc_of mixed T_ok Try.func6 rfl (by kernel_rfl) (by kernel_rfl) (by kernel_rfl) ?_
  repeat' ((conv => whnf); first | (refine br_dec (fun h => ?_) (fun h => ?_) <;> try (exfalso; (try dsimp only at h); omega)) | (refine br_ndec (fun h => ?_) (fun h => ?_) <;> try (exfalso; (try dsimp only at h); omega)) | refine br_seq (fun h => ?_) (fun h => ?_) | refine br_nseq (fun h => ?_) (fun h => ?_) | refine br_not (fun h => ?_) (fun h => ?_) | refine br_intro (fun h => ?_) (fun h => ?_) | refine cond_intro rfl ?_ | (refine cond_intro ⟨rfl, ?_⟩ ?_; (first | omega | (dsimp only; omega) | decide)) | (refine cond_intro ?_ ?_; (first | omega | (dsimp only; omega) | decide | (simp only [Nat.add_zero, Int.toNat_natCast, *]; omega))))
  all_goals (conv => whnf)
  refine vloop_of (fun k : Nat => ⟨[(0, .int .i64 p), (1, .int .i64 l), (2, .sl 1 0 0 F.n), (28, .sl 1 0 0 F.n), (29, .int .i64 F.n), (30, .int .i64 k)], [(1, some (faB true F))], 2⟩) (fun k => k ≤ F.n ∧ F.errs p k = 0) (fun k => F.n - k) 0 [0, 1] [] ⟨rfl, ⟨rfl, rfl, rfl, rfl, rfl, rfl, trivial⟩, ⟨rfl, trivial⟩⟩ ⟨by omega, rfl⟩ ?_
  rintro k ⟨hk, hc⟩
  by_cases hk2 : k < F.n
  · have c := lk_Check p (F.k.getD k 0) (F.a.getD k 0) (F.b.getD k 0) (F.f.getD k 0) (F.u.getD k 0) (F.e.getD k 0)
    by_cases hz : F.err p k = 0
    · have e1 : F.errs p (k + 1) = 0 := by simp only [Fa.errs, hc, hz]; rfl
      unfold Fa.err at hz
      rw [hz] at c
      repeat' ((conv => whnf); first | (refine vcall_pure (c) rfl rfl rfl ?_) | (refine vcallD_pure (c) rfl rfl rfl ?_) | (refine br_dec (fun h => ?_) (fun h => ?_) <;> try (exfalso; (try dsimp only at h); omega)) | (refine br_ndec (fun h => ?_) (fun h => ?_) <;> try (exfalso; (try dsimp only at h); omega)) | refine br_seq (fun h => ?_) (fun h => ?_) | refine br_nseq (fun h => ?_) (fun h => ?_) | refine br_not (fun h => ?_) (fun h => ?_) | refine br_intro (fun h => ?_) (fun h => ?_) | refine cond_intro rfl ?_ | (refine cond_intro ⟨rfl, ?_⟩ ?_; (first | omega | (dsimp only; omega) | decide)) | (refine cond_intro ?_ ?_; (first | omega | (dsimp only; omega) | decide | (simp only [Nat.add_zero, Int.toNat_natCast, *]; omega))))
      all_goals (conv => whnf)
      all_goals first
        | exact ⟨k + 1, [0, 1], [], ⟨by omega, e1⟩, by omega, ⟨rfl, ⟨rfl, rfl, rfl, rfl, rfl, congrArg (fun z => some (SV.int .i64 z)) (i64_succ (by omega)), trivial⟩, ⟨rfl, trivial⟩⟩⟩
        | (exfalso; omega)
    · rw [errs_stop hc hz F.n hk2]
      unfold Fa.err at hz ⊢
      generalize ckE p (F.k.getD k 0) (F.a.getD k 0) (F.b.getD k 0) (F.f.getD k 0) (F.u.getD k 0) (F.e.getD k 0) = e at *
      repeat' ((conv => whnf); first | (refine vcall_pure (c) rfl rfl rfl ?_) | (refine vcallD_pure (c) rfl rfl rfl ?_) | (refine br_dec (fun h => ?_) (fun h => ?_) <;> try (exfalso; (try dsimp only at h); omega)) | (refine br_ndec (fun h => ?_) (fun h => ?_) <;> try (exfalso; (try dsimp only at h); omega)) | refine br_seq (fun h => ?_) (fun h => ?_) | refine br_nseq (fun h => ?_) (fun h => ?_) | refine br_not (fun h => ?_) (fun h => ?_) | refine br_intro (fun h => ?_) (fun h => ?_) | refine cond_intro rfl ?_ | (refine cond_intro ⟨rfl, ?_⟩ ?_; (first | omega | (dsimp only; omega) | decide)) | (refine cond_intro ?_ ?_; (first | omega | (dsimp only; omega) | decide | (simp only [Nat.add_zero, Int.toNat_natCast, *]; omega))))
      all_goals (conv => whnf)
      all_goals first
        | exact ret_out (l := [0, 1]) rfl rfl trivial allRw_nil
        | (exfalso; omega)
  · have e : k = F.n := by omega
    subst e
    exact absurd hc he
abbrev wy0 : Wy := ⟨0, [], [], [], [], 0⟩
theorem lk_New_ok (p l : Int) (F : Fa) (he : lnE p l F = 0) (ho : F.Ok) : FC Try.prog 2 6 [.int .i64 p, .int .i64 l, .sl 1 0 0 F.n] [(1, some (faB true F))] (isOut (.tup [.ptr 2 0 0 0, .int .i64 0]) [(2, some (.one false (.cells [.int .i64 p, .int .i64 l, .sl 3 0 0 F.n, .int .i64 0, .int .i64 0, .map 4 0]))), (3, some (faB false F)), (4, some (wyM false 5 wy0)), (5, some (wyF false wy0))] 6) := by
  unfold lnE at he
  by_cases h1 : p < 1 ∨ 16 < p ∨ l < 1 ∨ 1000 < l
  · rw [if_pos h1] at he; omega
  rw [if_neg h1] at he
  by_cases h2 : 32 < F.n
  · rw [if_pos h2] at he; omega
  rw [if_neg h2] at he
  have cc := fa_Clone F (by omega) ho
  refine fc_of mixed T_ok Try.func6 rfl (by kernel_rfl) (by kernel_rfl) (by kernel_rfl) ?_
  repeat' ((conv => whnf); first | (refine br_dec (fun h => ?_) (fun h => ?_) <;> try (exfalso; (try dsimp only at h); omega)) | (refine br_ndec (fun h => ?_) (fun h => ?_) <;> try (exfalso; (try dsimp only at h); omega)) | refine br_seq (fun h => ?_) (fun h => ?_) | refine br_nseq (fun h => ?_) (fun h => ?_) | refine br_not (fun h => ?_) (fun h => ?_) | refine br_intro (fun h => ?_) (fun h => ?_) | refine cond_intro rfl ?_ | (refine cond_intro ⟨rfl, ?_⟩ ?_; (first | omega | (dsimp only; omega) | decide)) | (refine cond_intro ?_ ?_; (first | omega | (dsimp only; omega) | decide | (simp only [Nat.add_zero, Int.toNat_natCast, *]; omega))))
  all_goals (conv => whnf)
  refine vloop_of (fun k : Nat => ⟨[(0, .int .i64 p), (1, .int .i64 l), (2, .sl 1 0 0 F.n), (28, .sl 1 0 0 F.n), (29, .int .i64 F.n), (30, .int .i64 k)], [(1, some (faB true F))], 2⟩) (fun k => k ≤ F.n) (fun k => F.n - k) 0 [0, 1] [] ⟨rfl, ⟨rfl, rfl, rfl, rfl, rfl, rfl, trivial⟩, ⟨rfl, trivial⟩⟩ (by omega) ?_
  intro k hk
  by_cases hk2 : k < F.n
  · have c := lk_Check p (F.k.getD k 0) (F.a.getD k 0) (F.b.getD k 0) (F.f.getD k 0) (F.u.getD k 0) (F.e.getD k 0)
    have hz := errs_zero F.n he hk2
    unfold Fa.err at hz
    rw [hz] at c
    clear cc
    repeat' ((conv => whnf); first | (refine vcall_pure (c) rfl rfl rfl ?_) | (refine vcallD_pure (c) rfl rfl rfl ?_) | (refine br_dec (fun h => ?_) (fun h => ?_) <;> try (exfalso; (try dsimp only at h); omega)) | (refine br_ndec (fun h => ?_) (fun h => ?_) <;> try (exfalso; (try dsimp only at h); omega)) | refine br_seq (fun h => ?_) (fun h => ?_) | refine br_nseq (fun h => ?_) (fun h => ?_) | refine br_not (fun h => ?_) (fun h => ?_) | refine br_intro (fun h => ?_) (fun h => ?_) | refine cond_intro rfl ?_ | (refine cond_intro ⟨rfl, ?_⟩ ?_; (first | omega | (dsimp only; omega) | decide)) | (refine cond_intro ?_ ?_; (first | omega | (dsimp only; omega) | decide | (simp only [Nat.add_zero, Int.toNat_natCast, *]; omega))))
    all_goals (conv => whnf)
    all_goals first
      | exact ⟨k + 1, [0, 1], [], by omega, by omega, ⟨rfl, ⟨rfl, rfl, rfl, rfl, rfl, congrArg (fun z => some (SV.int .i64 z)) (i64_succ (by omega)), trivial⟩, ⟨rfl, trivial⟩⟩⟩
      | (exfalso; omega)
  · have e : k = F.n := by omega
    subst e
    repeat' ((conv => whnf); first | (refine vcall_out (l :=  [0, 1]) (cc ) ⟨rfl, rfl, rfl, rfl, (by (repeat' (first | exact trivial | exact GB_wf | exact fun _ _ => rfl | constructor)); first | done | fail), (by (repeat' (first | exact trivial | exact GB_fits rfl | constructor)); first | done | fail)⟩ ?_) | (refine vcallD_out (l :=  [0, 1]) (cc ) ⟨rfl, rfl, rfl, rfl, (by (repeat' (first | exact trivial | exact GB_wf | exact fun _ _ => rfl | constructor)); first | done | fail), (by (repeat' (first | exact trivial | exact GB_fits rfl | constructor)); first | done | fail)⟩ ?_) | (refine br_dec (fun h => ?_) (fun h => ?_) <;> try (exfalso; (try dsimp only at h); omega)) | (refine br_ndec (fun h => ?_) (fun h => ?_) <;> try (exfalso; (try dsimp only at h); omega)) | refine br_seq (fun h => ?_) (fun h => ?_) | refine br_nseq (fun h => ?_) (fun h => ?_) | refine br_not (fun h => ?_) (fun h => ?_) | refine br_intro (fun h => ?_) (fun h => ?_) | refine cond_intro rfl ?_ | (refine cond_intro ⟨rfl, ?_⟩ ?_; (first | omega | (dsimp only; omega) | decide)) | (refine cond_intro ?_ ?_; (first | omega | (dsimp only; omega) | decide | (simp only [Nat.add_zero, Int.toNat_natCast, *]; omega))))
    all_goals (conv => whnf)
    all_goals first
      | (exfalso; omega)
      | exact ret_up (l := [0, 1, 4, 2, 3, 5]) [.relab (fun h q => if h = 5 ∧ q < 0 then none else none) (fun _ => 0) [(3, some (wyM false 5 wy0)), (5, some (wyF false wy0))] [] 1] ⟨relab_map_start (n := 5) (bh := 3) (fun x => arB (([] : List Nat).getD x 0) (([] : List Ar).getD x ar0)) rfl (by decide), rfl, rfl, ⟨rfl, rfl, rfl, rfl, trivial⟩⟩ (allRw_cons (allRw_cons (allRw_cons (allRw_fam allRw_nil))))

/-- Whether fault k is in force and concerns a transmission. -/
def Fa.act (F : Fa) (t x y : Int) (k : Nat) : Bool := ifB (F.f.getD k 0) (F.u.getD k 0) t && cnB (F.k.getD k 0) (F.a.getD k 0) (F.b.getD k 0) x y
def Fa.lost (F : Fa) (t x y : Int) : Nat → Bool
  | 0 => false
  | k + 1 => F.lost t x y k || (F.act t x y k && decide (F.k.getD k 0 = 1 ∨ F.k.getD k 0 = 4))
def Fa.arr (F : Fa) (t x y a : Int) : Nat → Int
  | 0 => a
  | k + 1 => if (F.act t x y k && decide (F.k.getD k 0 = 2)) = true then IntKind.i64.wrap (F.arr t x y a k + F.e.getD k 0) else F.arr t x y a k
def Fa.cp (F : Fa) (t x y : Int) : Nat → List Int
  | 0 => []
  | k + 1 => if (F.act t x y k && decide (F.k.getD k 0 = 3)) = true then F.cp t x y k ++ [F.e.getD k 0] else F.cp t x y k
def Fa.cn (F : Fa) (t x y : Int) : Nat → Nat
  | 0 => 0
  | k + 1 => if (F.act t x y k && decide (F.k.getD k 0 = 3)) = true then F.cn t x y k + 1 else F.cn t x y k
theorem cn_le (F : Fa) (t x y : Int) : ∀ k, F.cn t x y k ≤ k
  | 0 => Nat.le_refl _
  | k + 1 => by
    have := cn_le F t x y k
    simp only [Fa.cn]
    split <;> omega
theorem cp_len (F : Fa) (t x y : Int) : ∀ k, (F.cp t x y k).length = F.cn t x y k
  | 0 => rfl
  | k + 1 => by
    have := cp_len F t x y k
    simp only [Fa.cn, Fa.cp]
    split
    · simp [this]
    · exact this
theorem lost_mono {F : Fa} {t x y : Int} {k : Nat} (h : F.lost t x y k = true) : ∀ n, k ≤ n → F.lost t x y n = true
  | 0, hh => by have : k = 0 := by omega
                subst this; exact h
  | n + 1, hh => by
    by_cases e : k = n + 1
    · subst e; exact h
    · simp only [Fa.lost, lost_mono h n (by omega), Bool.true_or]
end Go.Proofs.Ytpconbdoackcfaa
