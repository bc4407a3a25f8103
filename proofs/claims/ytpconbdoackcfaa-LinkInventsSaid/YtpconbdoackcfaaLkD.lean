/- Contracts of package link: a link without faults. -/
import Derived.Test.YtpconbdoackcfaaLkA
import Derived.Test.YtpconbdoackcfaaYLaw
import Derived.Test.YtpconbdoackcfaaYLaid
namespace Go.Proofs.Ytpconbdoackcfaa
open Go.RowKit Go.Sy
attribute [local irreducible] vcall vloop vcallD retP sortI
set_option maxRecDepth 100000
set_option linter.unusedVariables false
set_option linter.unusedSimpArgs false

theorem fa_CloneN : Pure Try.prog 24 [.nsl] .nsl := by
  refine fc_of mixed T_ok Try.func24 rfl (by kernel_rfl) (by kernel_rfl) (by kernel_rfl) ?_
  repeat' ((conv => whnf); first | (refine br_dec (fun h => ?_) (fun h => ?_) <;> try (exfalso; (try dsimp only at h); omega)) | (refine br_ndec (fun h => ?_) (fun h => ?_) <;> try (exfalso; (try dsimp only at h); omega)) | refine br_seq (fun h => ?_) (fun h => ?_) | refine br_nseq (fun h => ?_) (fun h => ?_) | refine br_not (fun h => ?_) (fun h => ?_) | refine br_intro (fun h => ?_) (fun h => ?_) | refine cond_intro rfl ?_ | (refine cond_intro ⟨rfl, ?_⟩ ?_; (first | omega | (dsimp only; omega) | decide)) | (refine cond_intro ?_ ?_; (first | omega | (dsimp only; omega) | decide | (simp only [Nat.add_zero, Int.toNat_natCast, *]; omega))))
  all_goals (conv => whnf)
  all_goals first
    | exact ret_pure rfl
    | trace_state
abbrev fa0 : Fa := ⟨0, [], [], [], [], [], []⟩
theorem lk_New_nil (p l : Int) (hp : 1 ≤ p ∧ p ≤ 16) (hl : 1 ≤ l ∧ l ≤ 1000) : FC Try.prog 1 6 [.int .i64 p, .int .i64 l, .nsl] [] (isOut (.tup [.ptr 1 0 0 0, .int .i64 0]) [(1, some (.one false (.cells [.int .i64 p, .int .i64 l, .sl 2 0 0 0, .int .i64 0, .int .i64 0, .map 3 0]))), (2, some (faB false fa0)), (3, some (wyM false 4 wy0)), (4, some (wyF false wy0))] 5) := by
  have cc := fa_CloneN
  refine fc_of mixed T_ok Try.func6 rfl (by kernel_rfl) (by kernel_rfl) (by kernel_rfl) ?_
  repeat' ((conv => whnf); first | (refine br_dec (fun h => ?_) (fun h => ?_) <;> try (exfalso; (try dsimp only at h); omega)) | (refine br_ndec (fun h => ?_) (fun h => ?_) <;> try (exfalso; (try dsimp only at h); omega)) | refine br_seq (fun h => ?_) (fun h => ?_) | refine br_nseq (fun h => ?_) (fun h => ?_) | refine br_not (fun h => ?_) (fun h => ?_) | refine br_intro (fun h => ?_) (fun h => ?_) | refine cond_intro rfl ?_ | (refine cond_intro ⟨rfl, ?_⟩ ?_; (first | omega | (dsimp only; omega) | decide)) | (refine cond_intro ?_ ?_; (first | omega | (dsimp only; omega) | decide | (simp only [Nat.add_zero, Int.toNat_natCast, *]; omega))))
  all_goals (conv => whnf)
  refine vloop_of (fun _ : Unit => ⟨[(0, .int .i64 p), (1, .int .i64 l), (2, .nsl), (28, .nsl), (29, .int .i64 0), (30, .int .i64 0)], [], 1⟩) (fun _ => True) (fun _ => 0) () [0] [] ⟨rfl, ⟨rfl, rfl, rfl, rfl, rfl, rfl, trivial⟩, trivial⟩ trivial ?_
  intro _ _
  repeat' ((conv => whnf); first | (refine vcall_pure (cc) rfl rfl rfl ?_) | (refine vcallD_pure (cc) rfl rfl rfl ?_) | (refine br_dec (fun h => ?_) (fun h => ?_) <;> try (exfalso; (try dsimp only at h); omega)) | (refine br_ndec (fun h => ?_) (fun h => ?_) <;> try (exfalso; (try dsimp only at h); omega)) | refine br_seq (fun h => ?_) (fun h => ?_) | refine br_nseq (fun h => ?_) (fun h => ?_) | refine br_not (fun h => ?_) (fun h => ?_) | refine br_intro (fun h => ?_) (fun h => ?_) | refine cond_intro rfl ?_ | (refine cond_intro ⟨rfl, ?_⟩ ?_; (first | omega | (dsimp only; omega) | decide)) | (refine cond_intro ?_ ?_; (first | omega | (dsimp only; omega) | decide | (simp only [Nat.add_zero, Int.toNat_natCast, *]; omega))))
  all_goals (conv => whnf)
  all_goals first
    | (exfalso; omega)
    | exact ret_up (l := [0, 2, 3, 1, 4]) [.cell 2 2 [.sc (.ints .i64 []), .sc (.ints .i64 []), .sc (.ints .i64 []), .sc (.ints .i64 []), .sc (.ints .i64 []), .sc (.ints .i64 [])], .relab (fun h q => if h = 4 ∧ q < 0 then none else none) (fun _ => 0) [(1, some (wyM false 4 wy0)), (4, some (wyF false wy0))] [] 1] ⟨relab_map_start (n := 4) (bh := 1) (fun x => arB (([] : List Nat).getD x 0) (([] : List Ar).getD x ar0)) rfl (by decide), rfl, rfl, ⟨rfl, rfl, rfl, rfl, trivial⟩⟩ (allRw_cons (allRw_cons (allRw_cons (allRw_fam allRw_nil))))
    | trace_state
end Go.Proofs.Ytpconbdoackcfaa
