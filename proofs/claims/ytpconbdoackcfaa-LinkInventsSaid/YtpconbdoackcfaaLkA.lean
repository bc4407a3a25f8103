/- The examples of the chapter on links. -/
import Derived.Test.YtpconbdoackcfaaLkC8
namespace Go.Proofs.Ytpconbdoackcfaa
open Go.RowKit Go.Sy
attribute [local irreducible] vcall vloop vcallD retP sortI
set_option maxRecDepth 100000
set_option linter.unusedVariables false
set_option linter.unusedSimpArgs false

theorem sortI_of {l m : List Int} (hp : m.Perm l) (hm : m.Pairwise (fun a b => a ≤ b)) : sortI l = m :=
  List.Perm.eq_of_pairwise (le := fun a b : Int => a ≤ b) (fun a b _ _ h1 h2 => by omega) (sortI_pairwise l) hm ((sortI_perm l).trans hp.symm)
abbrev aF : Fa := ⟨1, [3], [0], [1], [0], [20], [2]⟩
abbrev aW1 : Wy := ⟨2, [15, 17], [1, 1], [⟨[15], [0], [1], [1], [⟨#[97]⟩]⟩, ⟨[17], [0], [1], [1], [⟨#[97]⟩]⟩], [0, 1], 2⟩
abbrev aW2 : Wy := ⟨0, [], [], [], [], 2⟩
abbrev aL (nw se : Int) (W : Wy) : Lk := ⟨2, 5, aF, nw, se, W⟩
theorem lk_awake : Pure Try.prog 7 [] (.bool true) := by
  have c0 := lk_New_ok 2 5 aF (by kernel_rfl) ⟨rfl, rfl, rfl, rfl, rfl, rfl⟩
  have o1 : (aL 10 1 aW1).W.Ok := ⟨rfl, rfl, rfl, by decide⟩
  have o0 : (aL 0 0 wy0).W.Ok := ⟨rfl, rfl, rfl, by decide⟩
  have o2 : (aL 17 1 aW2).W.Ok := ⟨rfl, rfl, rfl, by decide⟩
  have c1 : FC Try.prog 5 8 [.ptr 1 0 0 0, .int .i64 10, .int .i64 0, .int .i64 1, .str ⟨#[97]⟩] (lkH (aL 0 0 wy0)) (isOut (.tup [.int .i64 1, .int .i64 0]) [(1, some (lkC false (aL 10 1 aW1))), (3, some (wyM false 5 aW1)), (5, some (wyF false aW1))] 6) := fcEq (lk_Send_ok (aL 0 0 wy0) 10 0 1 ⟨#[97]⟩ (by decide) o0 (by kernel_rfl) (by kernel_rfl)) (by kernel_rfl) (by kernel_rfl)
  have c2 : FC Try.prog 5 10 [.ptr 1 0 0 0] (lkR (aL 10 1 aW1)) (isOut (.tup [.int .i64 15, .bool true]) [] 5) := fcEq (lk_Next (aL 10 1 aW1) rfl) (by kernel_rfl) rfl
  have d1 : aW1.due 14 = [] := sortI_of (l := [15, 17].filter (fun t => decide (t ≤ 14))) (by decide) List.Pairwise.nil
  have d2 : aW1.due 17 = [15, 17] := sortI_of (l := [15, 17].filter (fun t => decide (t ≤ 17))) (by decide) (by decide)
  have c3 := lk_Receive (aL 10 1 aW1) 14 o1 (by decide) (by decide)
  have c4 := lk_Receive (aL 14 1 aW1) 17 o1 (by decide) (by decide)
  unfold rvO at c3 c4
  rw [d1] at c3
  rw [d2] at c4
  have c3' : FC Try.prog 5 9 [.ptr 1 0 0 0, .int .i64 14] (lkH (aL 10 1 aW1)) (isOut (.sl 6 0 0 0) [(1, some (lkC false (aL 14 1 aW1))), (3, some (wyM false 5 aW1)), (5, some (wyF false aW1)), (6, some (.one false (arB 0 ar0)))] 7) := fcEq c3 (by kernel_rfl) (by kernel_rfl)
  have c4' : FC Try.prog 5 9 [.ptr 1 0 0 0, .int .i64 17] (lkH (aL 14 1 aW1)) (isOut (.sl 6 0 0 2) [(1, some (lkC false (aL 17 1 aW2))), (3, some (wyM false 5 aW2)), (5, some (wyF false aW2)), (6, some (.one false (arB 2 ⟨[15, 17], [0, 0], [1, 1], [1, 1], [⟨#[97]⟩, ⟨#[97]⟩]⟩)))] 7) := fcEq c4 (by kernel_rfl) (by kernel_rfl)
  have c5 : FC Try.prog 5 8 [.ptr 1 0 0 0, .int .i64 16, .int .i64 0, .int .i64 1, .str ⟨#[98]⟩] (lkR (aL 17 1 aW2)) (isOut (.tup [.int .i64 0, .int .i64 14]) [] 5) := fcEq (lk_Send_err (aL 17 1 aW2) 16 0 1 ⟨#[98]⟩ (by decide) o2 (by rw [show (aL 17 1 aW2).sdE 16 0 1 ⟨#[98]⟩ = 14 by kernel_rfl]; decide)) (by kernel_rfl) rfl
  have c6 := lk_Sent (aL 17 1 aW2)
  clear c3 c4
  refine fc_of mixed T_ok Try.func7 rfl (by kernel_rfl) (by kernel_rfl) (by kernel_rfl) ?_
  repeat' ((conv => whnf); first | (refine vcall_out (l :=  [0, 1]) (c0 ) ⟨rfl, rfl, rfl, rfl, (by (repeat' (first | exact trivial | exact GB_wf | exact fun _ _ => rfl | constructor)); first | done | fail), (by (repeat' (first | exact trivial | exact GB_fits rfl | constructor)); first | done | fail)⟩ ?_) | (refine vcall_out (l :=  [0, 2, 3, 4, 5]) (c1 ) ⟨rfl, rfl, rfl, rfl, (by (repeat' (first | exact trivial | exact GB_wf | exact fun _ _ => rfl | constructor)); first | done | fail), (by (repeat' (first | exact trivial | exact GB_fits rfl | constructor)); first | done | fail)⟩ ?_) | (refine vcall_out (l :=  [0, 2, 3, 4, 6]) (c2 ) ⟨rfl, rfl, rfl, rfl, (by (repeat' (first | exact trivial | exact GB_wf | exact fun _ _ => rfl | constructor)); first | done | fail), (by (repeat' (first | exact trivial | exact GB_fits rfl | constructor)); first | done | fail)⟩ ?_) | (refine vcall_out (l :=  [0, 2, 3, 4, 6]) (c3' ) ⟨rfl, rfl, rfl, rfl, (by (repeat' (first | exact trivial | exact GB_wf | exact fun _ _ => rfl | constructor)); first | done | fail), (by (repeat' (first | exact trivial | exact GB_fits rfl | constructor)); first | done | fail)⟩ ?_) | (refine vcall_out (l :=  [0, 2, 3, 4, 7]) (c4' ) ⟨rfl, rfl, rfl, rfl, (by (repeat' (first | exact trivial | exact GB_wf | exact fun _ _ => rfl | constructor)); first | done | fail), (by (repeat' (first | exact trivial | exact GB_fits rfl | constructor)); first | done | fail)⟩ ?_) | (refine vcall_out (l :=  [0, 2, 3, 4, 9]) (c5 ) ⟨rfl, rfl, rfl, rfl, (by (repeat' (first | exact trivial | exact GB_wf | exact fun _ _ => rfl | constructor)); first | done | fail), (by (repeat' (first | exact trivial | exact GB_fits rfl | constructor)); first | done | fail)⟩ ?_) | (refine vcall_out (l :=  [0, 2, 3, 4, 9]) (c6 ) ⟨rfl, rfl, rfl, rfl, (by (repeat' (first | exact trivial | exact GB_wf | exact fun _ _ => rfl | constructor)); first | done | fail), (by (repeat' (first | exact trivial | exact GB_fits rfl | constructor)); first | done | fail)⟩ ?_) | (refine vcallD_out (l :=  [0, 2, 3, 4, 9]) (c6 ) ⟨rfl, rfl, rfl, rfl, (by (repeat' (first | exact trivial | exact GB_wf | exact fun _ _ => rfl | constructor)); first | done | fail), (by (repeat' (first | exact trivial | exact GB_fits rfl | constructor)); first | done | fail)⟩ ?_) | (refine br_dec (fun h => ?_) (fun h => ?_) <;> try (exfalso; (try dsimp only at h); omega)) | (refine br_ndec (fun h => ?_) (fun h => ?_) <;> try (exfalso; (try dsimp only at h); omega)) | refine br_seq (fun h => ?_) (fun h => ?_) | refine br_nseq (fun h => ?_) (fun h => ?_) | refine br_not (fun h => ?_) (fun h => ?_) | refine br_intro (fun h => ?_) (fun h => ?_) | refine cond_intro rfl ?_ | (refine cond_intro ⟨rfl, ?_⟩ ?_; (first | omega | (dsimp only; omega) | decide)) | (refine cond_intro ?_ ?_; (first | omega | (dsimp only; omega) | decide | (simp only [Nat.add_zero, Int.toNat_natCast, *]; omega))))
  all_goals (conv => whnf)
  all_goals exact ret_pure rfl
end Go.Proofs.Ytpconbdoackcfaa
