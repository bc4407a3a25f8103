/- Contracts of package route: the partners of an issuer. -/
import Derived.Test.YtkmbnniikncaiaaRtC2
namespace Go.Proofs.Ytkmbnniikncaiaa
open Go.RowKit Go.Sy
attribute [local irreducible] vcall vloop vcallD retP
set_option maxRecDepth 100000
set_option linter.unusedVariables false
set_option linter.unusedSimpArgs false

/-- The parties of the backups of an issuer, and their number. -/
def paL (bi bp : List ByteArray) (nm : ByteArray) : Nat → List ByteArray
  | 0 => []
  | k + 1 => if seq (bi.getD k ⟨#[]⟩) nm = true then paL bi bp nm k ++ [bp.getD k ⟨#[]⟩] else paL bi bp nm k
def paN (bi : List ByteArray) (nm : ByteArray) : Nat → Nat
  | 0 => 0
  | k + 1 => if seq (bi.getD k ⟨#[]⟩) nm = true then paN bi nm k + 1 else paN bi nm k
theorem paN_le (bi : List ByteArray) (nm : ByteArray) : ∀ k, paN bi nm k ≤ k
  | 0 => Nat.le_refl _
  | k + 1 => by
    have := paN_le bi nm k
    simp only [paN]
    split <;> omega
abbrev tbR (r : Rt) : Heap := [(1, some (.one true (.cells [.sl 2 0 0 r.L.n, .sl 3 0 0 r.m, .int .i64 r.f, .map 4 0]))), (3, some (bkB r.m r.bi r.bp))]
theorem rt_partners (r : Rt) (nm : ByteArray) (hm : r.m ≤ 1000000) : FC Try.prog 5 26 [.ptr 1 0 0 0, .str nm] (tbR r) (isOut (.sl 5 0 0 (paN r.bi nm r.m)) [(5, some (.one false (.cols (paN r.bi nm r.m) [.sc (.strs (paL r.bi r.bp nm r.m))])))] 6) := by
  refine fc_of mixed T_ok Try.func26 rfl (by kernel_rfl) (by kernel_rfl) (by kernel_rfl) ?_
  repeat' ((conv => whnf); first | (refine br_dec (fun h => ?_) (fun h => ?_) <;> try (exfalso; (try dsimp only at h); omega)) | (refine br_ndec (fun h => ?_) (fun h => ?_) <;> try (exfalso; (try dsimp only at h); omega)) | refine br_seq (fun h => ?_) (fun h => ?_) | refine br_nseq (fun h => ?_) (fun h => ?_) | refine br_not (fun h => ?_) (fun h => ?_) | refine br_intro (fun h => ?_) (fun h => ?_) | refine cond_intro rfl ?_ | (refine cond_intro ⟨rfl, ?_⟩ ?_; (first | omega | (dsimp only; omega) | decide)) | (refine cond_intro ?_ ?_; (first | omega | (dsimp only; omega) | decide | (simp only [Nat.add_zero, Int.toNat_natCast, *]; omega))))
  all_goals (conv => whnf)
  refine vloop_of (fun k : Nat => ⟨[(1, .str nm), (5, .sl 5 0 0 (paN r.bi nm k)), (11, .sl 3 0 0 r.m), (12, .int .i64 r.m), (13, .int .i64 k)], [(5, some (.one false (.cols (paN r.bi nm k) [.sc (.strs (paL r.bi r.bp nm k))]))), (1, some (.one true (.cells [.sl 2 0 0 r.L.n, .sl 3 0 0 r.m, .int .i64 r.f, .map 4 0]))), (3, some (bkB r.m r.bi r.bp))], 6⟩) (fun k => k ≤ r.m) (fun k => r.m - k) 0 [0, 1, 2, 3, 4, 5] [.slot 5 [.sc (.strs [])]] ⟨rfl, ⟨rfl, rfl, rfl, rfl, rfl, trivial⟩, ⟨rfl, rfl, rfl, trivial⟩⟩ (by omega) ?_
  intro k hk
  have hp := paN_le r.bi nm k
  by_cases hk2 : k < r.m
  · cases hq : seq (r.bi.getD k ⟨#[]⟩) nm with
    | true =>
      have e1 : paL r.bi r.bp nm (k + 1) = paL r.bi r.bp nm k ++ [r.bp.getD k ⟨#[]⟩] := by simp only [paL, hq]; rfl
      have e2 : paN r.bi nm (k + 1) = paN r.bi nm k + 1 := by simp only [paN, hq]; rfl
      generalize hc : paN r.bi nm k = c at *
      generalize hl : paL r.bi r.bp nm k = l at *
      repeat' ((conv => whnf); first | (refine br_intro (fun h => ?_) (fun h => absurd (hq.symm.trans h) (by decide))) | (refine br_dec (fun h => ?_) (fun h => ?_) <;> try (exfalso; (try dsimp only at h); omega)) | (refine br_ndec (fun h => ?_) (fun h => ?_) <;> try (exfalso; (try dsimp only at h); omega)) | refine br_seq (fun h => ?_) (fun h => ?_) | refine br_nseq (fun h => ?_) (fun h => ?_) | refine br_not (fun h => ?_) (fun h => ?_) | refine br_intro (fun h => ?_) (fun h => ?_) | refine cond_intro rfl ?_ | (refine cond_intro ⟨rfl, ?_⟩ ?_; (first | omega | (dsimp only; omega) | decide)) | (refine cond_intro ?_ ?_; (first | omega | (dsimp only; omega) | decide | (simp only [Nat.add_zero, Int.toNat_natCast, *]; omega))))
      all_goals (conv => whnf)
      all_goals (refine ⟨k + 1, [0, 1, 2, 3, 4, 8], [], by omega, by omega, ?_⟩; rw [e1, e2]; exact ⟨rfl, ⟨rfl, rfl, rfl, rfl, congrArg (fun z => some (SV.int .i64 z)) (i64_succ (by omega)), trivial⟩, ⟨rfl, rfl, rfl, trivial⟩⟩)
    | false =>
      have e1 : paL r.bi r.bp nm (k + 1) = paL r.bi r.bp nm k := by simp only [paL, hq]; rfl
      have e2 : paN r.bi nm (k + 1) = paN r.bi nm k := by simp only [paN, hq]; rfl
      generalize hc : paN r.bi nm k = c at *
      generalize hl : paL r.bi r.bp nm k = l at *
      repeat' ((conv => whnf); first | (refine br_intro (fun h => absurd (hq.symm.trans h) (by decide)) (fun h => ?_)) | (refine br_dec (fun h => ?_) (fun h => ?_) <;> try (exfalso; (try dsimp only at h); omega)) | (refine br_ndec (fun h => ?_) (fun h => ?_) <;> try (exfalso; (try dsimp only at h); omega)) | refine br_seq (fun h => ?_) (fun h => ?_) | refine br_nseq (fun h => ?_) (fun h => ?_) | refine br_not (fun h => ?_) (fun h => ?_) | refine br_intro (fun h => ?_) (fun h => ?_) | refine cond_intro rfl ?_ | (refine cond_intro ⟨rfl, ?_⟩ ?_; (first | omega | (dsimp only; omega) | decide)) | (refine cond_intro ?_ ?_; (first | omega | (dsimp only; omega) | decide | (simp only [Nat.add_zero, Int.toNat_natCast, *]; omega))))
      all_goals (conv => whnf)
      all_goals (refine ⟨k + 1, [0, 1, 2, 3, 4, 5], [], by omega, by omega, ?_⟩; rw [e1, e2]; exact ⟨rfl, ⟨rfl, rfl, rfl, rfl, congrArg (fun z => some (SV.int .i64 z)) (i64_succ (by omega)), trivial⟩, ⟨rfl, rfl, rfl, trivial⟩⟩)
  · have e : k = r.m := by omega
    subst e
    generalize paN r.bi nm r.m = c at *
    generalize paL r.bi r.bp nm r.m = l at *
    repeat' ((conv => whnf); first | (refine br_dec (fun h => ?_) (fun h => ?_) <;> try (exfalso; (try dsimp only at h); omega)) | (refine br_ndec (fun h => ?_) (fun h => ?_) <;> try (exfalso; (try dsimp only at h); omega)) | refine br_seq (fun h => ?_) (fun h => ?_) | refine br_nseq (fun h => ?_) (fun h => ?_) | refine br_not (fun h => ?_) (fun h => ?_) | refine br_intro (fun h => ?_) (fun h => ?_) | refine cond_intro rfl ?_ | (refine cond_intro ⟨rfl, ?_⟩ ?_; (first | omega | (dsimp only; omega) | decide)) | (refine cond_intro ?_ ?_; (first | omega | (dsimp only; omega) | decide | (simp only [Nat.add_zero, Int.toNat_natCast, *]; omega))))
    all_goals (conv => whnf)
    all_goals first
      | exact ret_out (l := [0, 1, 2, 3, 4, 5]) rfl rfl ⟨rfl, trivial⟩ (allRw_cons allRw_nil)
      | (exfalso; omega)
end Go.Proofs.Ytkmbnniikncaiaa
