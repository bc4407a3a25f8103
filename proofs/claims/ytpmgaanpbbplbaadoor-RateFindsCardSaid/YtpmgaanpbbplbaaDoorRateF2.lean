/- The law on rates that are found in a list: its function. -/
import Derived.Test.YtpmgaanpbbplbaaDoorRateF
namespace Go.Proofs.YtpmgaanpbbplbaaDoor
open Go.RowKit Go.Sy
attribute [local irreducible] vcall vloop vcallD retP
set_option maxRecDepth 100000
set_option linter.unusedVariables false
set_option linter.unusedSimpArgs false

theorem findT_shape (q : RL) (f t p : ByteArray) : ∃ a b : ByteArray, ∃ n d e : Int, findT q f t p = .tup [.agg [.str a, .str b, .int .i64 n, .int .i64 d], .int .i64 e] := by
  unfold findT
  split
  · exact ⟨_, _, _, _, _, rfl⟩
  · split
    · exact ⟨_, _, _, _, _, rfl⟩
    · split <;> exact ⟨_, _, _, _, _, rfl⟩

theorem rateFinds_fc (l0_0 : Nat) (hl0_0 : l0_0 ≤ maxLen) (q0_0_0 : List ByteArray) (eq0_0_0 : q0_0_0.length = l0_0) (wq0_0_0 : ∀ x ∈ q0_0_0, x.size ≤ maxLen) (q0_0_1 : List ByteArray) (eq0_0_1 : q0_0_1.length = l0_0) (wq0_0_1 : ∀ x ∈ q0_0_1, x.size ≤ maxLen) (q0_0_2 : List Int) (eq0_0_2 : q0_0_2.length = l0_0) (wq0_0_2 : ∀ x ∈ q0_0_2, (Lit.int .i64 x).wf = true) (q0_0_3 : List Int) (eq0_0_3 : q0_0_3.length = l0_0) (wq0_0_3 : ∀ x ∈ q0_0_3, (Lit.int .i64 x).wf = true) (x0_1 : ByteArray) (hx0_1 : x0_1.size ≤ maxLen) (x0_2 : ByteArray) (hx0_2 : x0_2.size ≤ maxLen) (x0_3 : ByteArray) (hx0_3 : x0_3.size ≤ maxLen) :
    FC Tryd.prog 2 7 [.agg [.sl 1 0 0 l0_0, .str x0_1, .str x0_2, .str x0_3]] [(0, some (GB glT)), (1, some (.one true (.cols l0_0 [.sc (.strs q0_0_0), .sc (.strs q0_0_1), .sc (.ints .i64 q0_0_2), .sc (.ints .i64 q0_0_3)])))] (isOut (.bool true) [] 2) := by
  obtain ⟨q, hq⟩ : ∃ q : RL, q = ⟨q0_0_0, q0_0_1, q0_0_2, q0_0_3, l0_0⟩ := ⟨_, rfl⟩
  have c7 := law_awake
  have e1 : q.f = q0_0_0 := by rw [hq]
  have e2 : q.t = q0_0_1 := by rw [hq]
  have e3 : q.n = q0_0_2 := by rw [hq]
  have e4 : q.d = q0_0_3 := by rw [hq]
  have e5 : q.l = l0_0 := by rw [hq]
  rw [← e1, ← e2, ← e3, ← e4, ← e5]
  rw [← e1, ← e5] at eq0_0_0
  rw [← e2, ← e5] at eq0_0_1
  clear hq e1 e2 e3 e4 e5 wq0_0_0 wq0_0_1 wq0_0_2 wq0_0_3 eq0_0_2 eq0_0_3 hl0_0
  refine fc_of mixed T_ok Tryd.func7 rfl (by kernel_rfl) (by kernel_rfl) (by kernel_rfl) ?_
  repeat' ((conv => whnf); first | (refine vcall_glob (c7) rfl rfl rfl rfl ?_) | (refine br_dec (fun h => ?_) (fun h => ?_) <;> try (exfalso; omega)) | (refine br_ndec (fun h => ?_) (fun h => ?_) <;> try (exfalso; omega)) | refine br_seq (fun h => ?_) (fun h => ?_) | refine br_nseq (fun h => ?_) (fun h => ?_) | refine br_not (fun h => ?_) (fun h => ?_) | refine br_intro (fun h => ?_) (fun h => ?_) | refine cond_intro rfl ?_ | (refine cond_intro ⟨rfl, ?_⟩ ?_; (first | omega | (dsimp only; omega) | decide)) | (refine cond_intro ?_ ?_; (first | omega | (dsimp only; omega) | decide | (simp only [Nat.add_zero, Int.toNat_natCast, *]; omega))))
  all_goals (conv => whnf)
  all_goals first | exact ret_out (l := [0, 1]) rfl rfl trivial allRw_nil | skip
  refine vloop_of (fun k : Nat => ⟨[(1, .ptr 2 0 0 0), (3, .int .i64 k)], (2, some (.one false (.cells [.sl 1 0 0 q.l, .str x0_1, .str x0_2, .str x0_3]))) :: q.H, 3⟩) (fun k => k ≤ q.l ∧ ∀ i, i < k → (q.at i).f.size ≤ 20 ∧ (q.at i).t.size ≤ 20) (fun k => q.l - k) 0 [0, 1, 2] [] ⟨rfl, ⟨rfl, rfl, trivial⟩, ⟨rfl, gwk rfl, rfl, trivial⟩⟩ ⟨by omega, fun i hi => by omega⟩ ?_
  rintro k ⟨hk, hc⟩
  have a1 := law_small (q.at k).f (q.at k).t (q.at k).n (q.at k).d
  by_cases hlt : k < q.l
  · repeat' ((conv => whnf); first | (refine vcall_pure (a1) rfl rfl rfl ?_) | (refine vcall_glob (c7) rfl rfl rfl rfl ?_) | (refine br_dec (fun h => ?_) (fun h => ?_) <;> try (exfalso; omega)) | (refine br_ndec (fun h => ?_) (fun h => ?_) <;> try (exfalso; omega)) | refine br_seq (fun h => ?_) (fun h => ?_) | refine br_nseq (fun h => ?_) (fun h => ?_) | refine br_not (fun h => ?_) (fun h => ?_) | refine br_intro (fun h => ?_) (fun h => ?_) | refine cond_intro rfl ?_ | (refine cond_intro ⟨rfl, ?_⟩ ?_; (first | omega | (dsimp only; omega) | decide)) | (refine cond_intro ?_ ?_; (first | omega | (dsimp only; omega) | decide | (simp only [Nat.add_zero, Int.toNat_natCast, *]; omega))))
    all_goals (conv => whnf)
    · exact ret_out (l := [0, 1]) rfl rfl trivial allRw_nil
    · refine ⟨k + 1, [0, 1, 2], [], ⟨by omega, fun i hi => ?_⟩, by omega, ⟨rfl, ⟨rfl, congrArg (fun z => some (SV.int .i64 z)) (i64_succ (by omega)), trivial⟩, ⟨rfl, gwk rfl, rfl, trivial⟩⟩⟩
      by_cases e : i = k
      · subst e; assumption
      · exact hc i (by omega)
  · have hz : ∀ i, (q.at i).f.size ≤ 20 ∧ (q.at i).t.size ≤ 20 := by
      intro i
      by_cases hi : i < q.l
      · exact hc i (by omega)
      · have z1 : q.f.getD i ⟨#[]⟩ = ⟨#[]⟩ := by rw [List.getD, List.getElem?_eq_none (by omega)]; rfl
        have z2 : q.t.getD i ⟨#[]⟩ = ⟨#[]⟩ := by rw [List.getD, List.getElem?_eq_none (by omega)]; rfl
        simp only [RL.at, z1, z2]
        exact ⟨by decide, by decide⟩
    have c1 := rate_Find q (by omega) x0_1 x0_2 x0_3
    have c2 := ref02_Find q (by omega) hz x0_1 x0_2 x0_3
    obtain ⟨a, b, n, d, e, hT⟩ := findT_shape q x0_1 x0_2 x0_3
    rw [hT] at c1 c2
    repeat' ((conv => whnf); first | (refine vcall_out (l :=  [0, 1]) (c1 ) ⟨rfl, rfl, rfl, rfl, (by (repeat' (first | exact trivial | exact GB_wf | constructor)); first | done | fail), (by (repeat' (first | exact trivial | exact GB_fits rfl | constructor)); first | done | fail)⟩ ?_) | (refine vcall_out (l :=  [0, 1]) (c2 ) ⟨rfl, rfl, rfl, rfl, (by (repeat' (first | exact trivial | exact GB_wf | constructor)); first | done | fail), (by (repeat' (first | exact trivial | exact GB_fits rfl | constructor)); first | done | fail)⟩ ?_) | (refine vcall_glob (c7) rfl rfl rfl rfl ?_) | (refine br_dec (fun h => ?_) (fun h => ?_) <;> try (exfalso; omega)) | (refine br_ndec (fun h => ?_) (fun h => ?_) <;> try (exfalso; omega)) | refine br_seq (fun h => ?_) (fun h => ?_) | refine br_nseq (fun h => ?_) (fun h => ?_) | refine br_not (fun h => ?_) (fun h => ?_) | refine br_intro (fun h => ?_) (fun h => ?_) | refine cond_intro rfl ?_ | (refine cond_intro ⟨rfl, ?_⟩ ?_; (first | omega | (dsimp only; omega) | decide)) | (refine cond_intro ?_ ?_; (first | omega | (dsimp only; omega) | decide | (simp only [Nat.add_zero, Int.toNat_natCast, *]; omega))))
    all_goals (conv => whnf)
    all_goals first | exact ret_out (l := [0, 1]) rfl rfl trivial allRw_nil | (exfalso; clear c1 c2 c7 a1; simp_all [seq]; done)
end Go.Proofs.YtpmgaanpbbplbaaDoor
