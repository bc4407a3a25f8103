/- The law DiskPlays. -/
import Derived.Test.YtmbbmdccpmmifaaDiskP
namespace Go.Proofs.Ytmbbmdccpmmifaa
open Go.RowKit Go.Sy
attribute [local irreducible] vcall vloop vcallD retP
set_option maxRecDepth 100000
set_option linter.unusedVariables false

/-- What holds of the disk between two calls. -/
structure DkGood (d : Dk) : Prop where
  ok : d.ok
  wh : Whole d
  mr : 0 ≤ d.mask ∧ d.mask < 2 ^ 64

theorem crashD_good {d : Dk} (h : d.ok) (m : Int) : DkGood (crashD m d) := ⟨crashD_ok h m, rfl, by simp [crashD]⟩
theorem good_new (n : Nat) (h : n ≤ 4096) : DkGood (newD n) := ⟨newD_ok n h, rfl, by simp [newD]⟩
theorem good_play {d : Dk} (h : DkGood d) (c n : Int) (t : ByteArray) (m : Int) (hm : 0 ≤ m ∧ m < 2 ^ 64) : DkGood (playD d c n t m) := by
  unfold playD
  split
  · unfold writeD
    split
    · exact h
    · split
      · exact h
      · split
        · exact h
        · split
          · exact h
          · have hp := putD_ok (s := t) h.ok (n := n) (by omega) (by omega)
            split
            · exact crashD_good hp _
            · exact ⟨countD_ok hp, putD_whole h.ok h.wh n t, h.mr⟩
  · split
    · exact h
    · split
      · unfold flushD
        split
        · exact h
        · split
          · exact crashD_good h.ok _
          · exact ⟨countD_ok (keepD_ok h.ok), h.wh, h.mr⟩
      · split
        · unfold crashed
          split
          · exact h
          · exact crashD_good h.ok m
        · split
          · refine ⟨armD_ok h.ok n m, ?_, ?_⟩
            · unfold armD
              split
              · exact h.wh
              · split
                · exact h.wh
                · exact h.wh
            · unfold armD
              split
              · exact h.mr
              · split
                · exact h.mr
                · exact hm
          · refine ⟨recoverD_ok h.ok, ?_, ?_⟩
            · unfold recoverD
              split
              · exact h.wh
              · exact h.wh
            · unfold recoverD
              split
              · exact h.mr
              · exact h.mr

theorem fewB_yes {n : Nat} {ct : List ByteArray} (h : fewB n ct = true) : n ≤ 80 := by
  unfold fewB at h; exact (of_decide_eq_true h).1
theorem u64_getD {l : List Int} (w : ∀ x ∈ l, (Lit.int .u64 x).wf = true) : ∀ i, i < l.length → 0 ≤ l.getD i 0 ∧ l.getD i 0 < 2 ^ 64 := by
  intro i hi
  have h := w _ (getD_mem l i 0 hi)
  generalize l.getD i 0 = z at h
  simp only [Lit.wf, Bool.and_eq_true, decide_eq_true_eq] at h
  have h' : 0 ≤ z ∧ z ≤ 18446744073709551615 := h
  omega

/-- Both disks in memory: handles 2 to 8. -/
def twoH (d : Dk) : Heap :=
  [(2, some (.one false (.cells [.sl 3 0 0 d.nn, .sl 4 0 0 d.nn, .sl 5 0 0 d.np, .bool d.down, .int .i64 d.steps, .int .u64 d.mask]))), (3, some (.one false (.cols d.nn [.sc (.strs d.kept)]))), (4, some (.one false (.cols d.nn [.sc (.strs d.now)]))),
   (5, some (.one false (.cols d.np [.sc (.ints .i64 d.pn), .sc (.strs d.ps)]))),
   (6, some (.one false (.cells [.sl 7 0 0 d.nn, .sl 8 0 0 d.np, .bool d.down, .int .i64 d.steps, .int .u64 d.mask]))), (7, some (.one false (.cols d.nn [.sc (.strs d.kept)]))),
   (8, some (.one false (.cols d.np [.sc (.ints .i64 d.pn), .sc (.strs d.ps)])))]

theorem diskPlays_fc (n0 : Int) (hw0 : (Lit.int .i64 n0).wf = true) (l1 : Nat) (hl1 : l1 ≤ maxLen) (q1_0 : List Int) (eq1_0 : q1_0.length = l1) (wq1_0 : ∀ x ∈ q1_0, (Lit.int .u8 x).wf = true) (q1_1 : List Int) (eq1_1 : q1_1.length = l1) (wq1_1 : ∀ x ∈ q1_1, (Lit.int .i64 x).wf = true) (q1_2 : List ByteArray) (eq1_2 : q1_2.length = l1) (wq1_2 : ∀ x ∈ q1_2, x.size ≤ maxLen) (q1_3 : List Int) (eq1_3 : q1_3.length = l1) (wq1_3 : ∀ x ∈ q1_3, (Lit.int .u64 x).wf = true) :
    FC Try.prog 2 6 [.int .i64 n0, .sl 1 0 0 l1] [(1, some (.one true (.cols l1 [.sc (.ints .u8 q1_0), .sc (.ints .i64 q1_1), .sc (.strs q1_2), .sc (.ints .u64 q1_3)])))] (isOut (.bool true) [] 2) := by
  have s1 := law_few l1 q1_0 q1_1 q1_2 q1_3 hl1
  have haw := law_awake
  have hq := u64_getD wq1_3
  rw [eq1_3] at hq
  cases h0 : fewB l1 q1_2
  · rw [h0] at s1
    refine fc_of mixed T_ok Try.func6 rfl (by kernel_rfl) (by kernel_rfl) (by kernel_rfl) ?_
    repeat' ((conv => whnf); first | (refine vcall_out (l :=  [0, 1]) (s1 ) ⟨rfl, rfl, rfl, rfl, (by (repeat' (first | exact trivial | constructor)); first | done | fail), (by (repeat' (first | exact trivial | constructor)); first | done | fail)⟩ ?_) | (refine vcall_pure (haw) rfl rfl rfl ?_) | (refine br_dec (fun h => ?_) (fun h => ?_) <;> try (exfalso; omega)) | (refine br_ndec (fun h => ?_) (fun h => ?_) <;> try (exfalso; omega)) | refine br_seq (fun h => ?_) (fun h => ?_) | refine br_nseq (fun h => ?_) (fun h => ?_) | refine br_not (fun h => ?_) (fun h => ?_) | refine br_intro (fun h => ?_) (fun h => ?_) | (refine cond_intro ?_ ?_; (first | omega | (dsimp only; omega) | decide | (simp only [Nat.add_zero, Int.toNat_natCast, *]; omega))))
    all_goals (conv => whnf)
    all_goals exact ret_out (l := [0, 1]) rfl rfl trivial allRw_nil
  rw [h0] at s1
  have y0 := fewB_yes h0
  by_cases hn : n0 < 1 ∨ 4096 < n0
  · have d1 := disk_New_no n0 hn
    have d2 := ref_New_no n0 hn
    refine fc_of mixed T_ok Try.func6 rfl (by kernel_rfl) (by kernel_rfl) (by kernel_rfl) ?_
    repeat' ((conv => whnf); first | (refine vcall_out (l :=  [0, 1]) (s1 ) ⟨rfl, rfl, rfl, rfl, (by (repeat' (first | exact trivial | constructor)); first | done | fail), (by (repeat' (first | exact trivial | constructor)); first | done | fail)⟩ ?_) | (refine vcall_pure (d1) rfl rfl rfl ?_) | (refine vcall_pure (d2) rfl rfl rfl ?_) | (refine br_dec (fun h => ?_) (fun h => ?_) <;> try (exfalso; omega)) | (refine br_ndec (fun h => ?_) (fun h => ?_) <;> try (exfalso; omega)) | refine br_seq (fun h => ?_) (fun h => ?_) | refine br_nseq (fun h => ?_) (fun h => ?_) | refine br_not (fun h => ?_) (fun h => ?_) | refine br_intro (fun h => ?_) (fun h => ?_) | (refine cond_intro ?_ ?_; (first | omega | (dsimp only; omega) | decide | (simp only [Nat.add_zero, Int.toNat_natCast, *]; omega))))
    all_goals (conv => whnf)
    refine vloop_of (fun k : Nat => ⟨[(1, .sl 1 0 0 l1), (5, .nptr), (7, .nptr), (9, .int .i64 k)], [(1, some (.one true (.cols l1 [.sc (.ints .u8 q1_0), .sc (.ints .i64 q1_1), .sc (.strs q1_2), .sc (.ints .u64 q1_3)])))], 2⟩) (fun k => k ≤ l1) (fun k => l1 - k) 0 [0, 1] [] ⟨rfl, ⟨rfl, rfl, rfl, rfl, trivial⟩, ⟨rfl, trivial⟩⟩ (by omega) ?_
    intro k hk
    by_cases hlt : k < l1
    · have hp := law_play_nil (q1_0.getD k 0) (q1_1.getD k 0) (q1_2.getD k ⟨#[]⟩) (q1_3.getD k 0)
      repeat' ((conv => whnf); first | (refine vcall_pure (hp) rfl rfl rfl ?_) | (refine vcall_pure (nil_Blocks) rfl rfl rfl ?_) | (refine vcall_pure (rnil_Blocks) rfl rfl rfl ?_) | (refine vcall_pure (nil_Pending) rfl rfl rfl ?_) | (refine vcall_pure (rnil_Pending) rfl rfl rfl ?_) | (refine vcall_pure (nil_Down) rfl rfl rfl ?_) | (refine vcall_pure (rnil_Down) rfl rfl rfl ?_) | (refine br_dec (fun h => ?_) (fun h => ?_) <;> try (exfalso; omega)) | (refine br_ndec (fun h => ?_) (fun h => ?_) <;> try (exfalso; omega)) | refine br_seq (fun h => ?_) (fun h => ?_) | refine br_nseq (fun h => ?_) (fun h => ?_) | refine br_not (fun h => ?_) (fun h => ?_) | refine br_intro (fun h => ?_) (fun h => ?_) | (refine cond_intro ?_ ?_; (first | omega | (dsimp only; omega) | decide | (simp only [Nat.add_zero, Int.toNat_natCast, *]; omega))))
      all_goals (conv => whnf)
      refine ⟨k + 1, [0, 1], [], by omega, by omega, ⟨rfl, ⟨rfl, rfl, rfl, congrArg (fun z => some (SV.int .i64 z)) (i64_succ (by omega)), trivial⟩, ⟨rfl, trivial⟩⟩⟩
    · repeat' ((conv => whnf); first | (refine vcall_pure (haw) rfl rfl rfl ?_) | (refine br_dec (fun h => ?_) (fun h => ?_) <;> try (exfalso; omega)) | (refine br_ndec (fun h => ?_) (fun h => ?_) <;> try (exfalso; omega)) | refine br_seq (fun h => ?_) (fun h => ?_) | refine br_nseq (fun h => ?_) (fun h => ?_) | refine br_not (fun h => ?_) (fun h => ?_) | refine br_intro (fun h => ?_) (fun h => ?_) | (refine cond_intro ?_ ?_; (first | omega | (dsimp only; omega) | decide | (simp only [Nat.add_zero, Int.toNat_natCast, *]; omega))))
      all_goals (conv => whnf)
      all_goals exact ret_out (l := [0, 1]) rfl rfl trivial allRw_nil
  · obtain ⟨n, rfl⟩ := Int.eq_ofNat_of_zero_le (a := n0) (by omega)
    have d1 := disk_New n (by omega)
    have d2 := ref_New n (by omega)
    refine fc_of mixed T_ok Try.func6 rfl (by kernel_rfl) (by kernel_rfl) (by kernel_rfl) ?_
    repeat' ((conv => whnf); first | (refine vcall_out (l :=  [0, 1]) (s1 ) ⟨rfl, rfl, rfl, rfl, (by (repeat' (first | exact trivial | constructor)); first | done | fail), (by (repeat' (first | exact trivial | constructor)); first | done | fail)⟩ ?_) | (refine vcall_out (l :=  [0]) (d1 ) ⟨rfl, rfl, rfl, rfl, (by (repeat' (first | exact trivial | constructor)); first | done | fail), (by (repeat' (first | exact trivial | constructor)); first | done | fail)⟩ ?_) | (refine vcall_out (l :=  [0]) (d2 ) ⟨rfl, rfl, rfl, rfl, (by (repeat' (first | exact trivial | constructor)); first | done | fail), (by (repeat' (first | exact trivial | constructor)); first | done | fail)⟩ ?_) | (refine br_dec (fun h => ?_) (fun h => ?_) <;> try (exfalso; omega)) | (refine br_ndec (fun h => ?_) (fun h => ?_) <;> try (exfalso; omega)) | refine br_seq (fun h => ?_) (fun h => ?_) | refine br_nseq (fun h => ?_) (fun h => ?_) | refine br_not (fun h => ?_) (fun h => ?_) | refine br_intro (fun h => ?_) (fun h => ?_) | (refine cond_intro ?_ ?_; (first | omega | (dsimp only; omega) | decide | (simp only [Nat.add_zero, Int.toNat_natCast, *]; omega))))
    all_goals (conv => whnf)
    refine vloop_of (fun p : Nat × Dk => ⟨[(1, .sl 1 0 0 l1), (5, .ptr 2 0 0 0), (7, .ptr 6 0 0 0), (9, .int .i64 p.1)], (1, some (.one true (.cols l1 [.sc (.ints .u8 q1_0), .sc (.ints .i64 q1_1), .sc (.strs q1_2), .sc (.ints .u64 q1_3)]))) :: twoH p.2, 9⟩) (fun p => p.1 ≤ l1 ∧ DkGood p.2) (fun p => l1 - p.1) (0, newD n) [0, 1, 2, 3, 4, 5, 6, 7, 8] [] ⟨rfl, ⟨rfl, rfl, rfl, rfl, trivial⟩, ⟨rfl, rfl, rfl, rfl, rfl, rfl, rfl, rfl, trivial⟩⟩ ⟨by dsimp only; omega, good_new n (by omega)⟩ ?_
    rintro ⟨k, d⟩ ⟨hk, hd⟩
    dsimp only at hk hd
    by_cases hlt : k < l1
    · have hp := law_play d hd.ok hd.wh hd.mr (q1_0.getD k 0) (q1_1.getD k 0) (q1_2.getD k ⟨#[]⟩) (q1_3.getD k 0) (hq k hlt)
      have hg := good_play hd (q1_0.getD k 0) (q1_1.getD k 0) (q1_2.getD k ⟨#[]⟩) (q1_3.getD k 0) (hq k hlt)
      generalize playD d (q1_0.getD k 0) (q1_1.getD k 0) (q1_2.getD k ⟨#[]⟩) (q1_3.getD k 0) = d' at hp hg
      have b1 := disk_Blocks d'
      have b2 := ref_Blocks d'
      have p1 := disk_Pending d'
      have p2 := ref_Pending d'
      have e1 := disk_Down d'
      have e2 := ref_Down d'
      repeat' ((conv => whnf); first | (refine vcall_out (l :=  [0, 2, 3, 4, 5, 6, 7, 8]) (hp ) ⟨rfl, rfl, rfl, rfl, (by (repeat' (first | exact trivial | constructor)); first | done | fail), (by (repeat' (first | exact trivial | constructor)); first | done | fail)⟩ ?_) | (refine vcall_out (l :=  [0, 2, 3, 4, 9]) (b1 ) ⟨rfl, rfl, rfl, rfl, (by (repeat' (first | exact trivial | constructor)); first | done | fail), (by (repeat' (first | exact trivial | constructor)); first | done | fail)⟩ ?_) | (refine vcall_out (l :=  [0, 6, 7, 10]) (b2 ) ⟨rfl, rfl, rfl, rfl, (by (repeat' (first | exact trivial | constructor)); first | done | fail), (by (repeat' (first | exact trivial | constructor)); first | done | fail)⟩ ?_) | (refine vcall_out (l :=  [0, 2, 3, 4, 9]) (p1 ) ⟨rfl, rfl, rfl, rfl, (by (repeat' (first | exact trivial | constructor)); first | done | fail), (by (repeat' (first | exact trivial | constructor)); first | done | fail)⟩ ?_) | (refine vcall_out (l :=  [0, 6, 7, 10]) (p2 ) ⟨rfl, rfl, rfl, rfl, (by (repeat' (first | exact trivial | constructor)); first | done | fail), (by (repeat' (first | exact trivial | constructor)); first | done | fail)⟩ ?_) | (refine vcall_out (l :=  [0, 2, 3, 4, 9]) (e1 ) ⟨rfl, rfl, rfl, rfl, (by (repeat' (first | exact trivial | constructor)); first | done | fail), (by (repeat' (first | exact trivial | constructor)); first | done | fail)⟩ ?_) | (refine vcall_out (l :=  [0, 6, 7, 10]) (e2 ) ⟨rfl, rfl, rfl, rfl, (by (repeat' (first | exact trivial | constructor)); first | done | fail), (by (repeat' (first | exact trivial | constructor)); first | done | fail)⟩ ?_) | (refine br_dec (fun h => ?_) (fun h => ?_) <;> try (exfalso; omega)) | (refine br_ndec (fun h => ?_) (fun h => ?_) <;> try (exfalso; omega)) | refine br_seq (fun h => ?_) (fun h => ?_) | refine br_nseq (fun h => ?_) (fun h => ?_) | refine br_not (fun h => ?_) (fun h => ?_) | refine br_intro (fun h => ?_) (fun h => ?_) | (refine cond_intro ?_ ?_; (first | omega | (dsimp only; omega) | decide | (simp only [Nat.add_zero, Int.toNat_natCast, *]; omega))))
      all_goals (conv => whnf)
      all_goals first
        | (exfalso; exact h rfl)
        | (refine ⟨(k + 1, d'), [0, 1, 2, 3, 4, 9, 6, 7, 10], [], ⟨by dsimp only; omega, hg⟩, by dsimp only; omega, ⟨rfl, ⟨rfl, rfl, rfl, congrArg (fun z => some (SV.int .i64 z)) (i64_succ (by omega)), trivial⟩, ⟨rfl, rfl, rfl, rfl, rfl, rfl, rfl, rfl, trivial⟩⟩⟩)
    · repeat' ((conv => whnf); first | (refine vcall_pure (haw) rfl rfl rfl ?_) | (refine br_dec (fun h => ?_) (fun h => ?_) <;> try (exfalso; omega)) | (refine br_ndec (fun h => ?_) (fun h => ?_) <;> try (exfalso; omega)) | refine br_seq (fun h => ?_) (fun h => ?_) | refine br_nseq (fun h => ?_) (fun h => ?_) | refine br_not (fun h => ?_) (fun h => ?_) | refine br_intro (fun h => ?_) (fun h => ?_) | (refine cond_intro ?_ ?_; (first | omega | (dsimp only; omega) | decide | (simp only [Nat.add_zero, Int.toNat_natCast, *]; omega))))
      all_goals (conv => whnf)
      all_goals exact ret_out (l := [0, 1]) rfl rfl trivial allRw_nil
end Go.Proofs.Ytmbbmdccpmmifaa
