/- Several texts in one: XLkM, XLkN, XLkO, XLkQ, XLkR, XLkS, XLkT, XLkU, XLkV, XLkW, XLkX, XLkY. -/
import Derived.Test.YtpconbdoackcfaaLinkCallsA
/- Contracts of the reference of links: faults, a new link, the times of arrival. -/
namespace Go.Proofs.Ytpconbdoackcfaa
open Go.RowKit Go.Sy
attribute [local irreducible] vcall vloop vcallD retP
set_option maxRecDepth 100000
set_option linter.unusedVariables false
set_option linter.unusedSimpArgs false

theorem rl_Check (p k a b f u e : Int) : Pure Try.prog 14 [.int .i64 p, .agg [.int .i64 k, .int .i64 a, .int .i64 b, .int .i64 f, .int .i64 u, .int .i64 e]] (.int .i64 (ckE p k a b f u e)) := by
  unfold ckE
  refine fc_of mixed T_ok Try.func14 rfl (by kernel_rfl) (by kernel_rfl) (by kernel_rfl) ?_
  repeat' ((conv => whnf); first | (refine br_dec (fun h => ?_) (fun h => ?_) <;> try (exfalso; (try dsimp only at h); omega)) | (refine br_ndec (fun h => ?_) (fun h => ?_) <;> try (exfalso; (try dsimp only at h); omega)) | refine br_seq (fun h => ?_) (fun h => ?_) | refine br_nseq (fun h => ?_) (fun h => ?_) | refine br_not (fun h => ?_) (fun h => ?_) | refine br_intro (fun h => ?_) (fun h => ?_) | refine cond_intro rfl ?_ | (refine cond_intro ⟨rfl, ?_⟩ ?_; (first | omega | (dsimp only; omega) | decide)) | (refine cond_intro ?_ ?_; (first | omega | (dsimp only; omega) | decide | (simp only [Nat.add_zero, Int.toNat_natCast, *]; omega))))
  all_goals (conv => whnf)
  all_goals first
    | ((repeat (first | rw [if_pos (by omega)] | rw [if_neg (by omega)] | rw [if_pos (by assumption)] | rw [if_neg (by assumption)] | rw [if_neg (bnf (by assumption))])); exact ret_pure rfl)
    | (exfalso; omega)
    | trace_state
theorem rl_concerns (k a b f u e t x y : Int) : Pure Try.prog 35 [.agg [.int .i64 k, .int .i64 a, .int .i64 b, .int .i64 f, .int .i64 u, .int .i64 e], .int .i64 t, .int .i64 x, .int .i64 y] (.bool (ifB f u t && cnB k a b x y)) := by
  have key : ∀ {v : Bool}, v = (ifB f u t && cnB k a b x y) → (ifB f u t && cnB k a b x y) = v := fun h => h.symm
  refine fc_of mixed T_ok Try.func35 rfl (by kernel_rfl) (by kernel_rfl) (by kernel_rfl) ?_
  repeat' ((conv => whnf); first | (refine br_dec (fun h => ?_) (fun h => ?_) <;> try (exfalso; (try dsimp only at h); omega)) | (refine br_ndec (fun h => ?_) (fun h => ?_) <;> try (exfalso; (try dsimp only at h); omega)) | refine br_seq (fun h => ?_) (fun h => ?_) | refine br_nseq (fun h => ?_) (fun h => ?_) | refine br_not (fun h => ?_) (fun h => ?_) | refine br_intro (fun h => ?_) (fun h => ?_) | refine cond_intro rfl ?_ | (refine cond_intro ⟨rfl, ?_⟩ ?_; (first | omega | (dsimp only; omega) | decide)) | (refine cond_intro ?_ ?_; (first | omega | (dsimp only; omega) | decide | (simp only [Nat.add_zero, Int.toNat_natCast, *]; omega))))
  all_goals (conv => whnf)
  all_goals first
    | (refine ret_pure (congrArg SV.bool ?_); unfold ifB cnB; rw [Bool.eq_iff_iff]; simp only [Bool.and_eq_true, decide_eq_true_eq, Bool.false_eq_true, iff_false, true_iff, iff_true, false_iff]; omega)
    | (exfalso; omega)
    | trace_state
/-- The reference's link: parties, latency, the faults, what is under way, the time, the number. -/
abbrev rlC (ro : Bool) (pa la : Int) (fn qn : Nat) (nw k : Int) : HB := .one ro (.cells [.int .i64 pa, .int .i64 la, .sl 2 0 0 fn, .sl 3 0 0 qn, .int .i64 nw, .int .i64 k])
abbrev rlR (pa la : Int) (F : Fa) (nw k : Int) (qn : Nat) (ar : Ar) : Heap := [(1, some (rlC true pa la F.n qn nw k)), (2, some (faB true F)), (3, some (.one true (arB qn ar)))]
theorem rl_New_err (p l : Int) (F : Fa) (he : lnE p l F ≠ 0) : FC Try.prog 2 12 [.int .i64 p, .int .i64 l, .sl 1 0 0 F.n] [(1, some (faB true F))] (isOut (.tup [.nptr, .int .i64 (lnE p l F)]) [] 2) := by
  unfold lnE at he ⊢
  by_cases h1 : p < 1 ∨ 16 < p ∨ l < 1 ∨ 1000 < l
  · rw [if_pos h1] at he ⊢
    refine fc_of mixed T_ok Try.func12 rfl (by kernel_rfl) (by kernel_rfl) (by kernel_rfl) ?_
    repeat' ((conv => whnf); first | (refine br_dec (fun h => ?_) (fun h => ?_) <;> try (exfalso; (try dsimp only at h); omega)) | (refine br_ndec (fun h => ?_) (fun h => ?_) <;> try (exfalso; (try dsimp only at h); omega)) | refine br_seq (fun h => ?_) (fun h => ?_) | refine br_nseq (fun h => ?_) (fun h => ?_) | refine br_not (fun h => ?_) (fun h => ?_) | refine br_intro (fun h => ?_) (fun h => ?_) | refine cond_intro rfl ?_ | (refine cond_intro ⟨rfl, ?_⟩ ?_; (first | omega | (dsimp only; omega) | decide)) | (refine cond_intro ?_ ?_; (first | omega | (dsimp only; omega) | decide | (simp only [Nat.add_zero, Int.toNat_natCast, *]; omega))))
    all_goals (conv => whnf)
    all_goals first
      | exact ret_out (l := [0, 1]) rfl rfl trivial allRw_nil
      | (exfalso; omega)
  rw [if_neg h1] at he ⊢
  by_cases h2 : 32 < F.n
  · rw [if_pos h2] at he ⊢
    refine fc_of mixed T_ok Try.func12 rfl (by kernel_rfl) (by kernel_rfl) (by kernel_rfl) ?_
    repeat' ((conv => whnf); first | (refine br_dec (fun h => ?_) (fun h => ?_) <;> try (exfalso; (try dsimp only at h); omega)) | (refine br_ndec (fun h => ?_) (fun h => ?_) <;> try (exfalso; (try dsimp only at h); omega)) | refine br_seq (fun h => ?_) (fun h => ?_) | refine br_nseq (fun h => ?_) (fun h => ?_) | refine br_not (fun h => ?_) (fun h => ?_) | refine br_intro (fun h => ?_) (fun h => ?_) | refine cond_intro rfl ?_ | (refine cond_intro ⟨rfl, ?_⟩ ?_; (first | omega | (dsimp only; omega) | decide)) | (refine cond_intro ?_ ?_; (first | omega | (dsimp only; omega) | decide | (simp only [Nat.add_zero, Int.toNat_natCast, *]; omega))))
    all_goals (conv => whnf)
    all_goals first
      | exact ret_out (l := [0, 1]) rfl rfl trivial allRw_nil
      | (exfalso; omega)
  rw [if_neg h2] at he ⊢
  refine fc_of mixed T_ok Try.func12 rfl (by kernel_rfl) (by kernel_rfl) (by kernel_rfl) ?_
  repeat' ((conv => whnf); first | (refine br_dec (fun h => ?_) (fun h => ?_) <;> try (exfalso; (try dsimp only at h); omega)) | (refine br_ndec (fun h => ?_) (fun h => ?_) <;> try (exfalso; (try dsimp only at h); omega)) | refine br_seq (fun h => ?_) (fun h => ?_) | refine br_nseq (fun h => ?_) (fun h => ?_) | refine br_not (fun h => ?_) (fun h => ?_) | refine br_intro (fun h => ?_) (fun h => ?_) | refine cond_intro rfl ?_ | (refine cond_intro ⟨rfl, ?_⟩ ?_; (first | omega | (dsimp only; omega) | decide)) | (refine cond_intro ?_ ?_; (first | omega | (dsimp only; omega) | decide | (simp only [Nat.add_zero, Int.toNat_natCast, *]; omega))))
  all_goals (conv => whnf)
  refine vloop_of (fun k : Nat => ⟨[(0, .int .i64 p), (1, .int .i64 l), (2, .sl 1 0 0 F.n), (8, .int .i64 k)], [(1, some (faB true F))], 2⟩) (fun k => k ≤ F.n ∧ F.errs p k = 0) (fun k => F.n - k) 0 [0, 1] [] ⟨rfl, ⟨rfl, rfl, rfl, rfl, trivial⟩, ⟨rfl, trivial⟩⟩ ⟨by omega, rfl⟩ ?_
  rintro k ⟨hk, hc⟩
  by_cases hk2 : k < F.n
  · have c := rl_Check p (F.k.getD k 0) (F.a.getD k 0) (F.b.getD k 0) (F.f.getD k 0) (F.u.getD k 0) (F.e.getD k 0)
    by_cases hz : F.err p k = 0
    · have e1 : F.errs p (k + 1) = 0 := by simp only [Fa.errs, hc, hz]; rfl
      unfold Fa.err at hz
      rw [hz] at c
      repeat' ((conv => whnf); first | (refine vcall_pure (c) rfl rfl rfl ?_) | (refine vcallD_pure (c) rfl rfl rfl ?_) | (refine br_dec (fun h => ?_) (fun h => ?_) <;> try (exfalso; (try dsimp only at h); omega)) | (refine br_ndec (fun h => ?_) (fun h => ?_) <;> try (exfalso; (try dsimp only at h); omega)) | refine br_seq (fun h => ?_) (fun h => ?_) | refine br_nseq (fun h => ?_) (fun h => ?_) | refine br_not (fun h => ?_) (fun h => ?_) | refine br_intro (fun h => ?_) (fun h => ?_) | refine cond_intro rfl ?_ | (refine cond_intro ⟨rfl, ?_⟩ ?_; (first | omega | (dsimp only; omega) | decide)) | (refine cond_intro ?_ ?_; (first | omega | (dsimp only; omega) | decide | (simp only [Nat.add_zero, Int.toNat_natCast, *]; omega))))
      all_goals (conv => whnf)
      all_goals first
        | exact ⟨k + 1, [0, 1], [], ⟨by omega, e1⟩, by omega, ⟨rfl, ⟨rfl, rfl, rfl, congrArg (fun z => some (SV.int .i64 z)) (i64_succ (by omega)), trivial⟩, ⟨rfl, trivial⟩⟩⟩
        | (exfalso; omega)
    · rw [errs_stop hc hz F.n hk2]
      unfold Fa.err at hz ⊢
      generalize ckE p (F.k.getD k 0) (F.a.getD k 0) (F.b.getD k 0) (F.f.getD k 0) (F.u.getD k 0) (F.e.getD k 0) = e at *
      repeat' ((conv => whnf); first | (refine vcall_pure (c) rfl rfl rfl ?_) | (refine vcallD_pure (c) rfl rfl rfl ?_) | (refine br_dec (fun h => ?_) (fun h => ?_) <;> try (exfalso; (try dsimp only at h); omega)) | (refine br_ndec (fun h => ?_) (fun h => ?_) <;> try (exfalso; (try dsimp only at h); omega)) | refine br_seq (fun h => ?_) (fun h => ?_) | refine br_nseq (fun h => ?_) (fun h => ?_) | refine br_not (fun h => ?_) (fun h => ?_) | refine br_intro (fun h => ?_) (fun h => ?_) | refine cond_intro rfl ?_ | (refine cond_intro ⟨rfl, ?_⟩ ?_; (first | omega | (dsimp only; omega) | decide)) | (refine cond_intro ?_ ?_; (first | omega | (dsimp only; omega) | decide | (simp only [Nat.add_zero, Int.toNat_natCast, *]; omega))))
      all_goals (conv => whnf)
      all_goals first
        | exact ret_out (l := [0, 1]) rfl rfl trivial allRw_nil
        | (exfalso; omega)
  · have e : k = F.n := by omega
    subst e
    exact absurd hc he
theorem rl_New_ok (p l : Int) (F : Fa) (he : lnE p l F = 0) : FC Try.prog 2 12 [.int .i64 p, .int .i64 l, .sl 1 0 0 F.n] [(1, some (faB true F))] (isOut (.tup [.ptr 2 0 0 0, .int .i64 0]) [(2, some (.one false (.cells [.int .i64 p, .int .i64 l, .sl 1 0 0 F.n, .sl 3 0 0 0, .int .i64 0, .int .i64 0]))), (3, some (.one false (arB 0 (arOf []))))] 4) := by
  unfold lnE at he
  by_cases h1 : p < 1 ∨ 16 < p ∨ l < 1 ∨ 1000 < l
  · rw [if_pos h1] at he; omega
  rw [if_neg h1] at he
  by_cases h2 : 32 < F.n
  · rw [if_pos h2] at he; omega
  rw [if_neg h2] at he
  refine fc_of mixed T_ok Try.func12 rfl (by kernel_rfl) (by kernel_rfl) (by kernel_rfl) ?_
  repeat' ((conv => whnf); first | (refine br_dec (fun h => ?_) (fun h => ?_) <;> try (exfalso; (try dsimp only at h); omega)) | (refine br_ndec (fun h => ?_) (fun h => ?_) <;> try (exfalso; (try dsimp only at h); omega)) | refine br_seq (fun h => ?_) (fun h => ?_) | refine br_nseq (fun h => ?_) (fun h => ?_) | refine br_not (fun h => ?_) (fun h => ?_) | refine br_intro (fun h => ?_) (fun h => ?_) | refine cond_intro rfl ?_ | (refine cond_intro ⟨rfl, ?_⟩ ?_; (first | omega | (dsimp only; omega) | decide)) | (refine cond_intro ?_ ?_; (first | omega | (dsimp only; omega) | decide | (simp only [Nat.add_zero, Int.toNat_natCast, *]; omega))))
  all_goals (conv => whnf)
  refine vloop_of (fun k : Nat => ⟨[(0, .int .i64 p), (1, .int .i64 l), (2, .sl 1 0 0 F.n), (8, .int .i64 k)], [(1, some (faB true F))], 2⟩) (fun k => k ≤ F.n) (fun k => F.n - k) 0 [0, 1] [] ⟨rfl, ⟨rfl, rfl, rfl, rfl, trivial⟩, ⟨rfl, trivial⟩⟩ (by omega) ?_
  intro k hk
  by_cases hk2 : k < F.n
  · have c := rl_Check p (F.k.getD k 0) (F.a.getD k 0) (F.b.getD k 0) (F.f.getD k 0) (F.u.getD k 0) (F.e.getD k 0)
    have hz := errs_zero F.n he hk2
    unfold Fa.err at hz
    rw [hz] at c
    repeat' ((conv => whnf); first | (refine vcall_pure (c) rfl rfl rfl ?_) | (refine vcallD_pure (c) rfl rfl rfl ?_) | (refine br_dec (fun h => ?_) (fun h => ?_) <;> try (exfalso; (try dsimp only at h); omega)) | (refine br_ndec (fun h => ?_) (fun h => ?_) <;> try (exfalso; (try dsimp only at h); omega)) | refine br_seq (fun h => ?_) (fun h => ?_) | refine br_nseq (fun h => ?_) (fun h => ?_) | refine br_not (fun h => ?_) (fun h => ?_) | refine br_intro (fun h => ?_) (fun h => ?_) | refine cond_intro rfl ?_ | (refine cond_intro ⟨rfl, ?_⟩ ?_; (first | omega | (dsimp only; omega) | decide)) | (refine cond_intro ?_ ?_; (first | omega | (dsimp only; omega) | decide | (simp only [Nat.add_zero, Int.toNat_natCast, *]; omega))))
    all_goals (conv => whnf)
    all_goals first
      | exact ⟨k + 1, [0, 1], [], by omega, by omega, ⟨rfl, ⟨rfl, rfl, rfl, congrArg (fun z => some (SV.int .i64 z)) (i64_succ (by omega)), trivial⟩, ⟨rfl, trivial⟩⟩⟩
      | (exfalso; omega)
  · have e : k = F.n := by omega
    subst e
    repeat' ((conv => whnf); first | (refine br_dec (fun h => ?_) (fun h => ?_) <;> try (exfalso; (try dsimp only at h); omega)) | (refine br_ndec (fun h => ?_) (fun h => ?_) <;> try (exfalso; (try dsimp only at h); omega)) | refine br_seq (fun h => ?_) (fun h => ?_) | refine br_nseq (fun h => ?_) (fun h => ?_) | refine br_not (fun h => ?_) (fun h => ?_) | refine br_intro (fun h => ?_) (fun h => ?_) | refine cond_intro rfl ?_ | (refine cond_intro ⟨rfl, ?_⟩ ?_; (first | omega | (dsimp only; omega) | decide)) | (refine cond_intro ?_ ?_; (first | omega | (dsimp only; omega) | decide | (simp only [Nat.add_zero, Int.toNat_natCast, *]; omega))))
    all_goals (conv => whnf)
    all_goals first
      | (exfalso; omega)
      | exact ret_up (l := [0, 1, 2, 3]) [.cell 2 3 [.sc (.ints .i64 []), .sc (.ints .i64 []), .sc (.ints .i64 []), .sc (.ints .i64 []), .sc (.strs [])]] ⟨rfl, rfl, rfl, rfl, trivial⟩ (allRw_cons (allRw_cons allRw_nil))
      | trace_state
/-- The arrivals of a text at some times. -/
def mkA (al : List Int) (x y k : Int) (s : ByteArray) : List Av := al.map (fun t => ⟨t, x, y, k, s⟩)
theorem mkA_add (al : List Int) (t x y k : Int) (s : ByteArray) : arOf (mkA (al ++ [t]) x y k s) = (arOf (mkA al x y k s)).add t x y k s := by
  unfold mkA
  rw [List.map_append]
  exact (arOf_add _ ⟨t, x, y, k, s⟩).symm
abbrev raS (pa la : Int) (F : Fa) (nw se : Int) (qn : Nat) (qa : Ar) (t x y : Int) (s : ByteArray) (k : Nat) : VS := ⟨[(0, .ptr 1 0 0 0), (1, .int .i64 t), (2, .int .i64 x), (3, .int .i64 y), (4, .str s), (11, .int .i64 (F.arr t x y (IntKind.i64.wrap (t + la)) k)), (12, .int .i64 k)], rlR pa la F nw se qn qa, 4⟩
theorem ra_round (pa la : Int) (F : Fa) (nw se : Int) (qn : Nat) (qa : Ar) (t x y : Int) (s : ByteArray) (hn : F.n ≤ 1000) (k : Nat) (hk2 : k < F.n) (hl : F.lost t x y k = false) (K : Exit → VS → Prop) (hN : F.lost t x y (k + 1) = false → ∀ v, (∃ l u, upK u v (fun v => Weak 4 l v (raS pa la F nw se qn qa t x y s (k + 1)))) → K .normal v) (hR : F.lost t x y (k + 1) = true → ∀ v, retK T 4 [.tmp 10] (isOut .nsl [] 4) .ret v → K .ret v) : vcode Try.prog T 4 (lpc Try.f29 0) (raS pa la F nw se qn qa t x y s k) K := by
  have c1 := rl_concerns (F.k.getD k 0) (F.a.getD k 0) (F.b.getD k 0) (F.f.getD k 0) (F.u.getD k 0) (F.e.getD k 0) t x y
  have e1 : F.lost t x y (k + 1) = (F.act t x y k && decide (F.k.getD k 0 = 1 ∨ F.k.getD k 0 = 4)) := by simp only [Fa.lost, hl, Bool.false_or]
  have e2 : F.arr t x y (IntKind.i64.wrap (t + la)) (k + 1) = if (F.act t x y k && decide (F.k.getD k 0 = 2)) = true then IntKind.i64.wrap (F.arr t x y (IntKind.i64.wrap (t + la)) k + F.e.getD k 0) else F.arr t x y (IntKind.i64.wrap (t + la)) k := rfl
  have ea : (ifB (F.f.getD k 0) (F.u.getD k 0) t && cnB (F.k.getD k 0) (F.a.getD k 0) (F.b.getD k 0) x y) = F.act t x y k := rfl
  rw [ea] at c1
  unfold raS at hN ⊢
  rw [e2, e1] at hN
  rw [e1] at hR
  clear e1 e2 ea
  have hk0 : F.k.getD ((k : Int).toNat + 0) 0 = F.k.getD k 0 := rfl
  obtain ⟨kd, hkd⟩ : ∃ kd, kd = F.k.getD k 0 := ⟨_, rfl⟩
  rw [← hkd] at hN hR
  generalize F.arr t x y (IntKind.i64.wrap (t + la)) k = ar at *
  cases ha : F.act t x y k with
  | true =>
    rw [ha] at c1 hN hR
    simp only [Bool.true_and] at hN hR
    by_cases k1 : kd = 1 ∨ kd = 4
    · replace hR := hR (decide_eq_true k1)
      clear hN
      repeat' ((conv => whnf); first | (refine vcall_pure (c1) rfl rfl rfl ?_) | (refine vcallD_pure (c1) rfl rfl rfl ?_) | (refine br_dec (fun h => ?_) (fun h => ?_) <;> try (exfalso; (try dsimp only at h); omega)) | (refine br_ndec (fun h => ?_) (fun h => ?_) <;> try (exfalso; (try dsimp only at h); omega)) | refine br_seq (fun h => ?_) (fun h => ?_) | refine br_nseq (fun h => ?_) (fun h => ?_) | refine br_not (fun h => ?_) (fun h => ?_) | refine br_intro (fun h => ?_) (fun h => ?_) | refine cond_intro rfl ?_ | (refine cond_intro ⟨rfl, ?_⟩ ?_; (first | omega | (dsimp only; omega) | decide)) | (refine cond_intro ?_ ?_; (first | omega | (dsimp only; omega) | decide | (simp only [Nat.add_zero, Int.toNat_natCast, *]; omega))))
      all_goals (conv => whnf)
      all_goals first
        | (exfalso; omega)
        | (refine hR _ ?_; (conv => whnf); exact ret_out (l := [0, 1, 2, 3]) rfl rfl trivial allRw_nil)
    · replace hN := hN (decide_eq_false k1)
      clear hR
      by_cases k2 : kd = 2
      · rw [if_pos (decide_eq_true k2)] at hN
        repeat' ((conv => whnf); first | (refine vcall_pure (c1) rfl rfl rfl ?_) | (refine vcallD_pure (c1) rfl rfl rfl ?_) | (refine br_dec (fun h => ?_) (fun h => ?_) <;> try (exfalso; (try dsimp only at h); omega)) | (refine br_ndec (fun h => ?_) (fun h => ?_) <;> try (exfalso; (try dsimp only at h); omega)) | refine br_seq (fun h => ?_) (fun h => ?_) | refine br_nseq (fun h => ?_) (fun h => ?_) | refine br_not (fun h => ?_) (fun h => ?_) | refine br_intro (fun h => ?_) (fun h => ?_) | refine cond_intro rfl ?_ | (refine cond_intro ⟨rfl, ?_⟩ ?_; (first | omega | (dsimp only; omega) | decide)) | (refine cond_intro ?_ ?_; (first | omega | (dsimp only; omega) | decide | (simp only [Nat.add_zero, Int.toNat_natCast, *]; omega))))
        all_goals (conv => whnf)
        all_goals first
          | (exfalso; omega)
          | exact hN _ ⟨[0, 1, 2, 3], [], ⟨rfl, ⟨rfl, rfl, rfl, rfl, rfl, rfl, congrArg (fun z => some (SV.int .i64 z)) (i64_succ (by omega)), trivial⟩, ⟨rfl, rfl, rfl, trivial⟩⟩⟩
      · rw [if_neg (by simpa using k2)] at hN
        repeat' ((conv => whnf); first | (refine vcall_pure (c1) rfl rfl rfl ?_) | (refine vcallD_pure (c1) rfl rfl rfl ?_) | (refine br_dec (fun h => ?_) (fun h => ?_) <;> try (exfalso; (try dsimp only at h); omega)) | (refine br_ndec (fun h => ?_) (fun h => ?_) <;> try (exfalso; (try dsimp only at h); omega)) | refine br_seq (fun h => ?_) (fun h => ?_) | refine br_nseq (fun h => ?_) (fun h => ?_) | refine br_not (fun h => ?_) (fun h => ?_) | refine br_intro (fun h => ?_) (fun h => ?_) | refine cond_intro rfl ?_ | (refine cond_intro ⟨rfl, ?_⟩ ?_; (first | omega | (dsimp only; omega) | decide)) | (refine cond_intro ?_ ?_; (first | omega | (dsimp only; omega) | decide | (simp only [Nat.add_zero, Int.toNat_natCast, *]; omega))))
        all_goals (conv => whnf)
        all_goals first
          | (exfalso; omega)
          | exact hN _ ⟨[0, 1, 2, 3], [], ⟨rfl, ⟨rfl, rfl, rfl, rfl, rfl, rfl, congrArg (fun z => some (SV.int .i64 z)) (i64_succ (by omega)), trivial⟩, ⟨rfl, rfl, rfl, trivial⟩⟩⟩
  | false =>
    rw [ha] at c1 hN
    simp only [Bool.false_and] at hN
    replace hN := hN trivial
    rw [if_neg (by decide)] at hN
    clear hR
    repeat' ((conv => whnf); first | (refine vcall_pure (c1) rfl rfl rfl ?_) | (refine vcallD_pure (c1) rfl rfl rfl ?_) | (refine br_dec (fun h => ?_) (fun h => ?_) <;> try (exfalso; (try dsimp only at h); omega)) | (refine br_ndec (fun h => ?_) (fun h => ?_) <;> try (exfalso; (try dsimp only at h); omega)) | refine br_seq (fun h => ?_) (fun h => ?_) | refine br_nseq (fun h => ?_) (fun h => ?_) | refine br_not (fun h => ?_) (fun h => ?_) | refine br_intro (fun h => ?_) (fun h => ?_) | refine cond_intro rfl ?_ | (refine cond_intro ⟨rfl, ?_⟩ ?_; (first | omega | (dsimp only; omega) | decide)) | (refine cond_intro ?_ ?_; (first | omega | (dsimp only; omega) | decide | (simp only [Nat.add_zero, Int.toNat_natCast, *]; omega))))
    all_goals (conv => whnf)
    all_goals first
      | exact hN _ ⟨[0, 1, 2, 3], [], ⟨rfl, ⟨rfl, rfl, rfl, rfl, rfl, rfl, congrArg (fun z => some (SV.int .i64 z)) (i64_succ (by omega)), trivial⟩, ⟨rfl, rfl, rfl, trivial⟩⟩⟩
      | (exfalso; omega)
theorem rl_arrivals_lost (pa la : Int) (F : Fa) (nw se : Int) (qn : Nat) (qa : Ar) (t x y : Int) (s : ByteArray) (hn : F.n ≤ 1000) (hl : F.lost t x y F.n = true) : FC Try.prog 4 29 [.ptr 1 0 0 0, .int .i64 t, .int .i64 x, .int .i64 y, .str s] (rlR pa la F nw se qn qa) (isOut .nsl [] 4) := by
  refine fc_of mixed T_ok Try.func29 rfl (by kernel_rfl) (by kernel_rfl) (by kernel_rfl) ?_
  repeat' ((conv => whnf); first | (refine br_dec (fun h => ?_) (fun h => ?_) <;> try (exfalso; (try dsimp only at h); omega)) | (refine br_ndec (fun h => ?_) (fun h => ?_) <;> try (exfalso; (try dsimp only at h); omega)) | refine br_seq (fun h => ?_) (fun h => ?_) | refine br_nseq (fun h => ?_) (fun h => ?_) | refine br_not (fun h => ?_) (fun h => ?_) | refine br_intro (fun h => ?_) (fun h => ?_) | refine cond_intro rfl ?_ | (refine cond_intro ⟨rfl, ?_⟩ ?_; (first | omega | (dsimp only; omega) | decide)) | (refine cond_intro ?_ ?_; (first | omega | (dsimp only; omega) | decide | (simp only [Nat.add_zero, Int.toNat_natCast, *]; omega))))
  all_goals (conv => whnf)
  refine vloop_lp (raS pa la F nw se qn qa t x y s) (fun k => k ≤ F.n ∧ F.lost t x y k = false) (fun k => F.n - k) 0 [0, 1, 2, 3] [] ⟨rfl, ⟨rfl, rfl, rfl, rfl, rfl, rfl, rfl, trivial⟩, ⟨rfl, rfl, rfl, trivial⟩⟩ ⟨Nat.zero_le _, rfl⟩ ?_
  rintro k ⟨hk, hf⟩
  by_cases hk2 : k < F.n
  · exact ra_round pa la F nw se qn qa t x y s hn k hk2 hf _ (fun h v ⟨l, u, hw⟩ => ⟨k + 1, l, u, ⟨hk2, h⟩, (show F.n - (k + 1) < F.n - k by omega), hw⟩) (fun _ v h => h)
  · obtain rfl : k = F.n := by omega
    rw [hl] at hf; cases hf
/-- The times of arrival after k faults. -/
def Fa.alk (F : Fa) (t x y ar : Int) (k : Nat) : List Int := ar :: (F.cp t x y k).map (fun e => IntKind.i64.wrap (ar + e))
theorem alk_step (F : Fa) (t x y ar : Int) (k : Nat) : F.alk t x y ar (k + 1) = if (F.act t x y k && decide (F.k.getD k 0 = 3)) = true then F.alk t x y ar k ++ [IntKind.i64.wrap (ar + F.e.getD k 0)] else F.alk t x y ar k := by
  unfold Fa.alk
  simp only [Fa.cp]
  split <;> simp
theorem alk_end (F : Fa) (t x y ar : Int) : F.alk t x y ar F.n = Fa.al ar (F.cp t x y F.n) (F.cn t x y F.n) := by
  unfold Fa.alk Fa.al
  rw [← cp_len, List.take_length]
theorem rl_arrivals (pa la : Int) (F : Fa) (nw se : Int) (qn : Nat) (qa : Ar) (t x y : Int) (s : ByteArray) (hn : F.n ≤ 1000) (hl : F.lost t x y F.n = false) : FC Try.prog 4 29 [.ptr 1 0 0 0, .int .i64 t, .int .i64 x, .int .i64 y, .str s] (rlR pa la F nw se qn qa) (isOut (.sl 4 0 0 (F.cn t x y F.n + 1)) [(4, some (.one false (arB (F.cn t x y F.n + 1) (arOf (mkA (Fa.al (F.arr t x y (IntKind.i64.wrap (t + la)) F.n) (F.cp t x y F.n) (F.cn t x y F.n)) x y (IntKind.i64.wrap (se + 1)) s)))))] 5) := by
  rw [← alk_end]
  refine fc_of mixed T_ok Try.func29 rfl (by kernel_rfl) (by kernel_rfl) (by kernel_rfl) ?_
  repeat' ((conv => whnf); first | (refine br_dec (fun h => ?_) (fun h => ?_) <;> try (exfalso; (try dsimp only at h); omega)) | (refine br_ndec (fun h => ?_) (fun h => ?_) <;> try (exfalso; (try dsimp only at h); omega)) | refine br_seq (fun h => ?_) (fun h => ?_) | refine br_nseq (fun h => ?_) (fun h => ?_) | refine br_not (fun h => ?_) (fun h => ?_) | refine br_intro (fun h => ?_) (fun h => ?_) | refine cond_intro rfl ?_ | (refine cond_intro ⟨rfl, ?_⟩ ?_; (first | omega | (dsimp only; omega) | decide)) | (refine cond_intro ?_ ?_; (first | omega | (dsimp only; omega) | decide | (simp only [Nat.add_zero, Int.toNat_natCast, *]; omega))))
  all_goals (conv => whnf)
  refine vloop_lp (raS pa la F nw se qn qa t x y s) (fun k => k ≤ F.n ∧ F.lost t x y k = false) (fun k => F.n - k) 0 [0, 1, 2, 3] [] ⟨rfl, ⟨rfl, rfl, rfl, rfl, rfl, rfl, rfl, trivial⟩, ⟨rfl, rfl, rfl, trivial⟩⟩ ⟨Nat.zero_le _, rfl⟩ ?_
  rintro k ⟨hk, hf⟩
  by_cases hk2 : k < F.n
  · exact ra_round pa la F nw se qn qa t x y s hn k hk2 hf _ (fun h v ⟨l, u, hw⟩ => ⟨k + 1, l, u, ⟨hk2, h⟩, (show F.n - (k + 1) < F.n - k by omega), hw⟩) (fun h v hr => by
      have := lost_mono h F.n (by omega)
      rw [hl] at this; cases this)
  · obtain rfl : k = F.n := by omega
    clear hf hk2 hk
    unfold raS
    have hst := alk_step F t x y (F.arr t x y (IntKind.i64.wrap (t + la)) F.n)
    have h0 : F.alk t x y (F.arr t x y (IntKind.i64.wrap (t + la)) F.n) 0 = [F.arr t x y (IntKind.i64.wrap (t + la)) F.n] := rfl
    generalize F.arr t x y (IntKind.i64.wrap (t + la)) F.n = ar at *
    repeat' ((conv => whnf); first | (refine br_dec (fun h => ?_) (fun h => ?_) <;> try (exfalso; (try dsimp only at h); omega)) | (refine br_ndec (fun h => ?_) (fun h => ?_) <;> try (exfalso; (try dsimp only at h); omega)) | refine br_seq (fun h => ?_) (fun h => ?_) | refine br_nseq (fun h => ?_) (fun h => ?_) | refine br_not (fun h => ?_) (fun h => ?_) | refine br_intro (fun h => ?_) (fun h => ?_) | refine cond_intro rfl ?_ | (refine cond_intro ⟨rfl, ?_⟩ ?_; (first | omega | (dsimp only; omega) | decide)) | (refine cond_intro ?_ ?_; (first | omega | (dsimp only; omega) | decide | (simp only [Nat.add_zero, Int.toNat_natCast, *]; omega))))
    all_goals (conv => whnf)
    all_goals first
      | (exfalso; omega)
      | skip
    refine vloop_of (fun k : Nat => ⟨[(0, .ptr 1 0 0 0), (1, .int .i64 t), (2, .int .i64 x), (3, .int .i64 y), (4, .str s), (11, .int .i64 ar), (14, .sl 4 0 0 (F.cn t x y k + 1)), (15, .int .i64 k)], (4, some (.one false (arB (F.cn t x y k + 1) (arOf (mkA (F.alk t x y ar k) x y (IntKind.i64.wrap (se + 1)) s))))) :: rlR pa la F nw se qn qa, 5⟩) (fun k => k ≤ F.n) (fun k => F.n - k) 0 [0, 1, 2, 3, 4] [] ⟨rfl, ⟨rfl, rfl, rfl, rfl, rfl, rfl, rfl, rfl, trivial⟩, ⟨rfl, rfl, rfl, rfl, trivial⟩⟩ (Nat.zero_le _) ?_
    intro k hk
    by_cases hk2 : k < F.n
    · have c1 := rl_concerns (F.k.getD k 0) (F.a.getD k 0) (F.b.getD k 0) (F.f.getD k 0) (F.u.getD k 0) (F.e.getD k 0) t x y
      have ea : (ifB (F.f.getD k 0) (F.u.getD k 0) t && cnB (F.k.getD k 0) (F.a.getD k 0) (F.b.getD k 0) x y) = F.act t x y k := rfl
      rw [ea] at c1
      have hk0 : F.k.getD ((k : Int).toNat + 0) 0 = F.k.getD k 0 := rfl
      have hcn := cn_le F t x y k
      have e4 : F.cn t x y (k + 1) = if (F.act t x y k && decide (F.k.getD k 0 = 3)) = true then F.cn t x y k + 1 else F.cn t x y k := rfl
      have hstk := hst k
      by_cases hh : (F.act t x y k && decide (F.k.getD k 0 = 3)) = true
      · rw [if_pos hh] at e4 hstk
        simp only [Bool.and_eq_true, decide_eq_true_eq] at hh
        rw [hh.1] at c1
        have hadd := mkA_add (F.alk t x y ar k) (IntKind.i64.wrap (ar + F.e.getD k 0)) x y (IntKind.i64.wrap (se + 1)) s
        rw [← hstk] at hadd
        generalize arOf (mkA (F.alk t x y ar k) x y (IntKind.i64.wrap (se + 1)) s) = g at *
        generalize F.cn t x y k = cn at *
        repeat' ((conv => whnf); first | (refine vcall_pure (c1) rfl rfl rfl ?_) | (refine vcallD_pure (c1) rfl rfl rfl ?_) | (refine br_dec (fun h => ?_) (fun h => ?_) <;> try (exfalso; (try dsimp only at h); omega)) | (refine br_ndec (fun h => ?_) (fun h => ?_) <;> try (exfalso; (try dsimp only at h); omega)) | refine br_seq (fun h => ?_) (fun h => ?_) | refine br_nseq (fun h => ?_) (fun h => ?_) | refine br_not (fun h => ?_) (fun h => ?_) | refine br_intro (fun h => ?_) (fun h => ?_) | refine cond_intro rfl ?_ | (refine cond_intro ⟨rfl, ?_⟩ ?_; (first | omega | (dsimp only; omega) | decide)) | (refine cond_intro ?_ ?_; (first | omega | (dsimp only; omega) | decide | (simp only [Nat.add_zero, Int.toNat_natCast, *]; omega))))
        all_goals (conv => whnf)
        all_goals first
          | (refine ⟨k + 1, [0, 1, 2, 3, 7], [], by omega, by omega, ?_⟩; rw [hadd, e4]; exact ⟨rfl, ⟨rfl, rfl, rfl, rfl, rfl, rfl, rfl, congrArg (fun z => some (SV.int .i64 z)) (i64_succ (by omega)), trivial⟩, ⟨rfl, rfl, rfl, rfl, trivial⟩⟩)
          | (exfalso; omega)
          | trace_state
      · rw [if_neg hh] at e4 hstk
        generalize hg : arOf (mkA (F.alk t x y ar k) x y (IntKind.i64.wrap (se + 1)) s) = g at *
        rw [← hstk] at hg
        cases ha : F.act t x y k with
        | true =>
          rw [ha] at c1 hh
          simp only [Bool.true_and, decide_eq_true_eq] at hh
          repeat' ((conv => whnf); first | (refine vcall_pure (c1) rfl rfl rfl ?_) | (refine vcallD_pure (c1) rfl rfl rfl ?_) | (refine br_dec (fun h => ?_) (fun h => ?_) <;> try (exfalso; (try dsimp only at h); omega)) | (refine br_ndec (fun h => ?_) (fun h => ?_) <;> try (exfalso; (try dsimp only at h); omega)) | refine br_seq (fun h => ?_) (fun h => ?_) | refine br_nseq (fun h => ?_) (fun h => ?_) | refine br_not (fun h => ?_) (fun h => ?_) | refine br_intro (fun h => ?_) (fun h => ?_) | refine cond_intro rfl ?_ | (refine cond_intro ⟨rfl, ?_⟩ ?_; (first | omega | (dsimp only; omega) | decide)) | (refine cond_intro ?_ ?_; (first | omega | (dsimp only; omega) | decide | (simp only [Nat.add_zero, Int.toNat_natCast, *]; omega))))
          all_goals (conv => whnf)
          all_goals first
            | (refine ⟨k + 1, [0, 1, 2, 3, 4], [], by omega, by omega, ?_⟩; rw [hg, e4]; exact ⟨rfl, ⟨rfl, rfl, rfl, rfl, rfl, rfl, rfl, congrArg (fun z => some (SV.int .i64 z)) (i64_succ (by omega)), trivial⟩, ⟨rfl, rfl, rfl, rfl, trivial⟩⟩)
            | (exfalso; omega)
            | trace_state
        | false =>
          rw [ha] at c1
          repeat' ((conv => whnf); first | (refine vcall_pure (c1) rfl rfl rfl ?_) | (refine vcallD_pure (c1) rfl rfl rfl ?_) | (refine br_dec (fun h => ?_) (fun h => ?_) <;> try (exfalso; (try dsimp only at h); omega)) | (refine br_ndec (fun h => ?_) (fun h => ?_) <;> try (exfalso; (try dsimp only at h); omega)) | refine br_seq (fun h => ?_) (fun h => ?_) | refine br_nseq (fun h => ?_) (fun h => ?_) | refine br_not (fun h => ?_) (fun h => ?_) | refine br_intro (fun h => ?_) (fun h => ?_) | refine cond_intro rfl ?_ | (refine cond_intro ⟨rfl, ?_⟩ ?_; (first | omega | (dsimp only; omega) | decide)) | (refine cond_intro ?_ ?_; (first | omega | (dsimp only; omega) | decide | (simp only [Nat.add_zero, Int.toNat_natCast, *]; omega))))
          all_goals (conv => whnf)
          all_goals first
            | (refine ⟨k + 1, [0, 1, 2, 3, 4], [], by omega, by omega, ?_⟩; rw [hg, e4]; exact ⟨rfl, ⟨rfl, rfl, rfl, rfl, rfl, rfl, rfl, congrArg (fun z => some (SV.int .i64 z)) (i64_succ (by omega)), trivial⟩, ⟨rfl, rfl, rfl, rfl, trivial⟩⟩)
            | (exfalso; omega)
            | trace_state
    · obtain rfl : k = F.n := by omega
      generalize arOf (mkA (F.alk t x y ar F.n) x y (IntKind.i64.wrap (se + 1)) s) = g at *
      generalize F.cn t x y F.n = cn at *
      repeat' ((conv => whnf); first | (refine br_dec (fun h => ?_) (fun h => ?_) <;> try (exfalso; (try dsimp only at h); omega)) | (refine br_ndec (fun h => ?_) (fun h => ?_) <;> try (exfalso; (try dsimp only at h); omega)) | refine br_seq (fun h => ?_) (fun h => ?_) | refine br_nseq (fun h => ?_) (fun h => ?_) | refine br_not (fun h => ?_) (fun h => ?_) | refine br_intro (fun h => ?_) (fun h => ?_) | refine cond_intro rfl ?_ | (refine cond_intro ⟨rfl, ?_⟩ ?_; (first | omega | (dsimp only; omega) | decide)) | (refine cond_intro ?_ ?_; (first | omega | (dsimp only; omega) | decide | (simp only [Nat.add_zero, Int.toNat_natCast, *]; omega))))
      all_goals (conv => whnf)
      all_goals first
        | exact ret_out (l := [0, 1, 2, 3, 4]) rfl rfl ⟨rfl, trivial⟩ (allRw_cons allRw_nil)
        | (exfalso; omega)
        | trace_state
end Go.Proofs.Ytpconbdoackcfaa

/- Contracts of the reference of links: sending, the first arrival. -/
namespace Go.Proofs.Ytpconbdoackcfaa
open Go.RowKit Go.Sy
attribute [local irreducible] vcall vloop vcallD retP
set_option maxRecDepth 100000
set_option linter.unusedVariables false
set_option linter.unusedSimpArgs false

def Fa.tn (F : Fa) (t x y : Int) : Nat := if F.lost t x y F.n = true then 0 else F.cn t x y F.n + 1
def rlE (pa nw su : Int) (tn : Nat) (t x y : Int) (s : ByteArray) : Int := if ¬ ((0 ≤ x ∧ x < pa) ∧ (0 ≤ y ∧ y < pa)) ∨ x = y then 4 else if 4000 < s.size then 3 else if t < nw ∨ 1099511627776 < t then 14 else if 256 < su + tn then 12 else 0
theorem sdE_rl (L : Lk) (t x y : Int) (s : ByteArray) : L.sdE t x y s = rlE L.pa L.nw L.W.sum (L.F.tn t x y) t x y s := rfl
theorem rl_Send_err (pa la : Int) (F : Fa) (nw se : Int) (qn : Nat) (qa : Ar) (t x y : Int) (s : ByteArray) (hn : F.n ≤ 1000) (hq : qn ≤ 1000) (he : rlE pa nw qn (F.tn t x y) t x y s ≠ 0) : FC Try.prog 4 15 [.ptr 1 0 0 0, .int .i64 t, .int .i64 x, .int .i64 y, .str s] (rlR pa la F nw se qn qa) (isOut (.tup [.int .i64 0, .int .i64 (rlE pa nw qn (F.tn t x y) t x y s)]) [] 4) := by
  have hcn := cn_le F t x y F.n
  unfold rlE at he ⊢
  by_cases h1 : ¬ ((0 ≤ x ∧ x < pa) ∧ (0 ≤ y ∧ y < pa)) ∨ x = y
  · rw [if_pos h1]
    refine fc_of mixed T_ok Try.func15 rfl (by kernel_rfl) (by kernel_rfl) (by kernel_rfl) ?_
    repeat' ((conv => whnf); first | (refine br_dec (fun h => ?_) (fun h => ?_) <;> try (exfalso; (try dsimp only at h); omega)) | (refine br_ndec (fun h => ?_) (fun h => ?_) <;> try (exfalso; (try dsimp only at h); omega)) | refine br_seq (fun h => ?_) (fun h => ?_) | refine br_nseq (fun h => ?_) (fun h => ?_) | refine br_not (fun h => ?_) (fun h => ?_) | refine br_intro (fun h => ?_) (fun h => ?_) | refine cond_intro rfl ?_ | (refine cond_intro ⟨rfl, ?_⟩ ?_; (first | omega | (dsimp only; omega) | decide)) | (refine cond_intro ?_ ?_; (first | omega | (dsimp only; omega) | decide | (simp only [Nat.add_zero, Int.toNat_natCast, *]; omega))))
    all_goals (conv => whnf)
    all_goals first
      | exact ret_out (l := [0, 1, 2, 3]) rfl rfl trivial allRw_nil
      | (exfalso; omega)
  rw [if_neg h1] at he ⊢
  by_cases h2 : 4000 < s.size
  · rw [if_pos h2]
    refine fc_of mixed T_ok Try.func15 rfl (by kernel_rfl) (by kernel_rfl) (by kernel_rfl) ?_
    repeat' ((conv => whnf); first | (refine br_dec (fun h => ?_) (fun h => ?_) <;> try (exfalso; (try dsimp only at h); omega)) | (refine br_ndec (fun h => ?_) (fun h => ?_) <;> try (exfalso; (try dsimp only at h); omega)) | refine br_seq (fun h => ?_) (fun h => ?_) | refine br_nseq (fun h => ?_) (fun h => ?_) | refine br_not (fun h => ?_) (fun h => ?_) | refine br_intro (fun h => ?_) (fun h => ?_) | refine cond_intro rfl ?_ | (refine cond_intro ⟨rfl, ?_⟩ ?_; (first | omega | (dsimp only; omega) | decide)) | (refine cond_intro ?_ ?_; (first | omega | (dsimp only; omega) | decide | (simp only [Nat.add_zero, Int.toNat_natCast, *]; omega))))
    all_goals (conv => whnf)
    all_goals first
      | exact ret_out (l := [0, 1, 2, 3]) rfl rfl trivial allRw_nil
      | (exfalso; omega)
  rw [if_neg h2] at he ⊢
  by_cases h3 : t < nw ∨ 1099511627776 < t
  · rw [if_pos h3]
    refine fc_of mixed T_ok Try.func15 rfl (by kernel_rfl) (by kernel_rfl) (by kernel_rfl) ?_
    repeat' ((conv => whnf); first | (refine br_dec (fun h => ?_) (fun h => ?_) <;> try (exfalso; (try dsimp only at h); omega)) | (refine br_ndec (fun h => ?_) (fun h => ?_) <;> try (exfalso; (try dsimp only at h); omega)) | refine br_seq (fun h => ?_) (fun h => ?_) | refine br_nseq (fun h => ?_) (fun h => ?_) | refine br_not (fun h => ?_) (fun h => ?_) | refine br_intro (fun h => ?_) (fun h => ?_) | refine cond_intro rfl ?_ | (refine cond_intro ⟨rfl, ?_⟩ ?_; (first | omega | (dsimp only; omega) | decide)) | (refine cond_intro ?_ ?_; (first | omega | (dsimp only; omega) | decide | (simp only [Nat.add_zero, Int.toNat_natCast, *]; omega))))
    all_goals (conv => whnf)
    all_goals first
      | exact ret_out (l := [0, 1, 2, 3]) rfl rfl trivial allRw_nil
      | (exfalso; omega)
  rw [if_neg h3] at he ⊢
  by_cases h4 : 256 < (qn : Int) + F.tn t x y
  · rw [if_pos h4]
    unfold Fa.tn at h4
    cases hl : F.lost t x y F.n with
    | true =>
      rw [if_pos hl] at h4
      have ct := rl_arrivals_lost pa la F nw se qn qa t x y s hn hl
      have w1 : IntKind.i64.wrap ((qn : Int) + 0) = qn := by rw [w64_in (by omega) (by omega)]; omega
      refine fc_of mixed T_ok Try.func15 rfl (by kernel_rfl) (by kernel_rfl) (by kernel_rfl) ?_
      repeat' ((conv => whnf); first | (refine vcall_out (l :=  [0, 1, 2, 3]) (ct ) ⟨rfl, rfl, rfl, rfl, (by (repeat' (first | exact trivial | exact GB_wf | exact fun _ _ => rfl | constructor)); first | done | fail), (by (repeat' (first | exact trivial | exact GB_fits rfl | constructor)); first | done | fail)⟩ ?_) | (refine vcallD_out (l :=  [0, 1, 2, 3]) (ct ) ⟨rfl, rfl, rfl, rfl, (by (repeat' (first | exact trivial | exact GB_wf | exact fun _ _ => rfl | constructor)); first | done | fail), (by (repeat' (first | exact trivial | exact GB_fits rfl | constructor)); first | done | fail)⟩ ?_) | (refine br_dec (fun h => ?_) (fun h => ?_) <;> try (exfalso; (try dsimp only at h); omega)) | (refine br_ndec (fun h => ?_) (fun h => ?_) <;> try (exfalso; (try dsimp only at h); omega)) | refine br_seq (fun h => ?_) (fun h => ?_) | refine br_nseq (fun h => ?_) (fun h => ?_) | refine br_not (fun h => ?_) (fun h => ?_) | refine br_intro (fun h => ?_) (fun h => ?_) | refine cond_intro rfl ?_ | (refine cond_intro ⟨rfl, ?_⟩ ?_; (first | omega | (dsimp only; omega) | decide)) | (refine cond_intro ?_ ?_; (first | omega | (dsimp only; omega) | decide | (simp only [Nat.add_zero, Int.toNat_natCast, *]; omega))))
      all_goals (conv => whnf)
      all_goals first
        | exact ret_out (l := [0, 1, 2, 3]) rfl rfl trivial allRw_nil
        | (exfalso; omega)
    | false =>
      rw [if_neg (by rw [hl]; decide)] at h4
      have ct := rl_arrivals pa la F nw se qn qa t x y s hn hl
      have w1 : IntKind.i64.wrap ((qn : Int) + ((F.cn t x y F.n + 1 : Nat) : Int)) = (qn : Int) + ((F.cn t x y F.n + 1 : Nat) : Int) := w64_in (by omega) (by omega)
      generalize arOf (mkA (Fa.al (F.arr t x y (IntKind.i64.wrap (t + la)) F.n) (F.cp t x y F.n) (F.cn t x y F.n)) x y (IntKind.i64.wrap (se + 1)) s) = ga at *
      generalize F.cn t x y F.n = cn at *
      refine fc_of mixed T_ok Try.func15 rfl (by kernel_rfl) (by kernel_rfl) (by kernel_rfl) ?_
      repeat' ((conv => whnf); first | (refine vcall_out (l :=  [0, 1, 2, 3]) (ct ) ⟨rfl, rfl, rfl, rfl, (by (repeat' (first | exact trivial | exact GB_wf | exact fun _ _ => rfl | constructor)); first | done | fail), (by (repeat' (first | exact trivial | exact GB_fits rfl | constructor)); first | done | fail)⟩ ?_) | (refine vcallD_out (l :=  [0, 1, 2, 3]) (ct ) ⟨rfl, rfl, rfl, rfl, (by (repeat' (first | exact trivial | exact GB_wf | exact fun _ _ => rfl | constructor)); first | done | fail), (by (repeat' (first | exact trivial | exact GB_fits rfl | constructor)); first | done | fail)⟩ ?_) | (refine br_dec (fun h => ?_) (fun h => ?_) <;> try (exfalso; (try dsimp only at h); omega)) | (refine br_ndec (fun h => ?_) (fun h => ?_) <;> try (exfalso; (try dsimp only at h); omega)) | refine br_seq (fun h => ?_) (fun h => ?_) | refine br_nseq (fun h => ?_) (fun h => ?_) | refine br_not (fun h => ?_) (fun h => ?_) | refine br_intro (fun h => ?_) (fun h => ?_) | refine cond_intro rfl ?_ | (refine cond_intro ⟨rfl, ?_⟩ ?_; (first | omega | (dsimp only; omega) | decide)) | (refine cond_intro ?_ ?_; (first | omega | (dsimp only; omega) | decide | (simp only [Nat.add_zero, Int.toNat_natCast, *]; omega))))
      all_goals (conv => whnf)
      all_goals first
        | exact ret_out (l := [0, 1, 2, 3]) rfl rfl trivial allRw_nil
        | (exfalso; omega)
  · rw [if_neg h4] at he; exact absurd rfl he
theorem rlE_zero {pa nw su : Int} {tn : Nat} {t x y : Int} {s : ByteArray} (h : rlE pa nw su tn t x y s = 0) : ((0 ≤ x ∧ x < pa) ∧ (0 ≤ y ∧ y < pa)) ∧ x ≠ y ∧ s.size ≤ 4000 ∧ nw ≤ t ∧ t ≤ 1099511627776 ∧ su + tn ≤ 256 := by
  unfold rlE at h
  by_cases h1 : ¬ ((0 ≤ x ∧ x < pa) ∧ (0 ≤ y ∧ y < pa)) ∨ x = y
  · rw [if_pos h1] at h; omega
  rw [if_neg h1] at h
  by_cases h2 : 4000 < s.size
  · rw [if_pos h2] at h; omega
  rw [if_neg h2] at h
  by_cases h3 : t < nw ∨ 1099511627776 < t
  · rw [if_pos h3] at h; omega
  rw [if_neg h3] at h
  by_cases h4 : 256 < su + tn
  · rw [if_pos h4] at h; omega
  omega
abbrev rlS (pa la : Int) (F : Fa) (nw se : Int) (qn : Nat) (qa : Ar) : Heap := [(1, some (rlC false pa la F.n qn nw se)), (2, some (faB true F)), (3, some (.one true (arB qn qa)))]
abbrev rlO (pa la : Int) (fn : Nat) (nw se : Int) (qn : Nat) (qa : Ar) : Heap := [(1, some (.one false (.cells [.int .i64 pa, .int .i64 la, .sl 2 0 0 fn, .sl 4 0 0 qn, .int .i64 nw, .int .i64 se]))), (4, some (.one false (arB qn qa)))]
theorem rl_Send_lost (pa la : Int) (F : Fa) (nw se : Int) (qn : Nat) (qa : Ar) (t x y : Int) (s : ByteArray) (hn : F.n ≤ 1000) (hq : qn ≤ 1000) (he : rlE pa nw qn (F.tn t x y) t x y s = 0) (hl : F.lost t x y F.n = true) : FC Try.prog 4 15 [.ptr 1 0 0 0, .int .i64 t, .int .i64 x, .int .i64 y, .str s] (rlS pa la F nw se qn qa) (isOut (.tup [.int .i64 (IntKind.i64.wrap (se + 1)), .int .i64 0]) (rlO pa la F.n t (IntKind.i64.wrap (se + 1)) (0 + qn + 0) ((ar0.cat qn qa).cat 0 ar0)) 5) := by
  obtain ⟨⟨⟨k1, k2⟩, k3, k4⟩, k5, k6, k7, k8, k9⟩ := rlE_zero he
  unfold Fa.tn at k9
  rw [if_pos hl] at k9
  have ct := rl_arrivals_lost pa la F nw se qn qa t x y s hn hl
  have w1 : IntKind.i64.wrap ((qn : Int) + 0) = qn := by rw [w64_in (by omega) (by omega)]; omega
  refine fc_of mixed T_ok Try.func15 rfl (by kernel_rfl) (by kernel_rfl) (by kernel_rfl) ?_
  repeat' ((conv => whnf); first | (refine vcall_out (l :=  [0, 1, 2, 3]) (ct ) ⟨rfl, rfl, rfl, rfl, (by (repeat' (first | exact trivial | exact GB_wf | exact fun _ _ => rfl | constructor)); first | done | fail), (by (repeat' (first | exact trivial | exact GB_fits rfl | constructor)); first | done | fail)⟩ ?_) | (refine vcallD_out (l :=  [0, 1, 2, 3]) (ct ) ⟨rfl, rfl, rfl, rfl, (by (repeat' (first | exact trivial | exact GB_wf | exact fun _ _ => rfl | constructor)); first | done | fail), (by (repeat' (first | exact trivial | exact GB_fits rfl | constructor)); first | done | fail)⟩ ?_) | (refine br_dec (fun h => ?_) (fun h => ?_) <;> try (exfalso; (try dsimp only at h); omega)) | (refine br_ndec (fun h => ?_) (fun h => ?_) <;> try (exfalso; (try dsimp only at h); omega)) | refine br_seq (fun h => ?_) (fun h => ?_) | refine br_nseq (fun h => ?_) (fun h => ?_) | refine br_not (fun h => ?_) (fun h => ?_) | refine br_intro (fun h => ?_) (fun h => ?_) | refine cond_intro rfl ?_ | (refine cond_intro ⟨rfl, ?_⟩ ?_; (first | omega | (dsimp only; omega) | decide)) | (refine cond_intro ?_ ?_; (first | omega | (dsimp only; omega) | decide | (simp only [Nat.add_zero, Int.toNat_natCast, *]; omega))))
  all_goals (conv => whnf)
  all_goals first
    | exact ret_out (l := [0, 1, 2, 3, 6]) rfl rfl ⟨rfl, rfl, trivial⟩ (allRw_cons (allRw_cons allRw_nil))
    | (exfalso; omega)
    | trace_state
theorem rl_Send_ok (pa la : Int) (F : Fa) (nw se : Int) (qn : Nat) (qa : Ar) (t x y : Int) (s : ByteArray) (hn : F.n ≤ 1000) (hq : qn ≤ 1000) (he : rlE pa nw qn (F.tn t x y) t x y s = 0) (hl : F.lost t x y F.n = false) (cn : Nat) (hcn : cn = F.cn t x y F.n + 1) (ga : Ar) (hga : ga = arOf (mkA (Fa.al (F.arr t x y (IntKind.i64.wrap (t + la)) F.n) (F.cp t x y F.n) (F.cn t x y F.n)) x y (IntKind.i64.wrap (se + 1)) s)) : FC Try.prog 4 15 [.ptr 1 0 0 0, .int .i64 t, .int .i64 x, .int .i64 y, .str s] (rlS pa la F nw se qn qa) (isOut (.tup [.int .i64 (IntKind.i64.wrap (se + 1)), .int .i64 0]) (rlO pa la F.n t (IntKind.i64.wrap (se + 1)) (0 + qn + cn) ((ar0.cat qn qa).cat cn ga)) 5) := by
  obtain ⟨⟨⟨k1, k2⟩, k3, k4⟩, k5, k6, k7, k8, k9⟩ := rlE_zero he
  unfold Fa.tn at k9
  rw [if_neg (by rw [hl]; decide)] at k9
  have ct := rl_arrivals pa la F nw se qn qa t x y s hn hl
  have hcl := cn_le F t x y F.n
  rw [← hga, ← hcn] at ct
  rw [← hcn] at k9
  have w1 : IntKind.i64.wrap ((qn : Int) + (cn : Int)) = (qn : Int) + (cn : Int) := w64_in (by omega) (by omega)
  clear hga
  refine fc_of mixed T_ok Try.func15 rfl (by kernel_rfl) (by kernel_rfl) (by kernel_rfl) ?_
  repeat' ((conv => whnf); first | (refine vcall_out (l :=  [0, 1, 2, 3]) (ct ) ⟨rfl, rfl, rfl, rfl, (by (repeat' (first | exact trivial | exact GB_wf | exact fun _ _ => rfl | constructor)); first | done | fail), (by (repeat' (first | exact trivial | exact GB_fits rfl | constructor)); first | done | fail)⟩ ?_) | (refine vcallD_out (l :=  [0, 1, 2, 3]) (ct ) ⟨rfl, rfl, rfl, rfl, (by (repeat' (first | exact trivial | exact GB_wf | exact fun _ _ => rfl | constructor)); first | done | fail), (by (repeat' (first | exact trivial | exact GB_fits rfl | constructor)); first | done | fail)⟩ ?_) | (refine br_dec (fun h => ?_) (fun h => ?_) <;> try (exfalso; (try dsimp only at h); omega)) | (refine br_ndec (fun h => ?_) (fun h => ?_) <;> try (exfalso; (try dsimp only at h); omega)) | refine br_seq (fun h => ?_) (fun h => ?_) | refine br_nseq (fun h => ?_) (fun h => ?_) | refine br_not (fun h => ?_) (fun h => ?_) | refine br_intro (fun h => ?_) (fun h => ?_) | refine cond_intro rfl ?_ | (refine cond_intro ⟨rfl, ?_⟩ ?_; (first | omega | (dsimp only; omega) | decide)) | (refine cond_intro ?_ ?_; (first | omega | (dsimp only; omega) | decide | (simp only [Nat.add_zero, Int.toNat_natCast, *]; omega))))
  all_goals (conv => whnf)
  all_goals first
    | exact ret_out (l := [0, 1, 2, 3, 7]) rfl rfl ⟨rfl, rfl, trivial⟩ (allRw_cons (allRw_cons allRw_nil))
    | (exfalso; omega)
    | trace_state
/-- The place of the first of the least times, or -1. -/
def fsI (ts : List Int) : Nat → Int
  | 0 => -1
  | i + 1 => if fsI ts i < 0 ∨ ts.getD i 0 < ts.getD (fsI ts i).toNat 0 then i else fsI ts i
theorem fsI_ok (ts : List Int) : ∀ n, (n = 0 ∧ fsI ts n = -1) ∨ (0 < n ∧ ∃ k : Nat, fsI ts n = (k : Int) ∧ k < n ∧ (∀ j, j < n → ts.getD k 0 ≤ ts.getD j 0) ∧ ∀ j, j < k → ts.getD k 0 < ts.getD j 0)
  | 0 => .inl ⟨rfl, rfl⟩
  | n + 1 => by
    right
    refine ⟨by omega, ?_⟩
    simp only [fsI]
    rcases fsI_ok ts n with ⟨rfl, h2⟩ | ⟨h1, k, h2, h3, h4, h5⟩
    · rw [h2, if_pos (.inl (by decide))]
      exact ⟨0, rfl, by omega, fun j hj => by have : j = 0 := by omega
                                              subst this; exact Int.le_refl _, fun j hj => by omega⟩
    · rw [h2]
      by_cases h : ts.getD n 0 < ts.getD k 0
      · rw [if_pos (.inr h)]
        refine ⟨n, rfl, by omega, fun j hj => ?_, fun j hj => ?_⟩
        · by_cases e : j = n
          · subst e; exact Int.le_refl _
          · have := h4 j (by omega); omega
        · have := h4 j (by omega); omega
      · rw [if_neg (by rintro (a | a); omega; exact h a)]
        refine ⟨k, rfl, by omega, fun j hj => ?_, h5⟩
        by_cases e : j = n
        · subst e; omega
        · exact h4 j (by omega)
abbrev rlF (pa la : Int) (fn : Nat) (nw k : Int) (qn : Nat) (ar : Ar) : Heap := [(1, some (rlC true pa la fn qn nw k)), (3, some (.one true (arB qn ar)))]
theorem rl_first (pa la : Int) (fn : Nat) (nw se : Int) (qn : Nat) (qa : Ar) (hq : qn ≤ 100000) : FC Try.prog 4 30 [.ptr 1 0 0 0] (rlF pa la fn nw se qn qa) (isOut (.int .i64 (fsI qa.t qn)) [] 4) := by
  refine fc_of mixed T_ok Try.func30 rfl (by kernel_rfl) (by kernel_rfl) (by kernel_rfl) ?_
  repeat' ((conv => whnf); first | (refine br_dec (fun h => ?_) (fun h => ?_) <;> try (exfalso; (try dsimp only at h); omega)) | (refine br_ndec (fun h => ?_) (fun h => ?_) <;> try (exfalso; (try dsimp only at h); omega)) | refine br_seq (fun h => ?_) (fun h => ?_) | refine br_nseq (fun h => ?_) (fun h => ?_) | refine br_not (fun h => ?_) (fun h => ?_) | refine br_intro (fun h => ?_) (fun h => ?_) | refine cond_intro rfl ?_ | (refine cond_intro ⟨rfl, ?_⟩ ?_; (first | omega | (dsimp only; omega) | decide)) | (refine cond_intro ?_ ?_; (first | omega | (dsimp only; omega) | decide | (simp only [Nat.add_zero, Int.toNat_natCast, *]; omega))))
  all_goals (conv => whnf)
  refine vloop_of (fun i : Nat => ⟨[(0, .ptr 1 0 0 0), (3, .int .i64 (fsI qa.t i)), (4, .int .i64 i)], rlF pa la fn nw se qn qa, 4⟩) (fun i => i ≤ qn) (fun i => qn - i) 0 [0, 1, 2, 3] [] ⟨rfl, ⟨rfl, rfl, rfl, trivial⟩, ⟨rfl, rfl, trivial⟩⟩ (Nat.zero_le _) ?_
  intro i hi
  have hstep : fsI qa.t (i + 1) = if fsI qa.t i < 0 ∨ qa.t.getD i 0 < qa.t.getD (fsI qa.t i).toNat 0 then (i : Int) else fsI qa.t i := rfl
  by_cases hi2 : i < qn
  · rcases fsI_ok qa.t i with ⟨rfl, h2⟩ | ⟨h1, k, h2, h3, h4, h5⟩
    · rw [h2] at hstep ⊢
      rw [if_pos (.inl (by decide))] at hstep
      repeat' ((conv => whnf); first | (refine br_dec (fun h => ?_) (fun h => ?_) <;> try (exfalso; (try dsimp only at h); omega)) | (refine br_ndec (fun h => ?_) (fun h => ?_) <;> try (exfalso; (try dsimp only at h); omega)) | refine br_seq (fun h => ?_) (fun h => ?_) | refine br_nseq (fun h => ?_) (fun h => ?_) | refine br_not (fun h => ?_) (fun h => ?_) | refine br_intro (fun h => ?_) (fun h => ?_) | refine cond_intro rfl ?_ | (refine cond_intro ⟨rfl, ?_⟩ ?_; (first | omega | (dsimp only; omega) | decide)) | (refine cond_intro ?_ ?_; (first | omega | (dsimp only; omega) | decide | (simp only [Nat.add_zero, Int.toNat_natCast, *]; omega))))
      all_goals (conv => whnf)
      all_goals first
        | (refine ⟨0 + 1, [0, 1, 2, 3], [], by omega, by omega, ?_⟩; rw [hstep]; exact ⟨rfl, ⟨rfl, rfl, rfl, trivial⟩, ⟨rfl, rfl, trivial⟩⟩)
        | (exfalso; omega)
        | trace_state
    · rw [h2] at hstep ⊢
      have e1 : qa.t.getD ((i : Int).toNat + 0) 0 = qa.t.getD i 0 := rfl
      have e2 : qa.t.getD ((k : Int).toNat + 0) 0 = qa.t.getD k 0 := rfl
      by_cases h : qa.t.getD i 0 < qa.t.getD k 0
      · rw [if_pos (.inr h)] at hstep
        repeat' ((conv => whnf); first | (refine br_dec (fun h => ?_) (fun h => ?_) <;> try (exfalso; (try dsimp only at h); omega)) | (refine br_ndec (fun h => ?_) (fun h => ?_) <;> try (exfalso; (try dsimp only at h); omega)) | refine br_seq (fun h => ?_) (fun h => ?_) | refine br_nseq (fun h => ?_) (fun h => ?_) | refine br_not (fun h => ?_) (fun h => ?_) | refine br_intro (fun h => ?_) (fun h => ?_) | refine cond_intro rfl ?_ | (refine cond_intro ⟨rfl, ?_⟩ ?_; (first | omega | (dsimp only; omega) | decide)) | (refine cond_intro ?_ ?_; (first | omega | (dsimp only; omega) | decide | (simp only [Nat.add_zero, Int.toNat_natCast, *]; omega))))
        all_goals (conv => whnf)
        all_goals first
          | (refine ⟨i + 1, [0, 1, 2, 3], [], by omega, by omega, ?_⟩; rw [hstep]; exact ⟨rfl, ⟨rfl, rfl, congrArg (fun z => some (SV.int .i64 z)) (i64_succ (by omega)), trivial⟩, ⟨rfl, rfl, trivial⟩⟩)
          | (exfalso; omega)
          | trace_state
      · rw [if_neg (by rintro (a | a); omega; exact h a)] at hstep
        repeat' ((conv => whnf); first | (refine br_dec (fun h => ?_) (fun h => ?_) <;> try (exfalso; (try dsimp only at h); omega)) | (refine br_ndec (fun h => ?_) (fun h => ?_) <;> try (exfalso; (try dsimp only at h); omega)) | refine br_seq (fun h => ?_) (fun h => ?_) | refine br_nseq (fun h => ?_) (fun h => ?_) | refine br_not (fun h => ?_) (fun h => ?_) | refine br_intro (fun h => ?_) (fun h => ?_) | refine cond_intro rfl ?_ | (refine cond_intro ⟨rfl, ?_⟩ ?_; (first | omega | (dsimp only; omega) | decide)) | (refine cond_intro ?_ ?_; (first | omega | (dsimp only; omega) | decide | (simp only [Nat.add_zero, Int.toNat_natCast, *]; omega))))
        all_goals (conv => whnf)
        all_goals first
          | (refine ⟨i + 1, [0, 1, 2, 3], [], by omega, by omega, ?_⟩; rw [hstep]; exact ⟨rfl, ⟨rfl, rfl, congrArg (fun z => some (SV.int .i64 z)) (i64_succ (by omega)), trivial⟩, ⟨rfl, rfl, trivial⟩⟩)
          | (exfalso; omega)
          | trace_state
  · obtain rfl : i = qn := by omega
    generalize fsI qa.t i = r at *
    repeat' ((conv => whnf); first | (refine br_dec (fun h => ?_) (fun h => ?_) <;> try (exfalso; (try dsimp only at h); omega)) | (refine br_ndec (fun h => ?_) (fun h => ?_) <;> try (exfalso; (try dsimp only at h); omega)) | refine br_seq (fun h => ?_) (fun h => ?_) | refine br_nseq (fun h => ?_) (fun h => ?_) | refine br_not (fun h => ?_) (fun h => ?_) | refine br_intro (fun h => ?_) (fun h => ?_) | refine cond_intro rfl ?_ | (refine cond_intro ⟨rfl, ?_⟩ ?_; (first | omega | (dsimp only; omega) | decide)) | (refine cond_intro ?_ ?_; (first | omega | (dsimp only; omega) | decide | (simp only [Nat.add_zero, Int.toNat_natCast, *]; omega))))
    all_goals (conv => whnf)
    all_goals first
      | exact ret_out (l := [0, 1, 2, 3]) rfl rfl trivial allRw_nil
      | (exfalso; omega)
      | trace_state
end Go.Proofs.Ytpconbdoackcfaa

/- Contracts of the reference of links: receiving. -/
namespace Go.Proofs.Ytpconbdoackcfaa
open Go.RowKit Go.Sy
attribute [local irreducible] vcall vloop vcallD retP
set_option maxRecDepth 100000
set_option linter.unusedVariables false
set_option linter.unusedSimpArgs false

abbrev avz : Av := ⟨0, 0, 0, 0, ⟨#[]⟩⟩
theorem split_at {Q : List Av} {k : Nat} (hk : k < Q.length) : Q = Q.take k ++ Q[k] :: Q.drop (k + 1) := by simp
theorem erase_at {Q : List Av} {k : Nat} : Q.eraseIdx k = Q.take k ++ Q.drop (k + 1) := List.eraseIdx_eq_take_drop_succ Q k
theorem atT_other {Q : List Av} {k : Nat} (hk : k < Q.length) {s : Int} (h : Q[k].t ≠ s) : atT (Q.eraseIdx k) s = atT Q s := by
  rw [erase_at]
  conv => rhs; rw [split_at hk]
  rw [atT_app, atT_app]
  congr 1
  unfold atT
  rw [List.filter_cons, if_neg (by simpa using h)]
theorem atT_first {Q : List Av} {k : Nat} (hk : k < Q.length) (hf : ∀ j (h : j < k), Q[k].t < (Q[j]'(by omega)).t) : atT Q Q[k].t = Q[k] :: atT (Q.eraseIdx k) Q[k].t := by
  have hn : atT (Q.take k) Q[k].t = [] := atT_none fun a ha e => by
    obtain ⟨j, hj, rfl⟩ := List.getElem_of_mem ha
    rw [List.length_take] at hj
    rw [List.getElem_take] at e
    have := hf j (by omega)
    omega
  have e : ∀ t, Q[k].t = t → atT (Q.take k) t = [] → atT Q t = Q[k] :: atT (Q.take k ++ Q.drop (k + 1)) t := by
    intro t ht hn
    conv => lhs; rw [split_at hk]
    rw [atT_app, atT_app, hn, List.nil_append, List.nil_append]
    unfold atT
    rw [List.filter_cons, if_pos (by simpa using ht)]
  rw [erase_at]
  exact e _ rfl hn
theorem catT_other {Q : List Av} {k : Nat} (hk : k < Q.length) : ∀ S : List Int, ¬ Q[k].t ∈ S → catT (Q.eraseIdx k) S = catT Q S
  | [], _ => rfl
  | s :: S, h => by
    have e : ∀ R, catT R (s :: S) = atT R s ++ catT R S := fun _ => rfl
    rw [e, e, atT_other hk (fun e => h (by simp [e])), catT_other hk S (fun e => h (by simp [e]))]
/-- The first arrival comes first. -/
theorem catT_first {Q : List Av} {k : Nat} (hk : k < Q.length) (hm : ∀ a, a ∈ Q → Q[k].t ≤ a.t) (hf : ∀ j (h : j < k), Q[k].t < (Q[j]'(by omega)).t) : ∀ S : List Int, S.Pairwise (fun a b => a < b) → Q[k].t ∈ S → catT Q S = Q[k] :: catT (Q.eraseIdx k) S
  | [], _, h => by cases h
  | s :: S, hS, h => by
    have e : ∀ R, catT R (s :: S) = atT R s ++ catT R S := fun _ => rfl
    obtain ⟨h1, h2⟩ := List.pairwise_cons.1 hS
    rw [e, e]
    by_cases hs : Q[k].t = s
    · subst hs
      rw [atT_first hk hf, catT_other hk S (fun hx => by have := h1 _ hx; omega)]; rfl
    · have hin : Q[k].t ∈ S := by
        rcases List.mem_cons.1 h with e | e
        · exact absurd e hs
        · exact e
      have hlt := h1 _ hin
      rw [catT_first hk hm hf S h2 hin, atT_other hk hs, atT_none (fun a ha => by have := hm a ha; omega)]; rfl
theorem filter_first {Q : List Av} {k : Nat} (hk : k < Q.length) {u : Int} (hu : Q[k].t ≤ u) : (Q.eraseIdx k).filter (fun a => decide (u < a.t)) = Q.filter (fun a => decide (u < a.t)) := by
  rw [erase_at]
  conv => rhs; rw [split_at hk]
  rw [List.filter_append, List.filter_append, List.filter_cons, if_neg (by simp; omega)]
theorem catT_none {Q : List Av} {S : List Int} (h : ∀ a, a ∈ Q → ¬ a.t ∈ S) : catT Q S = [] := by
  cases e : catT Q S with
  | nil => rfl
  | cons a l =>
    have : a ∈ catT Q S := by rw [e]; simp
    have hc : a ∈ Q ∧ a.t ∈ S := by
      unfold catT at this
      obtain ⟨l', hl, ha⟩ := List.mem_flatten.1 this
      obtain ⟨s, hs, rfl⟩ := List.mem_map.1 hl
      obtain ⟨a1, a2⟩ := atT_mem.1 ha
      exact ⟨a1, a2 ▸ hs⟩
    exact absurd hc.2 (h a hc.1)
/-- Where receiving stands: what has come, what is under way. -/
structure Rv2 where
  G : List Av
  Q : List Av
  gn : Nat
  qn : Nat
structure RvOk (Q0 : List Av) (S : List Int) (u : Int) (x : Rv2) : Prop where
  lg : x.G.length = x.gn
  lq : x.Q.length = x.qn
  lim : x.gn + x.qn ≤ 100000
  cat : x.G ++ catT x.Q S = catT Q0 S
  fil : x.Q.filter (fun a => decide (u < a.t)) = Q0.filter (fun a => decide (u < a.t))
  cov : ∀ a, a ∈ x.Q → (a.t ≤ u ↔ a.t ∈ S)
abbrev rrS (pa la : Int) (fn : Nat) (nw se u : Int) (x : Rv2) : VS := ⟨[(0, .ptr 1 0 0 0), (1, .int .i64 u), (5, .sl 5 0 0 x.gn), (6, .int .i64 (fsI (arOf x.Q).t x.qn))], [(1, some (.one false (.cells [.int .i64 pa, .int .i64 la, .sl 2 0 0 fn, .sl 4 0 0 x.qn, .int .i64 nw, .int .i64 se]))), (4, some (.one false (arB x.qn (arOf x.Q)))), (5, some (.one false (arB x.gn (arOf x.G))))], 6⟩
def Ar.rem (a : Ar) (k i m : Nat) : Ar := ⟨[] ++ seg 0 k a.t ++ seg i m a.t, [] ++ seg 0 k a.f ++ seg i m a.f, [] ++ seg 0 k a.o ++ seg i m a.o, [] ++ seg 0 k a.k ++ seg i m a.k, [] ++ seg 0 k a.x ++ seg i m a.x⟩
theorem seg_rem {α : Type} (f : Av → α) {Q : List Av} {k n : Nat} (hn : Q.length = n) : [] ++ seg 0 k (Q.map f) ++ seg (k + 1 + 0) (n - (k + 1)) (Q.map f) = (Q.eraseIdx k).map f := by
  rw [erase_at, List.map_append]
  unfold seg
  rw [List.nil_append, List.drop_zero, List.map_take, List.map_drop, Nat.add_zero]
  congr 1
  refine List.take_of_length_le ?_
  rw [List.length_drop, List.length_map]; omega
theorem rem_erase {Q : List Av} {k n : Nat} (hn : Q.length = n) : (arOf Q).rem k (k + 1 + 0) (n - (k + 1)) = arOf (Q.eraseIdx k) := by
  unfold Ar.rem arOf
  simp only [seg_rem _ hn]
theorem mapZ {α : Type} (f : Av → α) (l : List Av) (j : Nat) : (l.map f).getD j (f avz) = f (l.getD j avz) := by
  simp only [List.getD, List.getElem?_map]
  cases l[j]? <;> rfl
theorem add_at (G Q : List Av) {k : Nat} (hk : k < Q.length) : (arOf G).add ((arOf Q).t.getD k 0) ((arOf Q).f.getD k 0) ((arOf Q).o.getD k 0) ((arOf Q).k.getD k 0) ((arOf Q).x.getD k ⟨#[]⟩) = arOf (G ++ [Q[k]]) := by
  have e : Q.getD k avz = Q[k] := by rw [List.getD, List.getElem?_eq_getElem hk]; rfl
  have h1 : (arOf Q).t.getD k 0 = Q[k].t := by rw [← e]; exact mapZ Av.t Q k
  have h2 : (arOf Q).f.getD k 0 = Q[k].f := by rw [← e]; exact mapZ Av.f Q k
  have h3 : (arOf Q).o.getD k 0 = Q[k].o := by rw [← e]; exact mapZ Av.o Q k
  have h4 : (arOf Q).k.getD k 0 = Q[k].k := by rw [← e]; exact mapZ Av.k Q k
  have h5 : (arOf Q).x.getD k ⟨#[]⟩ = Q[k].x := by rw [← e]; exact mapZ Av.x Q k
  rw [h1, h2, h3, h4, h5, arOf_add]
theorem rr_round (pa la : Int) (fn : Nat) (nw se u : Int) (Q0 : List Av) (S : List Int) (hS : S.Pairwise (fun a b => a < b)) (x : Rv2) (hx : RvOk Q0 S u x) (k : Nat) (hk : k < x.qn) (hfs : fsI (arOf x.Q).t x.qn = (k : Int)) (hmin : ∀ j, j < x.qn → (arOf x.Q).t.getD k 0 ≤ (arOf x.Q).t.getD j 0) (hfst : ∀ j, j < k → (arOf x.Q).t.getD k 0 < (arOf x.Q).t.getD j 0) (hu : (arOf x.Q).t.getD k 0 ≤ u) (K : Exit → VS → Prop)
    (hN : ∀ x', RvOk Q0 S u x' → x'.qn < x.qn → ∀ v, (∃ l us, upK us v (fun v => Weak 4 l v (rrS pa la fn nw se u x'))) → K .normal v) :
    vcode Try.prog T 4 (lpc Try.f17 0) (rrS pa la fn nw se u x) K := by
  obtain ⟨G, Q, gn, qn⟩ := x
  obtain ⟨x1, x2, x3, x4, x5, x6⟩ := hx
  dsimp only at x1 x2 x3 x4 x5 x6 hk hfs hu hN hmin hfst
  have wk : IntKind.i64.wrap ((k : Int) + 1) = ((k + 1 : Nat) : Int) := i64_succ (by omega)
  have wkn : (IntKind.i64.wrap ((k : Int) + 1)).toNat = k + 1 := by rw [wk]; rfl
  have hkQ : k < Q.length := by omega
  have ct : ∀ j (h : j < Q.length), (arOf Q).t.getD j 0 = Q[j].t := fun j h => by
    have e : Q.getD j avz = Q[j] := by rw [List.getD, List.getElem?_eq_getElem h]; rfl
    rw [← e]; exact mapZ Av.t Q j
  rw [ct k hkQ] at hmin hfst
  have e1 : 0 + k + (qn - (IntKind.i64.wrap ((k : Int) + 1)).toNat) = qn - 1 := by rw [wkn]; omega
  have e2 : (arOf Q).rem k ((IntKind.i64.wrap ((k : Int) + 1)).toNat + 0) (qn - (IntKind.i64.wrap ((k : Int) + 1)).toNat) = arOf (Q.eraseIdx k) := by rw [wkn]; exact rem_erase x2
  have e3 := add_at G Q hkQ
  have hut : Q[k].t ≤ u := by rw [← ct k hkQ]; exact hu
  have hmin' : ∀ a, a ∈ Q → Q[k].t ≤ a.t := fun a ha => by
    obtain ⟨j, hj, rfl⟩ := List.getElem_of_mem ha
    have := hmin j (by omega)
    rwa [ct j hj] at this
  have hok : RvOk Q0 S u ⟨G ++ [Q[k]], Q.eraseIdx k, gn + 1, qn - 1⟩ := by
    refine ⟨by simp [x1], ?_, by dsimp only; omega, ?_, ?_, fun a ha => x6 a (List.mem_of_mem_eraseIdx ha)⟩
    · dsimp only
      rw [List.length_eraseIdx, if_pos hkQ, x2]
    · dsimp only
      rw [← x4, catT_first hkQ hmin' (fun j h => by have := hfst j h; rwa [ct j (by omega)] at this) S hS ((x6 _ (List.getElem_mem hkQ)).1 hut), List.append_assoc]; rfl
    · dsimp only
      rw [filter_first hkQ hut, x5]
  replace hN := hN _ hok (by dsimp only; omega)
  unfold rrS at hN ⊢
  dsimp only at hN ⊢
  rw [← e1, ← e2, ← e3] at hN
  rw [hfs]
  generalize arOf Q = qa at *
  generalize arOf G = ga at *
  have c2 := rl_first pa la fn nw se (0 + k + (qn - (IntKind.i64.wrap ((k : Int) + 1)).toNat)) (qa.rem k ((IntKind.i64.wrap ((k : Int) + 1)).toNat + 0) (qn - (IntKind.i64.wrap ((k : Int) + 1)).toNat)) (by rw [e1]; omega)
  have hu' : qa.t.getD ((k : Int).toNat + 0) 0 ≤ u := hu
  repeat' ((conv => whnf); first | (refine vcall_out (l :=  [0, 1, 2, 10]) (c2 ) ⟨rfl, rfl, rfl, rfl, (by (repeat' (first | exact trivial | exact GB_wf | exact fun _ _ => rfl | constructor)); first | done | fail), (by (repeat' (first | exact trivial | exact GB_fits rfl | constructor)); first | done | fail)⟩ ?_) | (refine vcallD_out (l :=  [0, 1, 2, 10]) (c2 ) ⟨rfl, rfl, rfl, rfl, (by (repeat' (first | exact trivial | exact GB_wf | exact fun _ _ => rfl | constructor)); first | done | fail), (by (repeat' (first | exact trivial | exact GB_fits rfl | constructor)); first | done | fail)⟩ ?_) | (refine vcall_out (l :=  [0, 1, 2, 9]) (c2 ) ⟨rfl, rfl, rfl, rfl, (by (repeat' (first | exact trivial | exact GB_wf | exact fun _ _ => rfl | constructor)); first | done | fail), (by (repeat' (first | exact trivial | exact GB_fits rfl | constructor)); first | done | fail)⟩ ?_) | (refine br_dec (fun h => ?_) (fun h => ?_) <;> try (exfalso; (try dsimp only at h); omega)) | (refine br_ndec (fun h => ?_) (fun h => ?_) <;> try (exfalso; (try dsimp only at h); omega)) | refine br_seq (fun h => ?_) (fun h => ?_) | refine br_nseq (fun h => ?_) (fun h => ?_) | refine br_not (fun h => ?_) (fun h => ?_) | refine br_intro (fun h => ?_) (fun h => ?_) | refine cond_intro rfl ?_ | (refine cond_intro ⟨rfl, ?_⟩ ?_; (first | omega | (dsimp only; omega) | decide)) | (refine cond_intro ?_ ?_; (first | omega | (dsimp only; omega) | decide | (simp only [Nat.add_zero, Int.toNat_natCast, *]; omega))))
  all_goals (conv => whnf)
  all_goals first
    | (exfalso; omega)
    | (exfalso; rw [wk] at *; omega)
    | exact hN _ ⟨[0, 1, 2, 3, 10, 7], [], ⟨rfl, ⟨rfl, rfl, rfl, rfl, trivial⟩, ⟨rfl, rfl, rfl, trivial⟩⟩⟩
    | trace_state
theorem rl_Receive (pa la : Int) (fn : Nat) (nw se u : Int) (Q : List Av) (qn : Nat) (hq : Q.length = qn) (hq2 : qn ≤ 1000) (S : List Int) (hS : S.Pairwise (fun a b => a < b)) (hc : ∀ a, a ∈ Q → (a.t ≤ u ↔ a.t ∈ S)) (G Qf : List Av) (hG : G = catT Q S) (hQf : Qf = Q.filter (fun a => decide (u < a.t))) (gn qn' : Nat) (hgn : gn = G.length) (hqn' : qn' = Qf.length) (nw' : Int) (hnw : nw' = max nw (min u 1099511627776)) :
    FC Try.prog 4 17 [.ptr 1 0 0 0, .int .i64 u] [(1, some (rlC false pa la fn qn nw se)), (3, some (.one false (arB qn (arOf Q))))] (isOut (.sl 5 0 0 gn) [(1, some (.one false (.cells [.int .i64 pa, .int .i64 la, .sl 2 0 0 fn, .sl 4 0 0 qn', .int .i64 nw', .int .i64 se]))), (4, some (.one false (arB qn' (arOf Qf)))), (5, some (.one false (arB gn (arOf G))))] 6) := by
  have c1 := rl_first pa la fn nw se qn (arOf Q) (by omega)
  refine fc_of mixed T_ok Try.func17 rfl (by kernel_rfl) (by kernel_rfl) (by kernel_rfl) ?_
  repeat' ((conv => whnf); first | (refine vcall_out (l :=  [0, 1, 2, 3]) (c1 ) ⟨rfl, rfl, rfl, rfl, (by (repeat' (first | exact trivial | exact GB_wf | exact fun _ _ => rfl | constructor)); first | done | fail), (by (repeat' (first | exact trivial | exact GB_fits rfl | constructor)); first | done | fail)⟩ ?_) | (refine vcallD_out (l :=  [0, 1, 2, 3]) (c1 ) ⟨rfl, rfl, rfl, rfl, (by (repeat' (first | exact trivial | exact GB_wf | exact fun _ _ => rfl | constructor)); first | done | fail), (by (repeat' (first | exact trivial | exact GB_fits rfl | constructor)); first | done | fail)⟩ ?_) | (refine br_dec (fun h => ?_) (fun h => ?_) <;> try (exfalso; (try dsimp only at h); omega)) | (refine br_ndec (fun h => ?_) (fun h => ?_) <;> try (exfalso; (try dsimp only at h); omega)) | refine br_seq (fun h => ?_) (fun h => ?_) | refine br_nseq (fun h => ?_) (fun h => ?_) | refine br_not (fun h => ?_) (fun h => ?_) | refine br_intro (fun h => ?_) (fun h => ?_) | refine cond_intro rfl ?_ | (refine cond_intro ⟨rfl, ?_⟩ ?_; (first | omega | (dsimp only; omega) | decide)) | (refine cond_intro ?_ ?_; (first | omega | (dsimp only; omega) | decide | (simp only [Nat.add_zero, Int.toNat_natCast, *]; omega))))
  all_goals (conv => whnf)
  refine vloop_lp (rrS pa la fn nw se u) (RvOk Q S u) (fun x => x.qn) ⟨[], Q, 0, qn⟩ [0, 1, 2, 3, 3, 4] [.slot 5 [.sc (.ints .i64 []), .sc (.ints .i64 []), .sc (.ints .i64 []), .sc (.ints .i64 []), .sc (.strs [])]] ⟨rfl, ⟨rfl, rfl, rfl, rfl, trivial⟩, ⟨rfl, rfl, rfl, trivial⟩⟩ ⟨rfl, hq, by dsimp only; omega, rfl, rfl, hc⟩ ?_
  intro x hx
  have hfin : (∀ a, a ∈ x.Q → ¬ a.t ≤ u) → x.G = G ∧ x.Q = Qf := by
    intro h
    have h1 := hx.cat
    have h2 := hx.fil
    rw [catT_none (fun a ha e => h a ha ((hx.cov a ha).2 e)), List.append_nil] at h1
    rw [List.filter_eq_self.2 (fun a ha => by have := h a ha; simp; omega)] at h2
    exact ⟨h1.trans hG.symm, h2.trans hQf.symm⟩
  have hxq : ∀ j (h : j < x.Q.length), (arOf x.Q).t.getD j 0 = x.Q[j].t := fun j h => by
    have e : x.Q.getD j avz = x.Q[j] := by rw [List.getD, List.getElem?_eq_getElem h]; rfl
    rw [← e]; exact mapZ Av.t x.Q j
  have hlq := hx.lq
  have hnw3 : (nw' = u ∧ u ≤ 1099511627776 ∧ nw < u) ∨ (nw' = 1099511627776 ∧ 1099511627776 < u ∧ nw < 1099511627776) ∨ (nw' = nw ∧ u ≤ 1099511627776 ∧ u ≤ nw) ∨ (nw' = nw ∧ 1099511627776 < u ∧ 1099511627776 ≤ nw) := by omega
  clear hnw
  rcases fsI_ok (arOf x.Q).t x.qn with ⟨h1, h2⟩ | ⟨h1, k, h2, h3, h4, h5⟩
  · obtain ⟨eG, eQ⟩ := hfin (fun a ha => by
      rw [List.eq_nil_of_length_eq_zero (l := x.Q) (by omega)] at ha; cases ha)
    have e1 : x.gn = gn := by rw [← hx.lg, eG, hgn]
    have e2 : x.qn = qn' := by rw [← hlq, eQ, hqn']
    obtain ⟨xG, xQ, xgn, xqn⟩ := x
    dsimp only at eG eQ e1 e2 h1 h2
    subst eG eQ e1 e2
    unfold rrS
    dsimp only
    rw [h2]
    generalize arOf xG = ga at *
    generalize arOf xQ = qa at *
    clear hG hQf hgn hqn' hx hfin hxq hlq h2 c1
    rcases hnw3 with ⟨rfl, n1, n2⟩ | ⟨rfl, n1, n2⟩ | ⟨rfl, n1, n2⟩ | ⟨rfl, n1, n2⟩
    all_goals
      repeat' ((conv => whnf); first | (refine br_dec (fun h => ?_) (fun h => ?_) <;> try (exfalso; (try dsimp only at h); omega)) | (refine br_ndec (fun h => ?_) (fun h => ?_) <;> try (exfalso; (try dsimp only at h); omega)) | refine br_seq (fun h => ?_) (fun h => ?_) | refine br_nseq (fun h => ?_) (fun h => ?_) | refine br_not (fun h => ?_) (fun h => ?_) | refine br_intro (fun h => ?_) (fun h => ?_) | refine cond_intro rfl ?_ | (refine cond_intro ⟨rfl, ?_⟩ ?_; (first | omega | (dsimp only; omega) | decide)) | (refine cond_intro ?_ ?_; (first | omega | (dsimp only; omega) | decide | (simp only [Nat.add_zero, Int.toNat_natCast, *]; omega))))
      all_goals (conv => whnf)
      all_goals first
        | exact ret_out (l := [0, 1, 2, 3, 4, 5]) rfl rfl ⟨rfl, rfl, rfl, trivial⟩ (allRw_cons (allRw_cons (allRw_cons allRw_nil)))
        | (exfalso; omega)
        | trace_state
  · by_cases hu : (arOf x.Q).t.getD k 0 ≤ u
    · exact rr_round pa la fn nw se u Q S hS x hx k h3 h2 h4 h5 hu _ (fun x' hx' hl v ⟨l, us, h⟩ => ⟨x', l, us, hx', hl, h⟩)
    · obtain ⟨eG, eQ⟩ := hfin (fun a ha => by
        obtain ⟨j, hj, rfl⟩ := List.getElem_of_mem ha
        have := h4 j (by omega)
        rw [hxq j hj] at this
        omega)
      have e1 : x.gn = gn := by rw [← hx.lg, eG, hgn]
      have e2 : x.qn = qn' := by rw [← hlq, eQ, hqn']
      obtain ⟨xG, xQ, xgn, xqn⟩ := x
      dsimp only at eG eQ e1 e2 h1 h2 h3 hu
      subst eG eQ e1 e2
      unfold rrS
      dsimp only
      rw [h2]
      generalize arOf xG = ga at *
      generalize arOf xQ = qa at *
      clear hG hQf hgn hqn' hx hfin hxq hlq h2 c1 h4 h5
      have hu' : ¬ qa.t.getD ((k : Int).toNat + 0) 0 ≤ u := hu
      rcases hnw3 with ⟨rfl, n1, n2⟩ | ⟨rfl, n1, n2⟩ | ⟨rfl, n1, n2⟩ | ⟨rfl, n1, n2⟩
      all_goals
        repeat' ((conv => whnf); first | (refine br_dec (fun h => ?_) (fun h => ?_) <;> try (exfalso; (try dsimp only at h); omega)) | (refine br_ndec (fun h => ?_) (fun h => ?_) <;> try (exfalso; (try dsimp only at h); omega)) | refine br_seq (fun h => ?_) (fun h => ?_) | refine br_nseq (fun h => ?_) (fun h => ?_) | refine br_not (fun h => ?_) (fun h => ?_) | refine br_intro (fun h => ?_) (fun h => ?_) | refine cond_intro rfl ?_ | (refine cond_intro ⟨rfl, ?_⟩ ?_; (first | omega | (dsimp only; omega) | decide)) | (refine cond_intro ?_ ?_; (first | omega | (dsimp only; omega) | decide | (simp only [Nat.add_zero, Int.toNat_natCast, *]; omega))))
        all_goals (conv => whnf)
        all_goals first
          | exact ret_out (l := [0, 1, 2, 3, 4, 5]) rfl rfl ⟨rfl, rfl, rfl, trivial⟩ (allRw_cons (allRw_cons (allRw_cons allRw_nil)))
          | (exfalso; omega)
          | trace_state
end Go.Proofs.Ytpconbdoackcfaa

/- Contracts of links and of their reference: the next arrival, what is dropped, what is cut; arrivals compared. -/
namespace Go.Proofs.Ytpconbdoackcfaa
open Go.RowKit Go.Sy
attribute [local irreducible] vcall vloop vcallD retP
set_option maxRecDepth 100000
set_option linter.unusedVariables false
set_option linter.unusedSimpArgs false

theorem rl_Sent (pa la : Int) (fn : Nat) (nw se : Int) (qn : Nat) : FC Try.prog 4 23 [.ptr 1 0 0 0] [(1, some (rlC true pa la fn qn nw se))] (isOut (.int .i64 se) [] 4) := by
  refine fc_of mixed T_ok Try.func23 rfl (by kernel_rfl) (by kernel_rfl) (by kernel_rfl) ?_
  repeat' ((conv => whnf); first | (refine br_dec (fun h => ?_) (fun h => ?_) <;> try (exfalso; (try dsimp only at h); omega)) | (refine br_ndec (fun h => ?_) (fun h => ?_) <;> try (exfalso; (try dsimp only at h); omega)) | refine br_seq (fun h => ?_) (fun h => ?_) | refine br_nseq (fun h => ?_) (fun h => ?_) | refine br_not (fun h => ?_) (fun h => ?_) | refine br_intro (fun h => ?_) (fun h => ?_) | refine cond_intro rfl ?_ | (refine cond_intro ⟨rfl, ?_⟩ ?_; (first | omega | (dsimp only; omega) | decide)) | (refine cond_intro ?_ ?_; (first | omega | (dsimp only; omega) | decide | (simp only [Nat.add_zero, Int.toNat_natCast, *]; omega))))
  all_goals (conv => whnf)
  all_goals exact ret_out (l := [0, 1, 2, 3]) rfl rfl trivial allRw_nil
theorem rl_Next_none (pa la : Int) (fn : Nat) (nw se : Int) (qa : Ar) : FC Try.prog 4 22 [.ptr 1 0 0 0] (rlF pa la fn nw se 0 qa) (isOut (.tup [.int .i64 0, .bool false]) [] 4) := by
  have c1 := rl_first pa la fn nw se 0 qa (by decide)
  rw [show fsI qa.t 0 = -1 from rfl] at c1
  refine fc_of mixed T_ok Try.func22 rfl (by kernel_rfl) (by kernel_rfl) (by kernel_rfl) ?_
  repeat' ((conv => whnf); first | (refine vcall_out (l :=  [0, 1, 2, 3]) (c1 ) ⟨rfl, rfl, rfl, rfl, (by (repeat' (first | exact trivial | exact GB_wf | exact fun _ _ => rfl | constructor)); first | done | fail), (by (repeat' (first | exact trivial | exact GB_fits rfl | constructor)); first | done | fail)⟩ ?_) | (refine vcallD_out (l :=  [0, 1, 2, 3]) (c1 ) ⟨rfl, rfl, rfl, rfl, (by (repeat' (first | exact trivial | exact GB_wf | exact fun _ _ => rfl | constructor)); first | done | fail), (by (repeat' (first | exact trivial | exact GB_fits rfl | constructor)); first | done | fail)⟩ ?_) | (refine br_dec (fun h => ?_) (fun h => ?_) <;> try (exfalso; (try dsimp only at h); omega)) | (refine br_ndec (fun h => ?_) (fun h => ?_) <;> try (exfalso; (try dsimp only at h); omega)) | refine br_seq (fun h => ?_) (fun h => ?_) | refine br_nseq (fun h => ?_) (fun h => ?_) | refine br_not (fun h => ?_) (fun h => ?_) | refine br_intro (fun h => ?_) (fun h => ?_) | refine cond_intro rfl ?_ | (refine cond_intro ⟨rfl, ?_⟩ ?_; (first | omega | (dsimp only; omega) | decide)) | (refine cond_intro ?_ ?_; (first | omega | (dsimp only; omega) | decide | (simp only [Nat.add_zero, Int.toNat_natCast, *]; omega))))
  all_goals (conv => whnf)
  all_goals first
    | exact ret_out (l := [0, 1, 2, 3]) rfl rfl trivial allRw_nil
    | (exfalso; omega)
    | trace_state
theorem rl_Next_some (pa la : Int) (fn : Nat) (nw se : Int) (qn : Nat) (qa : Ar) (hq : qn ≤ 100000) (k : Nat) (hk : k < qn) (hf : fsI qa.t qn = (k : Int)) (m : Int) (hm : qa.t.getD k 0 = m) : FC Try.prog 4 22 [.ptr 1 0 0 0] (rlF pa la fn nw se qn qa) (isOut (.tup [.int .i64 m, .bool true]) [] 4) := by
  have c1 := rl_first pa la fn nw se qn qa hq
  rw [hf] at c1
  subst hm
  refine fc_of mixed T_ok Try.func22 rfl (by kernel_rfl) (by kernel_rfl) (by kernel_rfl) ?_
  repeat' ((conv => whnf); first | (refine vcall_out (l :=  [0, 1, 2, 3]) (c1 ) ⟨rfl, rfl, rfl, rfl, (by (repeat' (first | exact trivial | exact GB_wf | exact fun _ _ => rfl | constructor)); first | done | fail), (by (repeat' (first | exact trivial | exact GB_fits rfl | constructor)); first | done | fail)⟩ ?_) | (refine vcallD_out (l :=  [0, 1, 2, 3]) (c1 ) ⟨rfl, rfl, rfl, rfl, (by (repeat' (first | exact trivial | exact GB_wf | exact fun _ _ => rfl | constructor)); first | done | fail), (by (repeat' (first | exact trivial | exact GB_fits rfl | constructor)); first | done | fail)⟩ ?_) | (refine br_dec (fun h => ?_) (fun h => ?_) <;> try (exfalso; (try dsimp only at h); omega)) | (refine br_ndec (fun h => ?_) (fun h => ?_) <;> try (exfalso; (try dsimp only at h); omega)) | refine br_seq (fun h => ?_) (fun h => ?_) | refine br_nseq (fun h => ?_) (fun h => ?_) | refine br_not (fun h => ?_) (fun h => ?_) | refine br_intro (fun h => ?_) (fun h => ?_) | refine cond_intro rfl ?_ | (refine cond_intro ⟨rfl, ?_⟩ ?_; (first | omega | (dsimp only; omega) | decide)) | (refine cond_intro ?_ ?_; (first | omega | (dsimp only; omega) | decide | (simp only [Nat.add_zero, Int.toNat_natCast, *]; omega))))
  all_goals (conv => whnf)
  all_goals first
    | exact ret_out (l := [0, 1, 2, 3]) rfl rfl trivial allRw_nil
    | (exfalso; omega)
    | trace_state
/-- The reference's and the program's next arrival are one. -/
theorem rl_Next (pa la : Int) (fn : Nat) (nw se : Int) (W : Wy) (Q : List Av) (h : Rep W Q) (hq : Q.length ≤ 1000) : FC Try.prog 4 22 [.ptr 1 0 0 0] (rlF pa la fn nw se Q.length (arOf Q)) (isOut (.tup [.int .i64 (lmin W.ks), .bool (decide (0 < W.n))]) [] 4) := by
  rcases fsI_ok (arOf Q).t Q.length with ⟨h1, h2⟩ | ⟨h1, k, h2, h3, h4, h5⟩
  · have eQ := List.eq_nil_of_length_eq_zero h1
    subst eQ
    have hn : W.n = 0 := by have := h.n_le; simp at this; omega
    have hk : W.ks = [] := List.eq_nil_of_length_eq_zero (by rw [h.kl, hn])
    rw [hk, hn]
    exact rl_Next_none pa la fn nw se _
  · have hat : ∀ j (hj : j < Q.length), (arOf Q).t.getD j 0 = Q[j].t := fun j hj => by
      have e : Q.getD j avz = Q[j] := by rw [List.getD, List.getElem?_eq_getElem hj]; rfl
      rw [← e]; exact mapZ Av.t Q j
    have hin : Q[k].t ∈ W.ks := (h.mem _).2 ⟨Q[k], List.getElem_mem h3, rfl⟩
    have hpos : 0 < W.n := by rw [← h.kl]; exact List.length_pos_of_mem hin
    have hne : W.ks ≠ [] := fun e => by rw [e] at hin; cases hin
    obtain ⟨m1, m2⟩ := lmin_ok W.ks hne
    have e : (arOf Q).t.getD k 0 = lmin W.ks := by
      rw [hat k h3]
      have a1 := m2 _ hin
      obtain ⟨a, ha, e⟩ := (h.mem _).1 m1
      obtain ⟨j, hj, rfl⟩ := List.getElem_of_mem ha
      have a2 := h4 j hj
      rw [hat k h3, hat j hj] at a2
      omega
    rw [decide_eq_true hpos]
    exact rl_Next_some pa la fn nw se Q.length (arOf Q) (by omega) k h3 h2 _ e
/-- Whether two parties are separated by one of the first faults. -/
def Fa.cutB (F : Fa) (t x y : Int) : Nat → Bool
  | 0 => false
  | k + 1 => F.cutB t x y k || (decide (F.k.getD k 0 = 4) && F.act t x y k)
theorem cut_mono {F : Fa} {t x y : Int} {k : Nat} (h : F.cutB t x y k = true) : ∀ n, k ≤ n → F.cutB t x y n = true
  | 0, hh => by have : k = 0 := by omega
                subst this; exact h
  | n + 1, hh => by
    by_cases e : k = n + 1
    · subst e; exact h
    · simp only [Fa.cutB, cut_mono h n (by omega), Bool.true_or]
theorem lk_CutN (t x y : Int) : Pure Try.prog 20 [.nptr, .int .i64 t, .int .i64 x, .int .i64 y] (.bool false) := by
  refine fc_of mixed T_ok Try.func20 rfl (by kernel_rfl) (by kernel_rfl) (by kernel_rfl) ?_
  repeat' ((conv => whnf); first | (refine br_dec (fun h => ?_) (fun h => ?_) <;> try (exfalso; (try dsimp only at h); omega)) | (refine br_ndec (fun h => ?_) (fun h => ?_) <;> try (exfalso; (try dsimp only at h); omega)) | refine br_seq (fun h => ?_) (fun h => ?_) | refine br_nseq (fun h => ?_) (fun h => ?_) | refine br_not (fun h => ?_) (fun h => ?_) | refine br_intro (fun h => ?_) (fun h => ?_) | refine cond_intro rfl ?_ | (refine cond_intro ⟨rfl, ?_⟩ ?_; (first | omega | (dsimp only; omega) | decide)) | (refine cond_intro ?_ ?_; (first | omega | (dsimp only; omega) | decide | (simp only [Nat.add_zero, Int.toNat_natCast, *]; omega))))
  all_goals (conv => whnf)
  all_goals exact ret_pure rfl
theorem lk_DropN (p : Int) : Pure Try.prog 18 [.nptr, .int .i64 p] (.int .i64 0) := by
  refine fc_of mixed T_ok Try.func18 rfl (by kernel_rfl) (by kernel_rfl) (by kernel_rfl) ?_
  repeat' ((conv => whnf); first | (refine br_dec (fun h => ?_) (fun h => ?_) <;> try (exfalso; (try dsimp only at h); omega)) | (refine br_ndec (fun h => ?_) (fun h => ?_) <;> try (exfalso; (try dsimp only at h); omega)) | refine br_seq (fun h => ?_) (fun h => ?_) | refine br_nseq (fun h => ?_) (fun h => ?_) | refine br_not (fun h => ?_) (fun h => ?_) | refine br_intro (fun h => ?_) (fun h => ?_) | refine cond_intro rfl ?_ | (refine cond_intro ⟨rfl, ?_⟩ ?_; (first | omega | (dsimp only; omega) | decide)) | (refine cond_intro ?_ ?_; (first | omega | (dsimp only; omega) | decide | (simp only [Nat.add_zero, Int.toNat_natCast, *]; omega))))
  all_goals (conv => whnf)
  all_goals exact ret_pure rfl
abbrev ctR (L : Lk) : Heap := [(1, some (lkC true L)), (2, some (faB true L.F))]
theorem lk_Cut (L : Lk) (t x y : Int) (hn : L.F.n ≤ 1000) : FC Try.prog 5 20 [.ptr 1 0 0 0, .int .i64 t, .int .i64 x, .int .i64 y] (ctR L) (isOut (.bool (L.F.cutB t x y L.F.n)) [] 5) := by
  refine fc_of mixed T_ok Try.func20 rfl (by kernel_rfl) (by kernel_rfl) (by kernel_rfl) ?_
  repeat' ((conv => whnf); first | (refine br_dec (fun h => ?_) (fun h => ?_) <;> try (exfalso; (try dsimp only at h); omega)) | (refine br_ndec (fun h => ?_) (fun h => ?_) <;> try (exfalso; (try dsimp only at h); omega)) | refine br_seq (fun h => ?_) (fun h => ?_) | refine br_nseq (fun h => ?_) (fun h => ?_) | refine br_not (fun h => ?_) (fun h => ?_) | refine br_intro (fun h => ?_) (fun h => ?_) | refine cond_intro rfl ?_ | (refine cond_intro ⟨rfl, ?_⟩ ?_; (first | omega | (dsimp only; omega) | decide)) | (refine cond_intro ?_ ?_; (first | omega | (dsimp only; omega) | decide | (simp only [Nat.add_zero, Int.toNat_natCast, *]; omega))))
  all_goals (conv => whnf)
  refine vloop_of (fun k : Nat => ⟨[(1, .int .i64 t), (2, .int .i64 x), (3, .int .i64 y), (16, .sl 2 0 0 L.F.n), (17, .int .i64 L.F.n), (18, .int .i64 k)], ctR L, 5⟩) (fun k => k ≤ L.F.n ∧ L.F.cutB t x y k = false) (fun k => L.F.n - k) 0 [0, 1, 2, 3, 4] [] ⟨rfl, ⟨rfl, rfl, rfl, rfl, rfl, rfl, trivial⟩, ⟨rfl, rfl, trivial⟩⟩ ⟨Nat.zero_le _, rfl⟩ ?_
  rintro k ⟨hk, hf⟩
  by_cases hk2 : k < L.F.n
  · have c1 := lk_inForce (L.F.k.getD k 0) (L.F.a.getD k 0) (L.F.b.getD k 0) (L.F.f.getD k 0) (L.F.u.getD k 0) (L.F.e.getD k 0) t
    have c2 := lk_concerns (L.F.k.getD k 0) (L.F.a.getD k 0) (L.F.b.getD k 0) (L.F.f.getD k 0) (L.F.u.getD k 0) (L.F.e.getD k 0) x y
    have hst : L.F.cutB t x y (k + 1) = (decide (L.F.k.getD k 0 = 4) && (ifB (L.F.f.getD k 0) (L.F.u.getD k 0) t && cnB (L.F.k.getD k 0) (L.F.a.getD k 0) (L.F.b.getD k 0) x y)) := by simp only [Fa.cutB, hf, Bool.false_or]; rfl
    have hk0 : L.F.k.getD ((k : Int).toNat + 0) 0 = L.F.k.getD k 0 := rfl
    generalize ifB (L.F.f.getD k 0) (L.F.u.getD k 0) t = b1 at *
    generalize cnB (L.F.k.getD k 0) (L.F.a.getD k 0) (L.F.b.getD k 0) x y = b2 at *
    by_cases h4 : L.F.k.getD k 0 = 4
    · cases hb : (b1 && b2) with
      | true =>
        have e := cut_mono (k := k + 1) (by rw [hst, hb, decide_eq_true h4]; rfl) L.F.n (by omega)
        rw [e]
        simp only [Bool.and_eq_true] at hb
        obtain ⟨rfl, rfl⟩ := hb
        clear hst e hf
        repeat' ((conv => whnf); first | (refine vcall_pure (c1) rfl rfl rfl ?_) | (refine vcallD_pure (c1) rfl rfl rfl ?_) | (refine vcall_pure (c2) rfl rfl rfl ?_) | (refine vcallD_pure (c2) rfl rfl rfl ?_) | (refine br_dec (fun h => ?_) (fun h => ?_) <;> try (exfalso; (try dsimp only at h); omega)) | (refine br_ndec (fun h => ?_) (fun h => ?_) <;> try (exfalso; (try dsimp only at h); omega)) | refine br_seq (fun h => ?_) (fun h => ?_) | refine br_nseq (fun h => ?_) (fun h => ?_) | refine br_not (fun h => ?_) (fun h => ?_) | refine br_intro (fun h => ?_) (fun h => ?_) | refine cond_intro rfl ?_ | (refine cond_intro ⟨rfl, ?_⟩ ?_; (first | omega | (dsimp only; omega) | decide)) | (refine cond_intro ?_ ?_; (first | omega | (dsimp only; omega) | decide | (simp only [Nat.add_zero, Int.toNat_natCast, *]; omega))))
        all_goals (conv => whnf)
        all_goals first
          | exact ret_out (l := [0, 1, 2, 3, 4]) rfl rfl trivial allRw_nil
          | (exfalso; omega)
          | trace_state
      | false =>
        have e : L.F.cutB t x y (k + 1) = false := by rw [hst, hb, Bool.and_false]
        clear hst hf
        cases b1 <;> cases b2 <;> first | (cases hb; done) | skip
        all_goals
          repeat' ((conv => whnf); first | (refine vcall_pure (c1) rfl rfl rfl ?_) | (refine vcallD_pure (c1) rfl rfl rfl ?_) | (refine vcall_pure (c2) rfl rfl rfl ?_) | (refine vcallD_pure (c2) rfl rfl rfl ?_) | (refine br_dec (fun h => ?_) (fun h => ?_) <;> try (exfalso; (try dsimp only at h); omega)) | (refine br_ndec (fun h => ?_) (fun h => ?_) <;> try (exfalso; (try dsimp only at h); omega)) | refine br_seq (fun h => ?_) (fun h => ?_) | refine br_nseq (fun h => ?_) (fun h => ?_) | refine br_not (fun h => ?_) (fun h => ?_) | refine br_intro (fun h => ?_) (fun h => ?_) | refine cond_intro rfl ?_ | (refine cond_intro ⟨rfl, ?_⟩ ?_; (first | omega | (dsimp only; omega) | decide)) | (refine cond_intro ?_ ?_; (first | omega | (dsimp only; omega) | decide | (simp only [Nat.add_zero, Int.toNat_natCast, *]; omega))))
          all_goals (conv => whnf)
          all_goals first
            | exact ⟨k + 1, [0, 1, 2, 3, 4], [], ⟨hk2, e⟩, by omega, ⟨rfl, ⟨rfl, rfl, rfl, rfl, rfl, congrArg (fun z => some (SV.int .i64 z)) (i64_succ (by omega)), trivial⟩, ⟨rfl, rfl, trivial⟩⟩⟩
            | (exfalso; omega)
            | trace_state
    · have e : L.F.cutB t x y (k + 1) = false := by rw [hst, decide_eq_false h4, Bool.false_and]
      clear hst hf
      repeat' ((conv => whnf); first | (refine vcall_pure (c1) rfl rfl rfl ?_) | (refine vcallD_pure (c1) rfl rfl rfl ?_) | (refine vcall_pure (c2) rfl rfl rfl ?_) | (refine vcallD_pure (c2) rfl rfl rfl ?_) | (refine br_dec (fun h => ?_) (fun h => ?_) <;> try (exfalso; (try dsimp only at h); omega)) | (refine br_ndec (fun h => ?_) (fun h => ?_) <;> try (exfalso; (try dsimp only at h); omega)) | refine br_seq (fun h => ?_) (fun h => ?_) | refine br_nseq (fun h => ?_) (fun h => ?_) | refine br_not (fun h => ?_) (fun h => ?_) | refine br_intro (fun h => ?_) (fun h => ?_) | refine cond_intro rfl ?_ | (refine cond_intro ⟨rfl, ?_⟩ ?_; (first | omega | (dsimp only; omega) | decide)) | (refine cond_intro ?_ ?_; (first | omega | (dsimp only; omega) | decide | (simp only [Nat.add_zero, Int.toNat_natCast, *]; omega))))
      all_goals (conv => whnf)
      all_goals first
        | exact ⟨k + 1, [0, 1, 2, 3, 4], [], ⟨hk2, e⟩, by omega, ⟨rfl, ⟨rfl, rfl, rfl, rfl, rfl, congrArg (fun z => some (SV.int .i64 z)) (i64_succ (by omega)), trivial⟩, ⟨rfl, rfl, trivial⟩⟩⟩
        | (exfalso; omega)
        | trace_state
  · obtain rfl : k = L.F.n := by omega
    rw [hf]
    repeat' ((conv => whnf); first | (refine br_dec (fun h => ?_) (fun h => ?_) <;> try (exfalso; (try dsimp only at h); omega)) | (refine br_ndec (fun h => ?_) (fun h => ?_) <;> try (exfalso; (try dsimp only at h); omega)) | refine br_seq (fun h => ?_) (fun h => ?_) | refine br_nseq (fun h => ?_) (fun h => ?_) | refine br_not (fun h => ?_) (fun h => ?_) | refine br_intro (fun h => ?_) (fun h => ?_) | refine cond_intro rfl ?_ | (refine cond_intro ⟨rfl, ?_⟩ ?_; (first | omega | (dsimp only; omega) | decide)) | (refine cond_intro ?_ ?_; (first | omega | (dsimp only; omega) | decide | (simp only [Nat.add_zero, Int.toNat_natCast, *]; omega))))
    all_goals (conv => whnf)
    all_goals first
      | exact ret_out (l := [0, 1, 2, 3, 4]) rfl rfl trivial allRw_nil
      | (exfalso; omega)
      | trace_state
abbrev rctR (pa la : Int) (F : Fa) (nw se : Int) (qn : Nat) : Heap := [(1, some (rlC true pa la F.n qn nw se)), (2, some (faB true F))]
theorem rl_Cut (pa la : Int) (F : Fa) (nw se : Int) (qn : Nat) (t x y : Int) (hn : F.n ≤ 1000) : FC Try.prog 4 21 [.ptr 1 0 0 0, .int .i64 t, .int .i64 x, .int .i64 y] (rctR pa la F nw se qn) (isOut (.bool (F.cutB t x y F.n)) [] 4) := by
  refine fc_of mixed T_ok Try.func21 rfl (by kernel_rfl) (by kernel_rfl) (by kernel_rfl) ?_
  repeat' ((conv => whnf); first | (refine br_dec (fun h => ?_) (fun h => ?_) <;> try (exfalso; (try dsimp only at h); omega)) | (refine br_ndec (fun h => ?_) (fun h => ?_) <;> try (exfalso; (try dsimp only at h); omega)) | refine br_seq (fun h => ?_) (fun h => ?_) | refine br_nseq (fun h => ?_) (fun h => ?_) | refine br_not (fun h => ?_) (fun h => ?_) | refine br_intro (fun h => ?_) (fun h => ?_) | refine cond_intro rfl ?_ | (refine cond_intro ⟨rfl, ?_⟩ ?_; (first | omega | (dsimp only; omega) | decide)) | (refine cond_intro ?_ ?_; (first | omega | (dsimp only; omega) | decide | (simp only [Nat.add_zero, Int.toNat_natCast, *]; omega))))
  all_goals (conv => whnf)
  refine vloop_of (fun k : Nat => ⟨[(0, .ptr 1 0 0 0), (1, .int .i64 t), (2, .int .i64 x), (3, .int .i64 y), (9, .int .i64 k)], rctR pa la F nw se qn, 4⟩) (fun k => k ≤ F.n ∧ F.cutB t x y k = false) (fun k => F.n - k) 0 [0, 1, 2, 3] [] ⟨rfl, ⟨rfl, rfl, rfl, rfl, rfl, trivial⟩, ⟨rfl, rfl, trivial⟩⟩ ⟨Nat.zero_le _, rfl⟩ ?_
  rintro k ⟨hk, hf⟩
  by_cases hk2 : k < F.n
  · have c1 := rl_concerns (F.k.getD k 0) (F.a.getD k 0) (F.b.getD k 0) (F.f.getD k 0) (F.u.getD k 0) (F.e.getD k 0) t x y
    have hst : F.cutB t x y (k + 1) = (decide (F.k.getD k 0 = 4) && (ifB (F.f.getD k 0) (F.u.getD k 0) t && cnB (F.k.getD k 0) (F.a.getD k 0) (F.b.getD k 0) x y)) := by simp only [Fa.cutB, hf, Bool.false_or]; rfl
    have hk0 : F.k.getD ((k : Int).toNat + 0) 0 = F.k.getD k 0 := rfl
    generalize (ifB (F.f.getD k 0) (F.u.getD k 0) t && cnB (F.k.getD k 0) (F.a.getD k 0) (F.b.getD k 0) x y) = b1 at *
    by_cases h4 : F.k.getD k 0 = 4
    · cases b1 with
      | true =>
        have e := cut_mono (k := k + 1) (by rw [hst, decide_eq_true h4]; rfl) F.n (by omega)
        rw [e]
        clear hst e hf
        repeat' ((conv => whnf); first | (refine vcall_pure (c1) rfl rfl rfl ?_) | (refine vcallD_pure (c1) rfl rfl rfl ?_) | (refine br_dec (fun h => ?_) (fun h => ?_) <;> try (exfalso; (try dsimp only at h); omega)) | (refine br_ndec (fun h => ?_) (fun h => ?_) <;> try (exfalso; (try dsimp only at h); omega)) | refine br_seq (fun h => ?_) (fun h => ?_) | refine br_nseq (fun h => ?_) (fun h => ?_) | refine br_not (fun h => ?_) (fun h => ?_) | refine br_intro (fun h => ?_) (fun h => ?_) | refine cond_intro rfl ?_ | (refine cond_intro ⟨rfl, ?_⟩ ?_; (first | omega | (dsimp only; omega) | decide)) | (refine cond_intro ?_ ?_; (first | omega | (dsimp only; omega) | decide | (simp only [Nat.add_zero, Int.toNat_natCast, *]; omega))))
        all_goals (conv => whnf)
        all_goals first
          | exact ret_out (l := [0, 1, 2, 3]) rfl rfl trivial allRw_nil
          | (exfalso; omega)
          | trace_state
      | false =>
        have e : F.cutB t x y (k + 1) = false := by rw [hst, Bool.and_false]
        clear hst hf
        repeat' ((conv => whnf); first | (refine vcall_pure (c1) rfl rfl rfl ?_) | (refine vcallD_pure (c1) rfl rfl rfl ?_) | (refine br_dec (fun h => ?_) (fun h => ?_) <;> try (exfalso; (try dsimp only at h); omega)) | (refine br_ndec (fun h => ?_) (fun h => ?_) <;> try (exfalso; (try dsimp only at h); omega)) | refine br_seq (fun h => ?_) (fun h => ?_) | refine br_nseq (fun h => ?_) (fun h => ?_) | refine br_not (fun h => ?_) (fun h => ?_) | refine br_intro (fun h => ?_) (fun h => ?_) | refine cond_intro rfl ?_ | (refine cond_intro ⟨rfl, ?_⟩ ?_; (first | omega | (dsimp only; omega) | decide)) | (refine cond_intro ?_ ?_; (first | omega | (dsimp only; omega) | decide | (simp only [Nat.add_zero, Int.toNat_natCast, *]; omega))))
        all_goals (conv => whnf)
        all_goals first
          | exact ⟨k + 1, [0, 1, 2, 3], [], ⟨hk2, e⟩, by omega, ⟨rfl, ⟨rfl, rfl, rfl, rfl, congrArg (fun z => some (SV.int .i64 z)) (i64_succ (by omega)), trivial⟩, ⟨rfl, rfl, trivial⟩⟩⟩
          | (exfalso; omega)
          | trace_state
    · have e : F.cutB t x y (k + 1) = false := by rw [hst, decide_eq_false h4, Bool.false_and]
      clear hst hf
      repeat' ((conv => whnf); first | (refine vcall_pure (c1) rfl rfl rfl ?_) | (refine vcallD_pure (c1) rfl rfl rfl ?_) | (refine br_dec (fun h => ?_) (fun h => ?_) <;> try (exfalso; (try dsimp only at h); omega)) | (refine br_ndec (fun h => ?_) (fun h => ?_) <;> try (exfalso; (try dsimp only at h); omega)) | refine br_seq (fun h => ?_) (fun h => ?_) | refine br_nseq (fun h => ?_) (fun h => ?_) | refine br_not (fun h => ?_) (fun h => ?_) | refine br_intro (fun h => ?_) (fun h => ?_) | refine cond_intro rfl ?_ | (refine cond_intro ⟨rfl, ?_⟩ ?_; (first | omega | (dsimp only; omega) | decide)) | (refine cond_intro ?_ ?_; (first | omega | (dsimp only; omega) | decide | (simp only [Nat.add_zero, Int.toNat_natCast, *]; omega))))
      all_goals (conv => whnf)
      all_goals first
        | exact ⟨k + 1, [0, 1, 2, 3], [], ⟨hk2, e⟩, by omega, ⟨rfl, ⟨rfl, rfl, rfl, rfl, congrArg (fun z => some (SV.int .i64 z)) (i64_succ (by omega)), trivial⟩, ⟨rfl, rfl, trivial⟩⟩⟩
        | (exfalso; omega)
        | trace_state
  · obtain rfl : k = F.n := by omega
    rw [hf]
    repeat' ((conv => whnf); first | (refine br_dec (fun h => ?_) (fun h => ?_) <;> try (exfalso; (try dsimp only at h); omega)) | (refine br_ndec (fun h => ?_) (fun h => ?_) <;> try (exfalso; (try dsimp only at h); omega)) | refine br_seq (fun h => ?_) (fun h => ?_) | refine br_nseq (fun h => ?_) (fun h => ?_) | refine br_not (fun h => ?_) (fun h => ?_) | refine br_intro (fun h => ?_) (fun h => ?_) | refine cond_intro rfl ?_ | (refine cond_intro ⟨rfl, ?_⟩ ?_; (first | omega | (dsimp only; omega) | decide)) | (refine cond_intro ?_ ?_; (first | omega | (dsimp only; omega) | decide | (simp only [Nat.add_zero, Int.toNat_natCast, *]; omega))))
    all_goals (conv => whnf)
    all_goals first
      | exact ret_out (l := [0, 1, 2, 3]) rfl rfl trivial allRw_nil
      | (exfalso; omega)
      | trace_state
theorem alike_true (n : Nat) (ar : Ar) (hn : n ≤ 100000) : FC Try.prog 3 16 [.sl 1 0 0 n, .sl 2 0 0 n] [(1, some (.one true (arB n ar))), (2, some (.one true (arB n ar)))] (isOut (.bool true) [] 3) := by
  refine fc_of mixed T_ok Try.func16 rfl (by kernel_rfl) (by kernel_rfl) (by kernel_rfl) ?_
  repeat' ((conv => whnf); first | (refine br_dec (fun h => ?_) (fun h => ?_) <;> try (exfalso; (try dsimp only at h); omega)) | (refine br_ndec (fun h => ?_) (fun h => ?_) <;> try (exfalso; (try dsimp only at h); omega)) | refine br_seq (fun h => ?_) (fun h => ?_) | refine br_nseq (fun h => ?_) (fun h => ?_) | refine br_not (fun h => ?_) (fun h => ?_) | refine br_intro (fun h => ?_) (fun h => ?_) | refine cond_intro rfl ?_ | (refine cond_intro ⟨rfl, ?_⟩ ?_; (first | omega | (dsimp only; omega) | decide)) | (refine cond_intro ?_ ?_; (first | omega | (dsimp only; omega) | decide | (simp only [Nat.add_zero, Int.toNat_natCast, *]; omega))))
  all_goals (conv => whnf)
  refine vloop_of (fun k : Nat => ⟨[(0, .sl 1 0 0 n), (1, .sl 2 0 0 n), (5, .int .i64 k)], [(1, some (.one true (arB n ar))), (2, some (.one true (arB n ar)))], 3⟩) (fun k => k ≤ n) (fun k => n - k) 0 [0, 1, 2] [] ⟨rfl, ⟨rfl, rfl, rfl, trivial⟩, ⟨rfl, rfl, trivial⟩⟩ (Nat.zero_le _) ?_
  intro k hk
  repeat' ((conv => whnf); first | (refine br_dec (fun h => ?_) (fun h => ?_) <;> try (exfalso; (try dsimp only at h); omega)) | (refine br_ndec (fun h => ?_) (fun h => ?_) <;> try (exfalso; (try dsimp only at h); omega)) | refine br_seq (fun h => ?_) (fun h => ?_) | refine br_nseq (fun h => ?_) (fun h => ?_) | refine br_not (fun h => ?_) (fun h => ?_) | refine br_intro (fun h => ?_) (fun h => ?_) | refine cond_intro rfl ?_ | (refine cond_intro ⟨rfl, ?_⟩ ?_; (first | omega | (dsimp only; omega) | decide)) | (refine cond_intro ?_ ?_; (first | omega | (dsimp only; omega) | decide | (simp only [Nat.add_zero, Int.toNat_natCast, *]; omega))))
  all_goals (conv => whnf)
  all_goals first
    | exact ret_out (l := [0, 1, 2]) rfl rfl trivial allRw_nil
    | exact ⟨k + 1, [0, 1, 2], [], (show k + 1 ≤ n by omega), by omega, ⟨rfl, ⟨rfl, rfl, congrArg (fun z => some (SV.int .i64 z)) (i64_succ (by omega)), trivial⟩, ⟨rfl, rfl, trivial⟩⟩⟩
    | (exfalso; omega)
    | (exfalso; rename_i h; revert h; simp [seq]; done)
    | trace_state
/-- What is left when a party's arrivals are dropped. -/
def keepT (Q : List Av) (p : Int) : List Av := Q.filter (fun a => decide (a.o ≠ p))
theorem rl_Drop (pa la : Int) (fn : Nat) (nw se p : Int) (Q : List Av) (qn : Nat) (hq : Q.length = qn) (hq2 : qn ≤ 1000) (kn : Nat) (hkn : kn = (keepT Q p).length) :
    FC Try.prog 4 19 [.ptr 1 0 0 0, .int .i64 p] [(1, some (rlC false pa la fn qn nw se)), (3, some (.one true (arB qn (arOf Q))))] (isOut (.int .i64 ((qn : Int) - (kn : Int))) [(1, some (.one false (.cells [.int .i64 pa, .int .i64 la, .sl 2 0 0 fn, .sl 4 0 0 kn, .int .i64 nw, .int .i64 se]))), (4, some (.one false (arB kn (arOf (keepT Q p)))))] 5) := by
  have hkl : kn ≤ qn := by rw [hkn, ← hq]; exact List.length_filter_le _ _
  refine fc_of mixed T_ok Try.func19 rfl (by kernel_rfl) (by kernel_rfl) (by kernel_rfl) ?_
  repeat' ((conv => whnf); first | (refine br_dec (fun h => ?_) (fun h => ?_) <;> try (exfalso; (try dsimp only at h); omega)) | (refine br_ndec (fun h => ?_) (fun h => ?_) <;> try (exfalso; (try dsimp only at h); omega)) | refine br_seq (fun h => ?_) (fun h => ?_) | refine br_nseq (fun h => ?_) (fun h => ?_) | refine br_not (fun h => ?_) (fun h => ?_) | refine br_intro (fun h => ?_) (fun h => ?_) | refine cond_intro rfl ?_ | (refine cond_intro ⟨rfl, ?_⟩ ?_; (first | omega | (dsimp only; omega) | decide)) | (refine cond_intro ?_ ?_; (first | omega | (dsimp only; omega) | decide | (simp only [Nat.add_zero, Int.toNat_natCast, *]; omega))))
  all_goals (conv => whnf)
  refine vloop_of (fun k : Nat => ⟨[(0, .ptr 1 0 0 0), (1, .int .i64 p), (5, .sl 4 0 0 (keepT (Q.take k) p).length), (6, .int .i64 k)], [(1, some (rlC false pa la fn qn nw se)), (3, some (.one true (arB qn (arOf Q)))), (4, some (.one false (arB (keepT (Q.take k) p).length (arOf (keepT (Q.take k) p)))))], 5⟩) (fun k => k ≤ qn) (fun k => qn - k) 0 [0, 1, 2, 3, 4] [.slot 5 [.sc (.ints .i64 []), .sc (.ints .i64 []), .sc (.ints .i64 []), .sc (.ints .i64 []), .sc (.strs [])]] ⟨rfl, ⟨rfl, rfl, rfl, rfl, trivial⟩, ⟨rfl, rfl, rfl, trivial⟩⟩ (Nat.zero_le _) ?_
  intro k hk
  by_cases hk2 : k < qn
  · have hkQ : k < Q.length := by omega
    have hst : keepT (Q.take (k + 1)) p = if Q[k].o ≠ p then keepT (Q.take k) p ++ [Q[k]] else keepT (Q.take k) p := by
      unfold keepT
      rw [List.take_succ_eq_append_getElem hkQ, List.filter_append, List.filter_cons]
      split <;> split <;> simp_all
    have hlen : (keepT (Q.take k) p).length ≤ k := Nat.le_trans (List.length_filter_le _ _) (List.length_take_le ..)
    have eo : (arOf Q).o.getD k 0 = Q[k].o := by
      have e : Q.getD k avz = Q[k] := by rw [List.getD, List.getElem?_eq_getElem hkQ]; rfl
      rw [← e]; exact mapZ Av.o Q k
    have eo' : (arOf Q).o.getD ((k : Int).toNat + 0) 0 = Q[k].o := eo
    have hadd := add_at (keepT (Q.take k) p) Q hkQ
    by_cases ho : Q[k].o ≠ p
    · rw [if_pos ho] at hst
      have hl2 : (keepT (Q.take k) p ++ [Q[k]]).length = (keepT (Q.take k) p).length + 1 := by simp
      generalize hn1 : (keepT (Q.take k) p).length = n1 at *
      generalize hg1 : arOf (keepT (Q.take k) p) = g at *
      generalize arOf Q = qa at *
      repeat' ((conv => whnf); first | (refine br_dec (fun h => ?_) (fun h => ?_) <;> try (exfalso; (try dsimp only at h); omega)) | (refine br_ndec (fun h => ?_) (fun h => ?_) <;> try (exfalso; (try dsimp only at h); omega)) | refine br_seq (fun h => ?_) (fun h => ?_) | refine br_nseq (fun h => ?_) (fun h => ?_) | refine br_not (fun h => ?_) (fun h => ?_) | refine br_intro (fun h => ?_) (fun h => ?_) | refine cond_intro rfl ?_ | (refine cond_intro ⟨rfl, ?_⟩ ?_; (first | omega | (dsimp only; omega) | decide)) | (refine cond_intro ?_ ?_; (first | omega | (dsimp only; omega) | decide | (simp only [Nat.add_zero, Int.toNat_natCast, *]; omega))))
      all_goals (conv => whnf)
      all_goals first
        | (exfalso; omega)
        | (refine ⟨k + 1, [0, 1, 2, 3, 6], [], (show k + 1 ≤ qn by omega), by omega, ?_⟩; rw [hst, hl2, ← hadd]; exact ⟨rfl, ⟨rfl, rfl, rfl, congrArg (fun z => some (SV.int .i64 z)) (i64_succ (by omega)), trivial⟩, ⟨rfl, rfl, rfl, trivial⟩⟩)
        | trace_state
    · rw [if_neg ho] at hst
      have ho' : Q[k].o = p := Classical.not_not.1 ho
      generalize hn1 : (keepT (Q.take k) p).length = n1 at *
      generalize hg1 : arOf (keepT (Q.take k) p) = g at *
      generalize arOf Q = qa at *
      repeat' ((conv => whnf); first | (refine br_dec (fun h => ?_) (fun h => ?_) <;> try (exfalso; (try dsimp only at h); omega)) | (refine br_ndec (fun h => ?_) (fun h => ?_) <;> try (exfalso; (try dsimp only at h); omega)) | refine br_seq (fun h => ?_) (fun h => ?_) | refine br_nseq (fun h => ?_) (fun h => ?_) | refine br_not (fun h => ?_) (fun h => ?_) | refine br_intro (fun h => ?_) (fun h => ?_) | refine cond_intro rfl ?_ | (refine cond_intro ⟨rfl, ?_⟩ ?_; (first | omega | (dsimp only; omega) | decide)) | (refine cond_intro ?_ ?_; (first | omega | (dsimp only; omega) | decide | (simp only [Nat.add_zero, Int.toNat_natCast, *]; omega))))
      all_goals (conv => whnf)
      all_goals first
        | (exfalso; omega)
        | (refine ⟨k + 1, [0, 1, 2, 3, 4], [], (show k + 1 ≤ qn by omega), by omega, ?_⟩; rw [hst, hn1, hg1]; exact ⟨rfl, ⟨rfl, rfl, rfl, congrArg (fun z => some (SV.int .i64 z)) (i64_succ (by omega)), trivial⟩, ⟨rfl, rfl, rfl, trivial⟩⟩)
        | trace_state
  · have ek : k = qn := by omega
    have et : Q.take k = Q := List.take_of_length_le (by omega)
    rw [et, ← hkn]
    have w : IntKind.i64.wrap ((qn : Int) - (kn : Int)) = (qn : Int) - (kn : Int) := w64_in (by omega) (by omega)
    rw [← w]
    generalize arOf (keepT Q p) = g at *
    generalize arOf Q = qa at *
    repeat' ((conv => whnf); first | (refine br_dec (fun h => ?_) (fun h => ?_) <;> try (exfalso; (try dsimp only at h); omega)) | (refine br_ndec (fun h => ?_) (fun h => ?_) <;> try (exfalso; (try dsimp only at h); omega)) | refine br_seq (fun h => ?_) (fun h => ?_) | refine br_nseq (fun h => ?_) (fun h => ?_) | refine br_not (fun h => ?_) (fun h => ?_) | refine br_intro (fun h => ?_) (fun h => ?_) | refine cond_intro rfl ?_ | (refine cond_intro ⟨rfl, ?_⟩ ?_; (first | omega | (dsimp only; omega) | decide)) | (refine cond_intro ?_ ?_; (first | omega | (dsimp only; omega) | decide | (simp only [Nat.add_zero, Int.toNat_natCast, *]; omega))))
    all_goals (conv => whnf)
    all_goals first
      | (exfalso; omega)
      | exact ret_out (l := [0, 1, 2, 3, 4]) rfl rfl ⟨rfl, rfl, trivial⟩ (allRw_cons (allRw_cons allRw_nil))
      | trace_state
end Go.Proofs.Ytpconbdoackcfaa

/- Contracts of slices.DeleteFunc at the arrivals of one time, a member of a table of slices. -/
namespace Go.Proofs.Ytpconbdoackcfaa
open Go.RowKit Go.Sy
attribute [local irreducible] vcall vloop vcallD retP
set_option maxRecDepth 100000
set_option linter.unusedVariables false
set_option linter.unusedSimpArgs false

abbrev faM (ro : Bool) (N : Nat) (ns : List Nat) (rs : List Ar) : HB := .fam ro (fun x => x < N) (fun x => arB (ns.getD x 0) (rs.getD x ar0))
theorem set_getD {α : Type} {l : List α} {q : Nat} (hq : q < l.length) (v d : α) (x : Nat) : (l.set q v).getD x d = if x = q then v else l.getD x d := by
  simp only [List.getD, List.getElem?_set]
  by_cases e : q = x
  · subst e; simp [hq]
  · rw [if_neg e, if_neg (fun e' => e e'.symm)]
theorem fam_set {ro : Bool} {N : Nat} {ns : List Nat} {rs : List Ar} {q : Nat} (h1 : q < ns.length) (h2 : q < rs.length) (m : Nat) (r : Ar) : (HB.fam ro (fun x => x < N) (fun x => if x = q then arB m r else arB (ns.getD x 0) (rs.getD x ar0))) = faM ro N (ns.set q m) (rs.set q r) := by
  unfold faM
  congr 1
  funext x
  rw [set_getD h1, set_getD h2]
  split <;> rfl
theorem fam_set1 {ro : Bool} {N : Nat} {ns : List Nat} {rs : List Ar} {q m : Nat} (h1 : ns.getD q 0 = m) (h2 : q < rs.length) (r : Ar) : (HB.fam ro (fun x => x < N) (fun x => if x = q then arB m r else arB (ns.getD x 0) (rs.getD x ar0))) = faM ro N ns (rs.set q r) := by
  unfold faM
  congr 1
  funext x
  rw [set_getD h2]
  split
  · rename_i e; rw [e, h1]
  · rfl
theorem set_self {α : Type} {l : List α} {q : Nat} {d : α} : l.set q (l.getD q d) = l := by
  refine List.ext_getElem? fun i => ?_
  rw [List.getElem?_set]
  by_cases e : q = i
  · subst e
    by_cases h : q < l.length
    · rw [if_pos rfl, if_pos h, List.getD, List.getElem?_eq_getElem h]; rfl
    · rw [if_pos rfl, if_neg h, List.getElem?_eq_none (by omega)]
  · rw [if_neg e]
theorem drop_fn (t f o k : Int) (x : ByteArray) (p : Int) : FC Try.prog 2 32 [.agg [.int .i64 t, .int .i64 f, .int .i64 o, .int .i64 k, .str x], .ptr 1 0 0 0] [(1, some (.one true (.cells [.int .i64 p])))] (isOut (.bool (decide (o = p))) [] 2) := by
  refine fc_of mixed T_ok Try.func32 rfl (by kernel_rfl) (by kernel_rfl) (by kernel_rfl) ?_
  repeat' ((conv => whnf); first | (refine br_dec (fun h => ?_) (fun h => ?_) <;> try (exfalso; (try dsimp only at h); omega)) | (refine br_ndec (fun h => ?_) (fun h => ?_) <;> try (exfalso; (try dsimp only at h); omega)) | refine br_seq (fun h => ?_) (fun h => ?_) | refine br_nseq (fun h => ?_) (fun h => ?_) | refine br_not (fun h => ?_) (fun h => ?_) | refine br_intro (fun h => ?_) (fun h => ?_) | refine cond_intro rfl ?_ | (refine cond_intro ⟨rfl, ?_⟩ ?_; (first | omega | (dsimp only; omega) | decide)) | (refine cond_intro ?_ ?_; (first | omega | (dsimp only; omega) | decide | (simp only [Nat.add_zero, Int.toNat_natCast, *]; omega))))
  all_goals (conv => whnf)
  all_goals exact ret_out (l := [0, 1]) rfl rfl trivial allRw_nil
/-- The first arrival to a party, or -1. -/
def ixF (os : List Int) (p : Int) : Nat → Int
  | 0 => -1
  | k + 1 => if 0 ≤ ixF os p k then ixF os p k else if os.getD k 0 = p then (k : Int) else -1
theorem ixF_ok (os : List Int) (p : Int) : ∀ n, (ixF os p n = -1 ∧ ∀ j, j < n → os.getD j 0 ≠ p) ∨ ∃ i : Nat, ixF os p n = (i : Int) ∧ i < n ∧ os.getD i 0 = p ∧ ∀ j, j < i → os.getD j 0 ≠ p
  | 0 => .inl ⟨rfl, fun j h => by omega⟩
  | n + 1 => by
    simp only [ixF]
    rcases ixF_ok os p n with ⟨h1, h2⟩ | ⟨i, h1, h2, h3, h4⟩
    · rw [h1, if_neg (by decide)]
      by_cases h : os.getD n 0 = p
      · rw [if_pos h]
        exact .inr ⟨n, rfl, by omega, h, h2⟩
      · rw [if_neg h]
        refine .inl ⟨rfl, fun j hj => ?_⟩
        by_cases e : j = n
        · subst e; exact h
        · exact h2 j (by omega)
    · rw [h1, if_pos (by omega)]
      exact .inr ⟨i, rfl, by omega, h3, h4⟩
theorem ixF_stop {os : List Int} {p : Int} {k : Nat} (h0 : ixF os p k = -1) (h : os.getD k 0 = p) : ∀ n, k < n → ixF os p n = k
  | 0, hh => by omega
  | n + 1, hh => by
    simp only [ixF]
    by_cases e : k = n
    · subst e; rw [h0, if_neg (by omega), if_pos h]
    · rw [ixF_stop h0 h n (by omega), if_pos (by omega)]
abbrev ixH (N : Nat) (ns : List Nat) (rs : List Ar) (p : Int) : Heap := [(1, some (faM true N ns rs)), (2, some (.one true (.cells [.int .i64 p])))]
theorem lk_IndexFunc (N : Nat) (ns : List Nat) (rs : List Ar) (q : Nat) (hq : q < N) (n : Nat) (hn : ns.getD q 0 = n) (hn2 : n ≤ 100000) (p : Int) : FC Try.prog 3 38 [.sl 1 q 0 n, .fn 32 [.ptr 2 0 0 0]] (ixH N ns rs p) (isOut (.int .i64 (ixF (rs.getD q ar0).o p n)) [] 3) := by
  subst hn
  refine fc_of mixed T_ok Try.func38 rfl (by kernel_rfl) (by kernel_rfl) (by kernel_rfl) ?_
  (conv => whnf)
  refine vloop_of (fun k : Nat => ⟨[(0, .sl 1 q 0 (ns.getD q 0)), (1, .fn 32 [.ptr 2 0 0 0]), (7, .int .i64 (ns.getD q 0 : Nat)), (8, .int .i64 k)], ixH N ns rs p, 3⟩) (fun k => k ≤ ns.getD q 0 ∧ ixF (rs.getD q ar0).o p k = -1) (fun k => ns.getD q 0 - k) 0 [0, 1, 2] [] ⟨rfl, ⟨rfl, rfl, rfl, rfl, trivial⟩, ⟨rfl, rfl, trivial⟩⟩ ⟨by omega, rfl⟩ ?_
  rintro k ⟨hk, hx⟩
  by_cases hk2 : k < ns.getD q 0
  · have c := drop_fn ((rs.getD q ar0).t.getD k 0) ((rs.getD q ar0).f.getD k 0) ((rs.getD q ar0).o.getD k 0) ((rs.getD q ar0).k.getD k 0) ((rs.getD q ar0).x.getD k ⟨#[]⟩) p
    by_cases hp : (rs.getD q ar0).o.getD k 0 = p
    · rw [decide_eq_true hp] at c
      rw [ixF_stop hx hp _ hk2]
      repeat' ((conv => whnf); first | (refine vcall_out (l :=  [0, 2]) (c ) ⟨rfl, rfl, rfl, rfl, (by (repeat' (first | exact trivial | exact GB_wf | exact fun _ _ => rfl | constructor)); first | done | fail), (by (repeat' (first | exact trivial | exact GB_fits rfl | constructor)); first | done | fail)⟩ ?_) | (refine vcallD_out (l :=  [0, 2]) (c ) ⟨rfl, rfl, rfl, rfl, (by (repeat' (first | exact trivial | exact GB_wf | exact fun _ _ => rfl | constructor)); first | done | fail), (by (repeat' (first | exact trivial | exact GB_fits rfl | constructor)); first | done | fail)⟩ ?_) | (refine br_dec (fun h => ?_) (fun h => ?_) <;> try (exfalso; (try dsimp only at h); omega)) | (refine br_ndec (fun h => ?_) (fun h => ?_) <;> try (exfalso; (try dsimp only at h); omega)) | refine br_seq (fun h => ?_) (fun h => ?_) | refine br_nseq (fun h => ?_) (fun h => ?_) | refine br_not (fun h => ?_) (fun h => ?_) | refine br_intro (fun h => ?_) (fun h => ?_) | refine cond_intro rfl ?_ | (refine cond_intro ⟨rfl, ?_⟩ ?_; (first | omega | (dsimp only; omega) | decide)) | (refine cond_intro ?_ ?_; (first | omega | (dsimp only; omega) | decide | (simp only [Nat.add_zero, Int.toNat_natCast, *]; omega))))
      all_goals (conv => whnf)
      all_goals first
        | exact ret_out (l := [0, 1, 2]) rfl rfl trivial allRw_nil
        | (exfalso; omega)
        | trace_state
    · rw [decide_eq_false hp] at c
      have e : ixF (rs.getD q ar0).o p (k + 1) = -1 := by simp only [ixF, hx]; rw [if_neg (by decide), if_neg hp]
      repeat' ((conv => whnf); first | (refine vcall_out (l :=  [0, 2]) (c ) ⟨rfl, rfl, rfl, rfl, (by (repeat' (first | exact trivial | exact GB_wf | exact fun _ _ => rfl | constructor)); first | done | fail), (by (repeat' (first | exact trivial | exact GB_fits rfl | constructor)); first | done | fail)⟩ ?_) | (refine vcallD_out (l :=  [0, 2]) (c ) ⟨rfl, rfl, rfl, rfl, (by (repeat' (first | exact trivial | exact GB_wf | exact fun _ _ => rfl | constructor)); first | done | fail), (by (repeat' (first | exact trivial | exact GB_fits rfl | constructor)); first | done | fail)⟩ ?_) | (refine br_dec (fun h => ?_) (fun h => ?_) <;> try (exfalso; (try dsimp only at h); omega)) | (refine br_ndec (fun h => ?_) (fun h => ?_) <;> try (exfalso; (try dsimp only at h); omega)) | refine br_seq (fun h => ?_) (fun h => ?_) | refine br_nseq (fun h => ?_) (fun h => ?_) | refine br_not (fun h => ?_) (fun h => ?_) | refine br_intro (fun h => ?_) (fun h => ?_) | refine cond_intro rfl ?_ | (refine cond_intro ⟨rfl, ?_⟩ ?_; (first | omega | (dsimp only; omega) | decide)) | (refine cond_intro ?_ ?_; (first | omega | (dsimp only; omega) | decide | (simp only [Nat.add_zero, Int.toNat_natCast, *]; omega))))
      all_goals (conv => whnf)
      all_goals first
        | exact ⟨k + 1, [0, 1, 2], [], ⟨by omega, e⟩, by omega, ⟨rfl, ⟨rfl, rfl, rfl, congrArg (fun z => some (SV.int .i64 z)) (i64_succ (by omega)), trivial⟩, ⟨rfl, rfl, trivial⟩⟩⟩
        | (exfalso; omega)
        | trace_state
  · have e : k = ns.getD q 0 := by omega
    subst e
    rw [hx]
    repeat' ((conv => whnf); first | (refine br_dec (fun h => ?_) (fun h => ?_) <;> try (exfalso; (try dsimp only at h); omega)) | (refine br_ndec (fun h => ?_) (fun h => ?_) <;> try (exfalso; (try dsimp only at h); omega)) | refine br_seq (fun h => ?_) (fun h => ?_) | refine br_nseq (fun h => ?_) (fun h => ?_) | refine br_not (fun h => ?_) (fun h => ?_) | refine br_intro (fun h => ?_) (fun h => ?_) | refine cond_intro rfl ?_ | (refine cond_intro ⟨rfl, ?_⟩ ?_; (first | omega | (dsimp only; omega) | decide)) | (refine cond_intro ?_ ?_; (first | omega | (dsimp only; omega) | decide | (simp only [Nat.add_zero, Int.toNat_natCast, *]; omega))))
    all_goals (conv => whnf)
    all_goals first
      | exact ret_out (l := [0, 1, 2]) rfl rfl trivial allRw_nil
      | (exfalso; omega)
      | trace_state
end Go.Proofs.Ytpconbdoackcfaa

/- Contract of slices.DeleteFunc at the arrivals of one time. -/
namespace Go.Proofs.Ytpconbdoackcfaa
open Go.RowKit Go.Sy
attribute [local irreducible] vcall vloop vcallD retP
set_option maxRecDepth 100000
set_option linter.unusedVariables false
set_option linter.unusedSimpArgs false

def Ar.put (r : Ar) (i : Nat) (a : Av) : Ar := ⟨r.t.set i a.t, r.f.set i a.f, r.o.set i a.o, r.k.set i a.k, r.x.set i a.x⟩
theorem arOf_set (X : List Av) (i : Nat) (a : Av) : arOf (X.set i a) = (arOf X).put i a := by simp [arOf, Ar.put, List.map_set]
def Ar.cut (r : Ar) (i : Nat) : Ar := ⟨r.t.take i, r.f.take i, r.o.take i, r.k.take i, r.x.take i⟩
theorem arOf_cut (X : List Av) (i : Nat) : arOf (X.take i) = (arOf X).cut i := by simp [arOf, Ar.cut, List.map_take]
/-- The row while it is cleared of a party: what is kept, then what stood there. -/
def dlX (L : List Av) (p : Int) (j : Nat) : List Av := keepT (L.take j) p ++ L.drop (keepT (L.take j) p).length
theorem keep_len (L : List Av) (p : Int) (j : Nat) (hj : j ≤ L.length) : (keepT (L.take j) p).length ≤ j := by
  have := List.length_filter_le (fun a => decide (Av.o a ≠ p)) (L.take j)
  rw [List.length_take] at this
  unfold keepT; omega
theorem keep_step {L : List Av} {p : Int} {j : Nat} (hj : j < L.length) : keepT (L.take (j + 1)) p = if L[j].o ≠ p then keepT (L.take j) p ++ [L[j]] else keepT (L.take j) p := by
  unfold keepT
  rw [List.take_succ_eq_append_getElem hj, List.filter_append, List.filter_cons]
  split <;> split <;> simp_all
theorem dlX_len (L : List Av) (p : Int) (j : Nat) (hj : j ≤ L.length) : (dlX L p j).length = L.length := by
  have := keep_len L p j hj
  unfold dlX
  rw [List.length_append, List.length_drop]; omega
theorem dlX_at {L : List Av} {p : Int} {j : Nat} (hj : j < L.length) : (dlX L p j).getD j avz = L[j] := by
  have := keep_len L p j (by omega)
  unfold dlX
  rw [List.getD, List.getElem?_append_right this, List.getElem?_drop, show (keepT (L.take j) p).length + (j - (keepT (L.take j) p).length) = j by omega, List.getElem?_eq_getElem hj]; rfl
theorem dlX_keep {L : List Av} {p : Int} {j : Nat} (hj : j < L.length) (h : L[j].o ≠ p) : dlX L p (j + 1) = (dlX L p j).set (keepT (L.take j) p).length L[j] := by
  have hl := keep_len L p j (by omega)
  unfold dlX
  rw [keep_step hj, if_pos h]
  generalize keepT (L.take j) p = K at *
  rw [List.length_append, List.length_singleton, List.set_append_right _ _ (Nat.le_refl _), Nat.sub_self]
  have e : L.drop K.length = L[K.length] :: L.drop (K.length + 1) := by simp
  rw [e, List.set_cons_zero]
  simp
theorem dlX_skip {L : List Av} {p : Int} {j : Nat} (hj : j < L.length) (h : L[j].o = p) : dlX L p (j + 1) = dlX L p j := by
  unfold dlX
  rw [keep_step hj, if_neg (by simpa using h)]
theorem fam_cut {N M q : Nat} {ns : List Nat} {rs : List Ar} {a b c d : List Int} {e : List ByteArray} (h1 : q < ns.length) (h2 : q < rs.length) : (HB.fam false (fun x => x < N) (fun x => if x = q then Blk.cols M (cutCols M [.sc (.ints .i64 a), .sc (.ints .i64 b), .sc (.ints .i64 c), .sc (.ints .i64 d), .sc (.strs e)]) else arB (ns.getD x 0) (rs.getD x ar0))) = faM false N (ns.set q M) (rs.set q ⟨a.take M, b.take M, c.take M, d.take M, e.take M⟩) :=
  fam_set (ro := false) (N := N) h1 h2 M ⟨a.take M, b.take M, c.take M, d.take M, e.take M⟩
abbrev dlS (N : Nat) (ns : List Nat) (rs : List Ar) (q n : Nat) (p : Int) (i j : Nat) : VS := ⟨[(0, .sl 1 q 0 n), (1, .fn 32 [.ptr 2 0 0 0]), (5, .int .i64 (i : Int)), (6, .int .i64 (j : Int))], [(1, some (faM false N ns rs)), (2, some (.one true (.cells [.int .i64 p])))], 3⟩
theorem dl_round (N : Nat) (ns : List Nat) (rs0 : List Ar) (q : Nat) (hq : q < N) (hq1 : q < ns.length) (hq2 : q < rs0.length) (L : List Av) (hn : ns.getD q 0 = L.length) (hn2 : L.length ≤ 100000) (p : Int) (j : Nat) (hj : j < L.length) (K : Exit → VS → Prop)
    (hN : ∀ v, (∃ l us, upK us v (fun v => Weak 3 l v (dlS N ns (rs0.set q (arOf (dlX L p (j + 1)))) q L.length p (keepT (L.take (j + 1)) p).length (j + 1)))) → K .normal v) :
    vcode Try.prog T 3 (lpc Try.f31 0) (dlS N ns (rs0.set q (arOf (dlX L p j))) q L.length p (keepT (L.take j) p).length j) K := by
  have hl := keep_len L p j (by omega)
  have hxl := dlX_len L p j (by omega)
  have hXj := dlX_at (p := p) hj
  have hrs : (rs0.set q (arOf (dlX L p j))).getD q ar0 = arOf (dlX L p j) := by rw [set_getD hq2, if_pos rfl]
  have hrl : q < (rs0.set q (arOf (dlX L p j))).length := by rw [List.length_set]; exact hq2
  have o1 : ((rs0.set q (arOf (dlX L p j))).getD q ar0).t.getD j 0 = L[j].t := by rw [hrs, ← hXj]; exact mapZ Av.t _ j
  have o2 : ((rs0.set q (arOf (dlX L p j))).getD q ar0).f.getD j 0 = L[j].f := by rw [hrs, ← hXj]; exact mapZ Av.f _ j
  have o3 : ((rs0.set q (arOf (dlX L p j))).getD q ar0).o.getD j 0 = L[j].o := by rw [hrs, ← hXj]; exact mapZ Av.o _ j
  have o4 : ((rs0.set q (arOf (dlX L p j))).getD q ar0).k.getD j 0 = L[j].k := by rw [hrs, ← hXj]; exact mapZ Av.k _ j
  have o5 : ((rs0.set q (arOf (dlX L p j))).getD q ar0).x.getD j ⟨#[]⟩ = L[j].x := by rw [hrs, ← hXj]; exact mapZ Av.x _ j
  by_cases ho : L[j].o = p
  · rw [dlX_skip hj ho, keep_step hj, if_neg (by simpa using ho)] at hN
    generalize rs0.set q (arOf (dlX L p j)) = rs at *
    generalize (keepT (L.take j) p).length = i at *
    have c := drop_fn ((rs.getD q ar0).t.getD j 0) ((rs.getD q ar0).f.getD j 0) ((rs.getD q ar0).o.getD j 0) ((rs.getD q ar0).k.getD j 0) ((rs.getD q ar0).x.getD j ⟨#[]⟩) p
    rw [decide_eq_true (o3.trans ho)] at c
    have hn' : j < ns.getD q 0 := by omega
    repeat' ((conv => whnf); first | (refine vcall_out (l :=  [0, 2]) (c ) ⟨rfl, rfl, rfl, rfl, (by (repeat' (first | exact trivial | exact GB_wf | exact fun _ _ => rfl | constructor)); first | done | fail), (by (repeat' (first | exact trivial | exact GB_fits rfl | constructor)); first | done | fail)⟩ ?_) | (refine vcallD_out (l :=  [0, 2]) (c ) ⟨rfl, rfl, rfl, rfl, (by (repeat' (first | exact trivial | exact GB_wf | exact fun _ _ => rfl | constructor)); first | done | fail), (by (repeat' (first | exact trivial | exact GB_fits rfl | constructor)); first | done | fail)⟩ ?_) | (refine br_dec (fun h => ?_) (fun h => ?_) <;> try (exfalso; (try dsimp only at h); omega)) | (refine br_ndec (fun h => ?_) (fun h => ?_) <;> try (exfalso; (try dsimp only at h); omega)) | refine br_seq (fun h => ?_) (fun h => ?_) | refine br_nseq (fun h => ?_) (fun h => ?_) | refine br_not (fun h => ?_) (fun h => ?_) | refine br_intro (fun h => ?_) (fun h => ?_) | refine cond_intro rfl ?_ | (refine cond_intro ⟨rfl, ?_⟩ ?_; (first | omega | (dsimp only; omega) | decide)) | (refine cond_intro ?_ ?_; (first | omega | (dsimp only; omega) | decide | (simp only [Nat.add_zero, Int.toNat_natCast, *]; omega))))
    all_goals (conv => whnf)
    all_goals first
      | exact hN _ ⟨[0, 1, 2], [], ⟨rfl, ⟨rfl, rfl, rfl, congrArg (fun z => some (SV.int .i64 z)) (i64_succ (by omega)), trivial⟩, ⟨rfl, rfl, trivial⟩⟩⟩
      | (exfalso; omega)
      | trace_state
  · rw [dlX_keep hj ho, keep_step hj, if_pos ho, arOf_set] at hN
    have e2 : (keepT (L.take j) p ++ [L[j]]).length = (keepT (L.take j) p).length + 1 := by simp
    rw [e2] at hN
    have e3 : rs0.set q ((arOf (dlX L p j)).put (keepT (L.take j) p).length L[j]) = (rs0.set q (arOf (dlX L p j))).set q ((arOf (dlX L p j)).put (keepT (L.take j) p).length L[j]) := by rw [List.set_set]
    rw [e3] at hN
    clear e3
    generalize rs0.set q (arOf (dlX L p j)) = rs at *
    rw [← hrs] at hN
    clear hrs
    generalize (keepT (L.take j) p).length = i at *
    have c := drop_fn ((rs.getD q ar0).t.getD j 0) ((rs.getD q ar0).f.getD j 0) ((rs.getD q ar0).o.getD j 0) ((rs.getD q ar0).k.getD j 0) ((rs.getD q ar0).x.getD j ⟨#[]⟩) p
    rw [decide_eq_false (by rw [o3]; exact ho)] at c
    have hn' : j < ns.getD q 0 := by omega
    have hn3 : i < ns.getD q 0 := by omega
    have hput : (rs.getD q ar0).put i L[j] = ⟨(rs.getD q ar0).t.set i ((rs.getD q ar0).t.getD j 0), (rs.getD q ar0).f.set i ((rs.getD q ar0).f.getD j 0), (rs.getD q ar0).o.set i ((rs.getD q ar0).o.getD j 0), (rs.getD q ar0).k.set i ((rs.getD q ar0).k.getD j 0), (rs.getD q ar0).x.set i ((rs.getD q ar0).x.getD j ⟨#[]⟩)⟩ := by rw [o1, o2, o3, o4, o5]; rfl
    rw [hput] at hN
    repeat' ((conv => whnf); first | (refine vcall_out (l :=  [0, 2]) (c ) ⟨rfl, rfl, rfl, rfl, (by (repeat' (first | exact trivial | exact GB_wf | exact fun _ _ => rfl | constructor)); first | done | fail), (by (repeat' (first | exact trivial | exact GB_fits rfl | constructor)); first | done | fail)⟩ ?_) | (refine vcallD_out (l :=  [0, 2]) (c ) ⟨rfl, rfl, rfl, rfl, (by (repeat' (first | exact trivial | exact GB_wf | exact fun _ _ => rfl | constructor)); first | done | fail), (by (repeat' (first | exact trivial | exact GB_fits rfl | constructor)); first | done | fail)⟩ ?_) | (refine br_dec (fun h => ?_) (fun h => ?_) <;> try (exfalso; (try dsimp only at h); omega)) | (refine br_ndec (fun h => ?_) (fun h => ?_) <;> try (exfalso; (try dsimp only at h); omega)) | refine br_seq (fun h => ?_) (fun h => ?_) | refine br_nseq (fun h => ?_) (fun h => ?_) | refine br_not (fun h => ?_) (fun h => ?_) | refine br_intro (fun h => ?_) (fun h => ?_) | refine cond_intro rfl ?_ | (refine cond_intro ⟨rfl, ?_⟩ ?_; (first | omega | (dsimp only; omega) | decide)) | (refine cond_intro ?_ ?_; (first | omega | (dsimp only; omega) | decide | (simp only [Nat.add_zero, Int.toNat_natCast, *]; omega))))
    all_goals (conv => whnf)
    all_goals first
      | (exfalso; omega)
      | exact hN _ ⟨[0, 1, 2], [], ⟨rfl, ⟨rfl, rfl, congrArg (fun z => some (SV.int .i64 z)) (i64_succ (by omega)), congrArg (fun z => some (SV.int .i64 z)) (i64_succ (by omega)), trivial⟩, ⟨congrArg some (fam_set1 (ro := false) (N := N) (m := ns.getD q 0) rfl hrl ⟨(rs.getD q ar0).t.set i ((rs.getD q ar0).t.getD j 0), (rs.getD q ar0).f.set i ((rs.getD q ar0).f.getD j 0), (rs.getD q ar0).o.set i ((rs.getD q ar0).o.getD j 0), (rs.getD q ar0).k.set i ((rs.getD q ar0).k.getD j 0), (rs.getD q ar0).x.set i ((rs.getD q ar0).x.getD j ⟨#[]⟩)⟩), rfl, trivial⟩⟩⟩
      | trace_state
theorem lk_DeleteFunc (N : Nat) (ns : List Nat) (rs : List Ar) (q : Nat) (hq : q < N) (hq1 : q < ns.length) (hq2 : q < rs.length) (L : List Av) (hn : ns.getD q 0 = L.length) (hL : rs.getD q ar0 = arOf L) (hn2 : L.length ≤ 100000) (p : Int) (m : Nat) (hm : m = (keepT L p).length) :
    FC Try.prog 3 31 [.sl 1 q 0 L.length, .fn 32 [.ptr 2 0 0 0]] [(1, some (faM false N ns rs)), (2, some (.one true (.cells [.int .i64 p])))] (isOut (.sl 1 q 0 m) [(1, some (faM false N (ns.set q m) (rs.set q (arOf (keepT L p)))))] 3) := by
  have ci := lk_IndexFunc N ns rs q hq L.length hn hn2 p
  have hat : ∀ j (h : j < L.length), (arOf L).o.getD j 0 = L[j].o := fun j h => by
    have e : L.getD j avz = L[j] := by rw [List.getD, List.getElem?_eq_getElem h]; rfl
    rw [← e]; exact mapZ Av.o L j
  rw [hL] at ci
  rcases ixF_ok (arOf L).o p L.length with ⟨h1, h2⟩ | ⟨i, h1, h2, h3, h4⟩
  · rw [h1] at ci
    have hk : keepT L p = L := List.filter_eq_self.2 fun a ha => by
      obtain ⟨j, hj, rfl⟩ := List.getElem_of_mem ha
      have := h2 j hj
      rw [hat j hj] at this
      simpa using this
    have em : m = L.length := by rw [hm, hk]
    have e1 : ns.set q m = ns := by rw [em, ← hn]; exact set_self
    have e2 : rs.set q (arOf (keepT L p)) = rs := by rw [hk, ← hL]; exact set_self
    rw [e1, e2, em]
    refine fc_of mixed T_ok Try.func31 rfl (by kernel_rfl) (by kernel_rfl) (by kernel_rfl) ?_
    repeat' ((conv => whnf); first | (refine vcall_out (l :=  [0, 1, 2]) (ci ) ⟨rfl, rfl, rfl, rfl, (by (repeat' (first | exact trivial | exact GB_wf | exact fun _ _ => rfl | constructor)); first | done | fail), (by (repeat' (first | exact trivial | exact GB_fits rfl | constructor)); first | done | fail)⟩ ?_) | (refine vcallD_out (l :=  [0, 1, 2]) (ci ) ⟨rfl, rfl, rfl, rfl, (by (repeat' (first | exact trivial | exact GB_wf | exact fun _ _ => rfl | constructor)); first | done | fail), (by (repeat' (first | exact trivial | exact GB_fits rfl | constructor)); first | done | fail)⟩ ?_) | (refine br_dec (fun h => ?_) (fun h => ?_) <;> try (exfalso; (try dsimp only at h); omega)) | (refine br_ndec (fun h => ?_) (fun h => ?_) <;> try (exfalso; (try dsimp only at h); omega)) | refine br_seq (fun h => ?_) (fun h => ?_) | refine br_nseq (fun h => ?_) (fun h => ?_) | refine br_not (fun h => ?_) (fun h => ?_) | refine br_intro (fun h => ?_) (fun h => ?_) | refine cond_intro rfl ?_ | (refine cond_intro ⟨rfl, ?_⟩ ?_; (first | omega | (dsimp only; omega) | decide)) | (refine cond_intro ?_ ?_; (first | omega | (dsimp only; omega) | decide | (simp only [Nat.add_zero, Int.toNat_natCast, *]; omega))))
    all_goals (conv => whnf)
    all_goals first
      | exact ret_out (l := [0, 1, 2]) rfl rfl ⟨rfl, trivial⟩ (allRw_fam allRw_nil)
      | (exfalso; omega)
      | trace_state
  · rw [h1] at ci
    have hk1 : keepT (L.take (i + 1)) p = L.take i := by
      have e0 : keepT (L.take i) p = L.take i := List.filter_eq_self.2 fun a ha => by
        obtain ⟨j, hj, rfl⟩ := List.getElem_of_mem ha
        rw [List.length_take] at hj
        have := h4 j (by omega)
        rw [hat j (by omega)] at this
        rw [List.getElem_take]
        simpa using this
      rw [keep_step h2, if_neg (by rw [hat i h2] at h3; simpa using h3), e0]
    have hki : (keepT (L.take (i + 1)) p).length = i := by rw [hk1, List.length_take]; omega
    have hX1 : dlX L p (i + 1) = L := by unfold dlX; rw [hki, hk1, List.take_append_drop]
    have e0 : rs = rs.set q (arOf (dlX L p (i + 1))) := by rw [hX1, ← hL]; exact set_self.symm
    refine fc_of mixed T_ok Try.func31 rfl (by kernel_rfl) (by kernel_rfl) (by kernel_rfl) ?_
    repeat' ((conv => whnf); first | (refine vcall_out (l :=  [0, 1, 2]) (ci ) ⟨rfl, rfl, rfl, rfl, (by (repeat' (first | exact trivial | exact GB_wf | exact fun _ _ => rfl | constructor)); first | done | fail), (by (repeat' (first | exact trivial | exact GB_fits rfl | constructor)); first | done | fail)⟩ ?_) | (refine vcallD_out (l :=  [0, 1, 2]) (ci ) ⟨rfl, rfl, rfl, rfl, (by (repeat' (first | exact trivial | exact GB_wf | exact fun _ _ => rfl | constructor)); first | done | fail), (by (repeat' (first | exact trivial | exact GB_fits rfl | constructor)); first | done | fail)⟩ ?_) | (refine br_dec (fun h => ?_) (fun h => ?_) <;> try (exfalso; (try dsimp only at h); omega)) | (refine br_ndec (fun h => ?_) (fun h => ?_) <;> try (exfalso; (try dsimp only at h); omega)) | refine br_seq (fun h => ?_) (fun h => ?_) | refine br_nseq (fun h => ?_) (fun h => ?_) | refine br_not (fun h => ?_) (fun h => ?_) | refine br_intro (fun h => ?_) (fun h => ?_) | refine cond_intro rfl ?_ | (refine cond_intro ⟨rfl, ?_⟩ ?_; (first | omega | (dsimp only; omega) | decide)) | (refine cond_intro ?_ ?_; (first | omega | (dsimp only; omega) | decide | (simp only [Nat.add_zero, Int.toNat_natCast, *]; omega))))
    all_goals (conv => whnf)
    all_goals first
      | (exfalso; omega)
      | skip
    refine vloop_lp (fun j : Nat => dlS N ns (rs.set q (arOf (dlX L p j))) q L.length p (keepT (L.take j) p).length j) (fun j => j ≤ L.length) (fun j => L.length - j) (i + 1) [0, 1, 2] [] ⟨rfl, ⟨rfl, rfl, congrArg (fun z => some (SV.int .i64 z)) (by rw [hki]), congrArg (fun z => some (SV.int .i64 z)) (i64_succ (by omega)), trivial⟩, ⟨congrArg (fun z => some (faM false N ns z)) e0, rfl, trivial⟩⟩ (show i + 1 ≤ L.length by omega) ?_
    intro j hj
    by_cases hj2 : j < L.length
    · exact dl_round N ns rs q hq hq1 hq2 L hn hn2 p j hj2 _ (fun v ⟨l, us, h⟩ => ⟨j + 1, l, us, (show j + 1 ≤ L.length by omega), (show L.length - (j + 1) < L.length - j by omega), h⟩)
    · have ej : j = L.length := by omega
      subst ej
      have et : L.take L.length = L := List.take_of_length_le (Nat.le_refl _)
      have hX : arOf (keepT L p) = (arOf (dlX L p L.length)).cut m := by
        rw [← arOf_cut]
        unfold dlX
        rw [et, hm, List.take_left]
      have hml : m ≤ L.length := by rw [hm]; exact List.length_filter_le _ _
      have hrs : (rs.set q (arOf (dlX L p L.length))).getD q ar0 = arOf (dlX L p L.length) := by rw [set_getD hq2, if_pos rfl]
      have hrl : q < (rs.set q (arOf (dlX L p L.length))).length := by rw [List.length_set]; exact hq2
      have e3 : rs.set q (arOf (keepT L p)) = (rs.set q (arOf (dlX L p L.length))).set q (((rs.set q (arOf (dlX L p L.length))).getD q ar0).cut m) := by rw [hrs, ← hX, List.set_set]
      rw [e3, et, ← hm]
      clear e3 hrs hX
      generalize rs.set q (arOf (dlX L p L.length)) = rs1 at *
      have hn3 : m ≤ ns.getD q 0 := by omega
      repeat' ((conv => whnf); first | (simp only [fam_cut hq1 hrl]) | (refine br_dec (fun h => ?_) (fun h => ?_) <;> try (exfalso; (try dsimp only at h); omega)) | (refine br_ndec (fun h => ?_) (fun h => ?_) <;> try (exfalso; (try dsimp only at h); omega)) | refine br_seq (fun h => ?_) (fun h => ?_) | refine br_nseq (fun h => ?_) (fun h => ?_) | refine br_not (fun h => ?_) (fun h => ?_) | refine br_intro (fun h => ?_) (fun h => ?_) | refine cond_intro rfl ?_ | (refine cond_intro ⟨rfl, ?_⟩ ?_; (first | omega | (dsimp only; omega) | decide)) | (refine cond_intro ?_ ?_; (first | omega | (dsimp only; omega) | decide | (simp only [Nat.add_zero, Int.toNat_natCast, *]; omega))))
      all_goals (conv => whnf)
      all_goals first
        | exact ret_out (l := [0, 1, 2]) rfl rfl ⟨rfl, trivial⟩ (allRw_fam allRw_nil)
        | (exfalso; omega)
        | trace_state
end Go.Proofs.Ytpconbdoackcfaa

/- Plain facts on links: a table is told by its keys and its queue; what Drop does to it. No program in sight. -/
namespace Go.Proofs.Ytpconbdoackcfaa
open Go.RowKit Go.Sy
set_option linter.unusedVariables false
set_option linter.unusedSimpArgs false

/-- The table with some keys that holds a queue. -/
def wyOf (K : List Int) (Q : List Av) (bs : List Nat) (ck : Nat) : Wy := ⟨K.length, K, K.map (fun k => (atT Q k).length), K.map (fun k => arOf (atT Q k)), bs, ck⟩
theorem rep_wyOf {W : Wy} {Q : List Av} (h : Rep W Q) : W = wyOf W.ks Q W.bs W.ck := by
  obtain ⟨n, ks, ns, rs, bs, ck⟩ := W
  have h1 := h.kl; have h2 := h.nl; have h3 := h.rl; have hr := h.row
  dsimp only at h1 h2 h3 hr
  unfold wyOf
  dsimp only
  have e1 : ns = ks.map (fun k => (atT Q k).length) := by
    refine List.ext_getElem (by simp; omega) fun i a b => ?_
    obtain ⟨r1, r2⟩ := hr i (by omega)
    rw [List.getD, List.getElem?_eq_getElem a, List.getD, List.getElem?_eq_getElem (show i < ks.length by omega)] at r2
    simpa using r2
  have e2 : rs = ks.map (fun k => arOf (atT Q k)) := by
    refine List.ext_getElem (by simp; omega) fun i a b => ?_
    obtain ⟨r1, r2⟩ := hr i (by omega)
    rw [List.getD, List.getElem?_eq_getElem a, List.getD, List.getElem?_eq_getElem (show i < ks.length by omega)] at r1
    simpa using r1
  rw [← e1, ← e2, h1]
theorem sum_len (Q : List Av) : ∀ K : List Int, ((K.map (fun k => (atT Q k).length)).map (fun (n : Nat) => (n : Int))).sum = ((catT Q K).length : Int)
  | [] => rfl
  | k :: K => by
    have e : catT Q (k :: K) = atT Q k ++ catT Q K := rfl
    rw [e, List.length_append, List.map_cons, List.map_cons, List.sum_cons, sum_len Q K]; simp
theorem count_or' {p q : Av → Bool} (hpq : ∀ a, p a = true → q a = true → False) : ∀ Q : List Av, Q.countP p + Q.countP q = Q.countP (fun a => p a || q a)
  | [] => rfl
  | a :: Q => by
    have ih := count_or' hpq Q
    simp only [List.countP_cons]
    cases hp : p a with
    | false => cases hq : q a <;> simp only [Bool.or_true, Bool.or_false, Bool.false_eq_true, if_true, if_false] <;> omega
    | true =>
      cases hq : q a with
      | false => simp only [Bool.or_true, Bool.or_false, Bool.false_eq_true, if_true, if_false]; omega
      | true => exact (hpq a hp hq).elim
theorem catT_len (Q : List Av) : ∀ S : List Int, S.Nodup → (catT Q S).length = Q.countP (fun a => decide (a.t ∈ S))
  | [], _ => by simp [catT]
  | s :: S, h => by
    obtain ⟨h1, h2⟩ := List.nodup_cons.1 h
    have e : catT Q (s :: S) = atT Q s ++ catT Q S := rfl
    rw [e, List.length_append, catT_len Q S h2]
    unfold atT
    rw [← List.countP_eq_length_filter, count_or' (fun a e1 e2 => by simp at e1 e2; exact h1 (e1 ▸ e2))]
    refine List.countP_congr fun a _ => ?_
    simp
theorem rep_of {K : List Int} {Q : List Av} (hd : K.Nodup) (hm : ∀ t, t ∈ K ↔ ∃ a, a ∈ Q ∧ a.t = t) (bs : List Nat) (ck : Nat) : Rep (wyOf K Q bs ck) Q := by
  refine ⟨rfl, by simp [wyOf], by simp [wyOf], hd, hm, ?_, fun i hi => ?_⟩
  · unfold wyOf
    dsimp only
    rw [sum_len, catT_len Q K hd]
    congr 1
    rw [List.countP_eq_length]
    intro a ha
    exact decide_eq_true ((hm _).2 ⟨a, ha, rfl⟩)
  · simp only [wyOf] at hi ⊢
    simp [List.getD, hi]
/-- The queue where the arrivals to p at the times D are dropped. -/
def dpQ (Q : List Av) (p : Int) (D : List Int) : List Av := Q.filter (fun a => decide (¬ (a.t ∈ D ∧ a.o = p)))
theorem dpQ_nil (Q : List Av) (p : Int) : dpQ Q p [] = Q := List.filter_eq_self.2 fun a _ => by simp
theorem dpQ_all {Q : List Av} {p : Int} {D : List Int} (h : ∀ a, a ∈ Q → a.t ∈ D) : dpQ Q p D = keepT Q p := by
  unfold dpQ keepT
  exact List.filter_congr fun a ha => decide_eq_decide.2 ⟨fun x y => x ⟨h a ha, y⟩, fun x y => x y.2⟩
theorem atT_dpQ_no {Q : List Av} {p t : Int} {D : List Int} (h : ¬ t ∈ D) : atT (dpQ Q p D) t = atT Q t := by
  unfold atT dpQ
  rw [List.filter_filter]
  refine List.filter_congr fun a _ => ?_
  by_cases e : a.t = t
  · have : ¬ a.t ∈ D := by rw [e]; exact h
    simp [e, h]
  · simp [e]
theorem atT_dpQ_yes {Q : List Av} {p t : Int} {D : List Int} (h : t ∈ D) : atT (dpQ Q p D) t = keepT (atT Q t) p := by
  unfold atT dpQ keepT
  rw [List.filter_filter, List.filter_filter]
  refine List.filter_congr fun a _ => ?_
  by_cases e : a.t = t
  · simp [e, h]
  · simp [e]
theorem erase_filter {l : List Int} (hd : l.Nodup) (t : Int) : l.eraseIdx (iidx l t) = l.filter (fun k => decide (k ≠ t)) := by
  induction l with
  | nil => rfl
  | cons a l ih =>
    obtain ⟨h1, h2⟩ := List.nodup_cons.1 hd
    simp only [iidx]
    by_cases e : a = t
    · subst e
      rw [decide_eq_true rfl, List.filter_cons, if_neg (by simp)]
      simp only [cond_true, List.eraseIdx_cons_zero]
      exact (List.filter_eq_self.2 fun b hb => by simp; intro e; exact h1 (e ▸ hb)).symm
    · rw [decide_eq_false e, List.filter_cons, if_pos (by simp [e])]
      simp only [cond_false, List.eraseIdx_cons_succ]
      rw [ih h2]
/-- The marks of the rows that stay. -/
def fltB (al : Int → Bool) : List Int → List Nat → List Nat
  | [], bs => bs
  | _ :: _, [] => []
  | k :: ks, b :: bs => if al k = true then b :: fltB al ks bs else fltB al ks bs
theorem fltB_all {al : Int → Bool} : ∀ (ks : List Int) (bs : List Nat), (∀ k, k ∈ ks → al k = true) → fltB al ks bs = bs
  | [], bs, _ => rfl
  | _ :: _, [], _ => rfl
  | k :: ks, b :: bs, h => by simp only [fltB]; rw [if_pos (h k (by simp)), fltB_all ks bs (fun x hx => h x (by simp [hx]))]
theorem fltB_congr {al al' : Int → Bool} : ∀ (ks : List Int) (bs : List Nat), (∀ k, k ∈ ks → al k = al' k) → fltB al ks bs = fltB al' ks bs
  | [], bs, _ => rfl
  | _ :: _, [], _ => rfl
  | k :: ks, b :: bs, h => by simp only [fltB]; rw [h k (by simp), fltB_congr ks bs (fun x hx => h x (by simp [hx]))]
theorem fltB_erase {al : Int → Bool} {t : Int} (ht : al t = true) : ∀ (ks : List Int) (bs : List Nat), ks.Nodup → t ∈ ks → (fltB al ks bs).eraseIdx (iidx (ks.filter al) t) = fltB (fun k => al k && decide (k ≠ t)) ks bs
  | [], bs, _, h => by cases h
  | k :: ks, [], _, _ => by simp [fltB]
  | k :: ks, b :: bs, hd, h => by
    obtain ⟨h1, h2⟩ := List.nodup_cons.1 hd
    simp only [fltB]
    by_cases e : k = t
    · subst e
      rw [if_pos ht, if_neg (by simp), List.filter_cons, if_pos ht]
      simp only [iidx, decide_true, cond_true, List.eraseIdx_cons_zero]
      exact fltB_congr ks bs fun x hx => by
        have : x ≠ k := fun e => h1 (e ▸ hx)
        simp [this]
    · have hin : t ∈ ks := by
        rcases List.mem_cons.1 h with e' | e'
        · exact absurd e'.symm e
        · exact e'
      by_cases ha : al k = true
      · rw [if_pos ha, if_pos (by simp [ha, e]), List.filter_cons, if_pos ha]
        simp only [iidx]
        rw [decide_eq_false e]
        simp only [cond_false, List.eraseIdx_cons_succ]
        rw [fltB_erase ht ks bs h2 hin]
      · rw [if_neg ha, if_neg (by simp [ha]), List.filter_cons, if_neg ha]
        exact fltB_erase ht ks bs h2 hin
/-- Which keys stay. -/
def alv (Q : List Av) (p : Int) (D : List Int) (k : Int) : Bool := !(atT (dpQ Q p D) k).isEmpty
/-- The table where the times D are cleared of a party. -/
def dpW (ks : List Int) (Q : List Av) (bs : List Nat) (ck : Nat) (p : Int) (D : List Int) : Wy := wyOf (ks.filter (alv Q p D)) (dpQ Q p D) (fltB (alv Q p D) ks bs) ck
theorem alv_nil {ks : List Int} {Q : List Av} (hm : ∀ t, t ∈ ks ↔ ∃ a, a ∈ Q ∧ a.t = t) (p : Int) : ∀ k, k ∈ ks → alv Q p [] k = true := by
  intro k hk
  obtain ⟨a, ha, e⟩ := (hm k).1 hk
  unfold alv
  rw [dpQ_nil]
  have : a ∈ atT Q k := atT_mem.2 ⟨ha, e⟩
  cases h : atT Q k with
  | nil => rw [h] at this; cases this
  | cons b l => rfl
theorem dpW_nil {ks : List Int} {Q : List Av} (hm : ∀ t, t ∈ ks ↔ ∃ a, a ∈ Q ∧ a.t = t) (bs : List Nat) (ck : Nat) (p : Int) : dpW ks Q bs ck p [] = wyOf ks Q bs ck := by
  unfold dpW
  rw [fltB_all ks bs (alv_nil hm p), dpQ_nil, List.filter_eq_self.2 (alv_nil hm p)]
theorem dpW_rep {ks : List Int} {Q : List Av} (hd : ks.Nodup) (hm : ∀ t, t ∈ ks ↔ ∃ a, a ∈ Q ∧ a.t = t) (bs : List Nat) (ck : Nat) (p : Int) (D : List Int) : Rep (dpW ks Q bs ck p D) (dpQ Q p D) := by
  refine rep_of (hd.filter _) (fun t => ?_) _ _
  rw [List.mem_filter]
  unfold alv
  constructor
  · rintro ⟨_, h⟩
    cases e : atT (dpQ Q p D) t with
    | nil => rw [e] at h; cases h
    | cons a l =>
      have : a ∈ atT (dpQ Q p D) t := by rw [e]; simp
      obtain ⟨x, y⟩ := atT_mem.1 this
      exact ⟨a, x, y⟩
  · rintro ⟨a, ha, e⟩
    have h1 : a ∈ atT (dpQ Q p D) t := atT_mem.2 ⟨ha, e⟩
    refine ⟨(hm t).2 ⟨a, (List.mem_filter.1 ha).1, e⟩, ?_⟩
    cases e2 : atT (dpQ Q p D) t with
    | nil => rw [e2] at h1; cases h1
    | cons b l => rfl
/-- A row gets other arrivals. -/
def Wy.setR (W : Wy) (t : Int) (m : Nat) (r : Ar) : Wy := ⟨if iidx W.ks t < W.n then W.n else W.n + 1, putL (iidx W.ks t) t W.ks, putL (iidx W.ks t) m W.ns, putL (iidx W.ks t) r W.rs, if iidx W.ks t < W.n then W.bs else W.bs ++ [W.ck], if iidx W.ks t < W.n then W.ck else W.ck + 1⟩
theorem map_putL {α : Type} {K : List Int} (hd : K.Nodup) {t : Int} (ht : t ∈ K) {f g : Int → α} (h : ∀ k, k ∈ K → k ≠ t → f k = g k) : putL (iidx K t) (g t) (K.map f) = K.map g := by
  have hi := iidx_lt.2 ht
  unfold putL
  rw [List.length_map, if_pos hi]
  refine List.ext_getElem (by simp) fun i a b => ?_
  rw [List.getElem_set]
  simp only [List.length_map] at b
  by_cases e : iidx K t = i
  · subst e
    rw [if_pos rfl, List.getElem_map]
    have := iidx_get hi
    rw [List.getElem?_eq_getElem hi] at this
    simp only [Option.some.injEq] at this
    rw [this]
  · rw [if_neg e, List.getElem_map, List.getElem_map]
    refine h _ (List.getElem_mem b) fun e2 => e ?_
    exact iidx_of_get hd (by rw [List.getElem?_eq_getElem b, e2])
theorem setR_wyOf {K : List Int} (hd : K.Nodup) {t : Int} (ht : t ∈ K) {Q Q' : List Av} (h : ∀ k, k ∈ K → k ≠ t → atT Q k = atT Q' k) (bs : List Nat) (ck : Nat) : (wyOf K Q bs ck).setR t (atT Q' t).length (arOf (atT Q' t)) = wyOf K Q' bs ck := by
  have hi := iidx_lt.2 ht
  unfold Wy.setR wyOf
  dsimp only
  rw [if_pos hi, if_pos hi, if_pos hi, iput_key, if_pos hi]
  rw [map_putL hd ht (f := fun k => (atT Q k).length) (g := fun k => (atT Q' k).length) (fun k hk hne => by rw [h k hk hne])]
  rw [map_putL hd ht (f := fun k => arOf (atT Q k)) (g := fun k => arOf (atT Q' k)) (fun k hk hne => by rw [h k hk hne])]
theorem eraseIdx_map' {α β : Type} (f : α → β) : ∀ (l : List α) (i : Nat), (l.map f).eraseIdx i = (l.eraseIdx i).map f
  | [], i => by simp
  | a :: l, 0 => rfl
  | a :: l, i + 1 => by simp only [List.map_cons, List.eraseIdx_cons_succ, eraseIdx_map' f l i]
theorem del_wyOf {K : List Int} (hd : K.Nodup) {t : Int} (ht : t ∈ K) {Q Q' : List Av} (h : ∀ k, k ∈ K → k ≠ t → atT Q k = atT Q' k) (bs : List Nat) (ck : Nat) : (wyOf K Q bs ck).del t = wyOf (K.filter (fun k => decide (k ≠ t))) Q' (bs.eraseIdx (iidx K t)) ck := by
  have hi := iidx_lt.2 ht
  have hl : (K.filter (fun k => decide (k ≠ t))).length = K.length - 1 := by rw [← erase_filter hd, List.length_eraseIdx, if_pos hi]
  unfold Wy.del wyOf
  dsimp only
  rw [if_pos hi, hl, eraseIdx_map', eraseIdx_map', erase_filter hd]
  congr 1
  · refine List.map_congr_left fun k hk => ?_
    obtain ⟨a, b⟩ := List.mem_filter.1 hk
    rw [h k a (by simpa using b)]
  · refine List.map_congr_left fun k hk => ?_
    obtain ⟨a, b⟩ := List.mem_filter.1 hk
    rw [h k a (by simpa using b)]
theorem dp_other {Q : List Av} {p t k : Int} {D : List Int} (h : k ≠ t) : atT (dpQ Q p D) k = atT (dpQ Q p (D ++ [t])) k := by
  by_cases hk : k ∈ D
  · rw [atT_dpQ_yes hk, atT_dpQ_yes (by simp [hk])]
  · rw [atT_dpQ_no hk, atT_dpQ_no (by simp [hk, h])]
theorem alv_other {Q : List Av} {p t k : Int} {D : List Int} (h : k ≠ t) : alv Q p D k = alv Q p (D ++ [t]) k := by
  unfold alv; rw [dp_other h]
theorem dp_step {ks : List Int} {Q : List Av} (hd : ks.Nodup) (hm : ∀ t, t ∈ ks ↔ ∃ a, a ∈ Q ∧ a.t = t) (bs : List Nat) (ck : Nat) (p : Int) (D : List Int) {t : Int} (ht : t ∈ ks) (hD : ¬ t ∈ D) :
    t ∈ ks.filter (alv Q p D) ∧ atT (dpQ Q p D) t = atT Q t ∧ ((keepT (atT Q t) p = [] → (dpW ks Q bs ck p D).del t = dpW ks Q bs ck p (D ++ [t])) ∧ (keepT (atT Q t) p ≠ [] → (dpW ks Q bs ck p D).setR t (keepT (atT Q t) p).length (arOf (keepT (atT Q t) p)) = dpW ks Q bs ck p (D ++ [t]))) := by
  have e0 : atT (dpQ Q p D) t = atT Q t := atT_dpQ_no hD
  have e1 : atT (dpQ Q p (D ++ [t])) t = keepT (atT Q t) p := atT_dpQ_yes (by simp)
  have al : alv Q p D t = true := by
    have := alv_nil hm p t ht
    unfold alv at this ⊢
    rw [dpQ_nil] at this
    rw [e0]; exact this
  have hin : t ∈ ks.filter (alv Q p D) := List.mem_filter.2 ⟨ht, al⟩
  have hdk : (ks.filter (alv Q p D)).Nodup := hd.filter _
  refine ⟨hin, e0, fun he => ?_, fun hne => ?_⟩
  · have ha : ∀ k, k ∈ ks → (alv Q p D k && decide (k ≠ t)) = alv Q p (D ++ [t]) k := by
      intro k _
      by_cases h : k = t
      · subst h
        unfold alv
        rw [e1, he]; simp
      · rw [← alv_other h]; simp [h]
    unfold dpW
    rw [del_wyOf hdk hin (Q' := dpQ Q p (D ++ [t])) (fun k _ h => dp_other h), List.filter_filter, fltB_erase al ks bs hd ht, fltB_congr ks bs ha]
    congr 1
    exact List.filter_congr fun k hk => by rw [Bool.and_comm]; exact ha k hk
  · have ha : ∀ k, k ∈ ks → alv Q p D k = alv Q p (D ++ [t]) k := by
      intro k _
      by_cases h : k = t
      · subst h
        rw [al]
        unfold alv
        rw [e1]
        cases e : keepT (atT Q k) p with
        | nil => exact absurd e hne
        | cons a l => rfl
      · exact alv_other h
    unfold dpW
    rw [← e1, setR_wyOf hdk hin (Q' := dpQ Q p (D ++ [t])) (fun k _ h => dp_other h), fltB_congr ks bs ha]
    congr 1
    exact List.filter_congr ha
end Go.Proofs.Ytpconbdoackcfaa

/- Contract of Drop: what is on the way to a party goes. -/
namespace Go.Proofs.Ytpconbdoackcfaa
open Go.RowKit Go.Sy
attribute [local irreducible] vcall vloop vcallD retP sortI
set_option maxRecDepth 100000
set_option linter.unusedVariables false
set_option linter.unusedSimpArgs false

/-- A row of a table of slices is set to a part of the slice that stood there. -/
theorem relab_map_set {H : Heap} {n bh : Nat} {ka : Bool} {m : Nat} {ks : List Col} {bs : List Nat} {ck : Nat} {h k i : Nat} {ns : List Nat} {dom : Nat → Prop} {f : Nat → Blk}
    (hb : hget H bh = some (.one false (.obj (.map ka false m ks [.svs (putL i (.sl h i 0 k) (ownL h ns))] bs ck)))) (hbn : bh < n) (hi : i < ns.length) (hm : m = ns.length) (hf : hget H h = some (.fam false dom f)) (hd : ∀ x, x < ns.length → dom x) (h1 : bh ≠ h) :
    Relab H n (fun h' q => if h' = n ∧ q < m then some (h, q) else none) (fun _ => 0) [(bh, some (.one false (.obj (.map ka false m ks [.own n (putL i k ns)] bs ck)))), (n, some (.fam false (fun x => x < m) f))] [h] 1 := by
  have hl : i ≤ (ownL h ns).length := by rw [ownL_len]; omega
  refine relab_map (s := fun x => some (h, x)) (es := 0) hb hbn (by simp [h1]) (by rw [putL_length, if_pos hi]; exact hm.symm) ?_ ?_ ?_
  · intro x hx
    left
    refine ⟨h, x, rfl, ?_, ent_fam hf (hd _ (by omega)), by simp⟩
    rw [putL_at hl, putL_at (by omega)]
    by_cases e : x = i
    · rw [if_pos e, if_pos e, e]
    · rw [if_neg e, if_neg e, ownL_at (by omega)]
  · intro x hx
    rw [putL_at hl]
    by_cases e : x = i
    · rw [if_pos e]; intro e'; cases e'
    · rw [if_neg e]; exact ownL_ne (by omega)
  · intro x y p hx hy hp hq
    rw [← hp] at hq
    simp at hq
    exact hq.symm
abbrev dpH (L : Lk) (p : Int) (S : List Int) (c : Nat) (W : Wy) : Heap := [(1, some (lkC true L)), (2, some (faB true L.F)), (3, some (wyM false 6 W)), (6, some (wyF false W)), (5, some (.one false (.cells [.int .i64 p]))), (7, some (.one false (.cols c [.sc (.ints .i64 S)])))]
abbrev dpE (p bf : Int) (c i : Nat) : Env := [(0, .ptr 1 0 0 0), (3, .ptr 5 0 0 0), (7, .int .i64 bf), (28, .sl 7 0 0 c), (29, .int .i64 c), (30, .int .i64 i)]
set_option maxHeartbeats 1000000 in
theorem dp_round (L : Lk) (p bf : Int) (S : List Int) (c : Nat) (hc : c ≤ 100000) (W : Wy) (Q : List Av) (hr : Rep W Q) (hq : Q.length ≤ 1000) (i : Nat) (hi : i < c) (hin : S.getD i 0 ∈ W.ks) (K : Exit → VS → Prop)
    (hN : ∀ W', ((keepT (atT Q (S.getD i 0)) p = [] → W' = W.del (S.getD i 0)) ∧ (keepT (atT Q (S.getD i 0)) p ≠ [] → W' = W.setR (S.getD i 0) (keepT (atT Q (S.getD i 0)) p).length (arOf (keepT (atT Q (S.getD i 0)) p)))) → ∀ v, (∃ l us, upK us v (fun v => Weak 5 l v ⟨dpE p bf c (i + 1), dpH L p S c W', 8⟩)) → K .normal v) :
    vcode Try.prog T 5 (lpc Try.f18 1) ⟨dpE p bf c i, dpH L p S c W, 8⟩ K := by
  have hik := iidx_lt.2 hin
  have hidx : iidx W.ks (S.getD i 0) < W.n := by rw [← hr.kl]; exact hik
  obtain ⟨r1, r2⟩ := hr.row _ hidx
  rw [getD_iidx hin] at r1 r2
  have hnl := hr.nl
  have hrl := hr.rl
  have hLl : (atT Q (S.getD i 0)).length ≤ 1000 := Nat.le_trans (List.length_filter_le _ _) hq
  have hfd : foundS false W.n [.own 6 W.ns] (iidx W.ks (S.getD ((i : Int).toNat + 0) 0)) = .sl 6 (iidx W.ks (S.getD i 0)) 0 (W.ns.getD (iidx W.ks (S.getD i 0)) 0) := by
    show (bif decide (iidx W.ks (S.getD i 0) < W.n) then SV.sl 6 (iidx W.ks (S.getD i 0)) 0 (W.ns.getD (iidx W.ks (S.getD i 0)) 0) else .nsl) = _
    rw [decide_eq_true hidx]; rfl
  have efd := del_fam W false (S.getD i 0)
  obtain ⟨t, ht⟩ : ∃ t, t = S.getD i 0 := ⟨_, rfl⟩
  obtain ⟨m, hm⟩ : ∃ m, m = (keepT (atT Q t) p).length := ⟨_, rfl⟩
  obtain ⟨ar, har⟩ : ∃ ar, ar = arOf (keepT (atT Q t) p) := ⟨_, rfl⟩
  have c1 := lk_DeleteFunc W.n W.ns W.rs (iidx W.ks t) (by rw [ht]; exact hidx) (by rw [ht]; omega) (by rw [ht]; omega) (atT Q t) (by rw [ht]; exact r2) (by rw [ht]; exact r1) (by rw [ht]; omega) p m hm
  rw [← har, show (atT Q t).length = W.ns.getD (iidx W.ks t) 0 by rw [ht]; exact r2.symm] at c1
  rw [← ht] at hN hfd hidx efd
  rw [← hm, ← har] at hN
  have hns1 : iidx W.ks t < W.ns.length := by omega
  have hrs1 : iidx W.ks t < W.rs.length := by omega
  have hm0 : m = 0 ↔ keepT (atT Q t) p = [] := by rw [hm]; exact List.length_eq_zero_iff
  by_cases hz : m = 0
  · have hN' := hN (W.del t) ⟨fun _ => rfl, fun h => absurd (hm0.1 hz) h⟩
    have ef : (HB.fam false (fun x => x < (if iidx W.ks t < W.n then W.n - 1 else W.n)) (fun x => (fun q => arB ((W.ns.set (iidx W.ks t) m).getD q 0) ((W.rs.set (iidx W.ks t) ar).getD q ar0)) (if x < iidx W.ks t then x else x + 1))) = wyF false (W.del t) := by
      rw [efd]
      congr 1
      funext x
      dsimp only
      by_cases hx : x < iidx W.ks t
      · rw [if_pos hx, set_getD hns1, set_getD hrs1, if_neg (by omega), if_neg (by omega)]
      · rw [if_neg hx, set_getD hns1, set_getD hrs1, if_neg (by omega), if_neg (by omega)]
    clear hN hm0 hm har
    subst hz ht
    repeat' ((conv => whnf); first | (rw [hfd]) | (refine vcall_out (l :=  [0, 6, 5]) (c1 ) ⟨rfl, rfl, rfl, rfl, (by (repeat' (first | exact trivial | exact GB_wf | exact fun _ _ => rfl | constructor)); first | done | fail), (by (repeat' (first | exact trivial | exact GB_fits rfl | constructor)); first | done | fail)⟩ ?_) | (refine vcallD_out (l :=  [0, 6, 5]) (c1 ) ⟨rfl, rfl, rfl, rfl, (by (repeat' (first | exact trivial | exact GB_wf | exact fun _ _ => rfl | constructor)); first | done | fail), (by (repeat' (first | exact trivial | exact GB_fits rfl | constructor)); first | done | fail)⟩ ?_) | (refine br_dec (fun h => ?_) (fun h => ?_) <;> try (exfalso; (try dsimp only at h); omega)) | (refine br_ndec (fun h => ?_) (fun h => ?_) <;> try (exfalso; (try dsimp only at h); omega)) | refine br_seq (fun h => ?_) (fun h => ?_) | refine br_nseq (fun h => ?_) (fun h => ?_) | refine br_not (fun h => ?_) (fun h => ?_) | refine br_intro (fun h => ?_) (fun h => ?_) | refine cond_intro rfl ?_ | (refine cond_intro ⟨rfl, ?_⟩ ?_; (first | omega | (dsimp only; omega) | decide)) | (refine cond_intro ?_ ?_; (first | omega | (dsimp only; omega) | decide | (simp only [Nat.add_zero, Int.toNat_natCast, *]; omega))))
    all_goals (conv => whnf)
    all_goals first
      | (exfalso; omega)
      | (refine hN' _ ⟨[0, 1, 2, 3, 4, 5, 8, 7], [.relab (fun h' q => if h' = 8 ∧ q < (if iidx W.ks (S.getD i 0) < W.n then W.n - 1 else W.n) then some (6, if q < iidx W.ks (S.getD i 0) then q else q + 1) else none) (fun _ => 0) [(3, some (wyM false 8 (W.del (S.getD i 0)))), (8, some (wyF false (W.del (S.getD i 0))))] [6] 1], ⟨by rw [← ef]; exact relab_map_del' (f := fun q => arB ((W.ns.set (iidx W.ks (S.getD i 0)) 0).getD q 0) ((W.rs.set (iidx W.ks (S.getD i 0)) ar).getD q ar0)) (m := if iidx W.ks (S.getD i 0) < W.n then W.n - 1 else W.n) (n := 8) (bh := 3) (h := 6) (i := iidx W.ks (S.getD i 0)) (ns := W.ns) (dom := fun q => q < W.n) rfl (by decide) (by omega) (by rw [if_pos hidx]; omega) rfl (fun q hq hne => (show q < W.n by omega)) (by decide), ?_⟩⟩
         exact ⟨rfl, ⟨rfl, rfl, rfl, rfl, rfl, congrArg (fun z => some (SV.int .i64 z)) (i64_succ (by omega)), trivial⟩, ⟨rfl, rfl, rfl, rfl, rfl, rfl, trivial⟩⟩)
      | trace_state
  · have hN' := hN (W.setR t m ar) ⟨fun h => absurd (hm0.2 h) hz, fun _ => rfl⟩
    have ef : (HB.fam false (fun x => x < (if iidx W.ks t < W.n then W.n else W.n + 1)) (fun q => arB ((W.ns.set (iidx W.ks t) m).getD q 0) ((W.rs.set (iidx W.ks t) ar).getD q ar0))) = wyF false (W.setR t m ar) := by
      unfold wyF Wy.setR
      dsimp only
      congr 1
      funext x
      rw [set_getD hns1, set_getD hrs1, putL_at (by omega), putL_at (by omega)]
    clear hN hm0 hm har
    subst ht
    repeat' ((conv => whnf); first | (rw [hfd]) | (refine vcall_out (l :=  [0, 6, 5]) (c1 ) ⟨rfl, rfl, rfl, rfl, (by (repeat' (first | exact trivial | exact GB_wf | exact fun _ _ => rfl | constructor)); first | done | fail), (by (repeat' (first | exact trivial | exact GB_fits rfl | constructor)); first | done | fail)⟩ ?_) | (refine vcallD_out (l :=  [0, 6, 5]) (c1 ) ⟨rfl, rfl, rfl, rfl, (by (repeat' (first | exact trivial | exact GB_wf | exact fun _ _ => rfl | constructor)); first | done | fail), (by (repeat' (first | exact trivial | exact GB_fits rfl | constructor)); first | done | fail)⟩ ?_) | (refine br_dec (fun h => ?_) (fun h => ?_) <;> try (exfalso; (try dsimp only at h); omega)) | (refine br_ndec (fun h => ?_) (fun h => ?_) <;> try (exfalso; (try dsimp only at h); omega)) | refine br_seq (fun h => ?_) (fun h => ?_) | refine br_nseq (fun h => ?_) (fun h => ?_) | refine br_not (fun h => ?_) (fun h => ?_) | refine br_intro (fun h => ?_) (fun h => ?_) | refine cond_intro rfl ?_ | (refine cond_intro ⟨rfl, ?_⟩ ?_; (first | omega | (dsimp only; omega) | decide)) | (refine cond_intro ?_ ?_; (first | omega | (dsimp only; omega) | decide | (simp only [Nat.add_zero, Int.toNat_natCast, *]; omega))))
    all_goals (conv => whnf)
    all_goals first
      | (exfalso; omega)
      | (refine hN' _ ⟨[0, 1, 2, 3, 4, 5, 8, 7], [.relab (fun h' q => if h' = 8 ∧ q < (if iidx W.ks (S.getD i 0) < W.n then W.n else W.n + 1) then some (6, q) else none) (fun _ => 0) [(3, some (wyM false 8 (W.setR (S.getD i 0) m ar))), (8, some (wyF false (W.setR (S.getD i 0) m ar)))] [6] 1], ⟨by rw [← ef]; exact relab_map_set (f := fun q => arB ((W.ns.set (iidx W.ks (S.getD i 0)) m).getD q 0) ((W.rs.set (iidx W.ks (S.getD i 0)) ar).getD q ar0)) (m := if iidx W.ks (S.getD i 0) < W.n then W.n else W.n + 1) (n := 8) (bh := 3) (h := 6) (i := iidx W.ks (S.getD i 0)) (k := m) (ns := W.ns) (dom := fun q => q < W.n) rfl (by decide) (by omega) (by rw [if_pos hidx]; omega) rfl (fun q hq => (show q < W.n by omega)) (by decide), ?_⟩⟩
         exact ⟨rfl, ⟨rfl, rfl, rfl, rfl, rfl, congrArg (fun z => some (SV.int .i64 z)) (i64_succ (by omega)), trivial⟩, ⟨rfl, rfl, rfl, rfl, rfl, rfl, trivial⟩⟩)
      | trace_state
/-- The keys in the order in which they were met. -/
def kyL (ks : List Int) (sn : List Nat) : List Int := sn.reverse.map (fun i => ks.getD i 0)
theorem kyL_cons (ks : List Int) (i : Nat) (sn : List Nat) : kyL ks (i :: sn) = kyL ks sn ++ [ks.getD i 0] := by simp [kyL]
theorem kyL_len (ks : List Int) (sn : List Nat) : (kyL ks sn).length = sn.length := by simp [kyL]
theorem kyL_perm {ks : List Int} {sn : List Nat} (hd : sn.Nodup) (hl : ∀ i ∈ sn, i < ks.length) (ha : ∀ i, i < ks.length → i ∈ sn) : (kyL ks sn).Perm ks := by
  have h1 : (sn.reverse).Perm (List.range ks.length) := (List.reverse_perm sn).trans (perm_range hd hl ha)
  have h2 := h1.map (fun i => ks.getD i 0)
  rw [map_range_getD] at h2
  exact h2
/-- The table without the arrivals to a party. -/
def drW (W : Wy) (Q : List Av) (p : Int) : Wy := wyOf (W.ks.filter (fun k => !(atT (keepT Q p) k).isEmpty)) (keepT Q p) (fltB (fun k => !(atT (keepT Q p) k).isEmpty) W.ks W.bs) W.ck
theorem dpW_all {W : Wy} {Q : List Av} {p : Int} {S : List Int} (h : ∀ a, a ∈ Q → a.t ∈ S) : dpW W.ks Q W.bs W.ck p S = drW W Q p := by
  have e : alv Q p S = fun k => !(atT (keepT Q p) k).isEmpty := by
    funext k
    unfold alv
    rw [dpQ_all h]
  unfold dpW drW
  rw [e, dpQ_all h]
theorem drW_rep {W : Wy} {Q : List Av} (h : Rep W Q) (p : Int) : Rep (drW W Q p) (keepT Q p) := by
  have hs : ∀ a, a ∈ Q → a.t ∈ W.ks := fun a ha => (h.mem _).2 ⟨a, ha, rfl⟩
  have := dpW_rep h.nd h.mem W.bs W.ck p W.ks
  rw [dpW_all hs, dpQ_all hs] at this
  exact this
set_option maxHeartbeats 1000000 in
theorem lk_Drop (L : Lk) (Q : List Av) (hr : Rep L.W Q) (hq : Q.length ≤ 1000) (p : Int) : FC Try.prog 5 18 [.ptr 1 0 0 0, .int .i64 p] [(1, some (lkC true L)), (2, some (faB true L.F)), (3, some (wyM false 4 L.W)), (4, some (wyF false L.W))] (isOut (.int .i64 ((Q.length : Int) - ((keepT Q p).length : Int))) [(3, some (wyM false 5 (drW L.W Q p))), (5, some (wyF false (drW L.W Q p)))] 6) := by
  have cu := lk_underWay L hr.nl
  rw [hr.sum hq] at cu
  have hwn := hr.n_le
  have hdr := drW_rep hr p
  have hkl : (keepT Q p).length ≤ Q.length := List.length_filter_le _ _
  have cu2 := lk_underWay { L with W := drW L.W Q p } hdr.nl
  rw [hdr.sum (by omega)] at cu2
  have hall : ∀ a, a ∈ Q → a.t ∈ L.W.ks := fun a ha => (hr.mem _).2 ⟨a, ha, rfl⟩
  have hw0 := rep_wyOf hr
  have hd0 := dpW_nil hr.mem L.W.bs L.W.ck p
  refine fc_of mixed T_ok Try.func18 rfl (by kernel_rfl) (by kernel_rfl) (by kernel_rfl) ?_
  repeat' ((conv => whnf); first | (refine br_dec (fun h => ?_) (fun h => ?_) <;> try (exfalso; (try dsimp only at h); omega)) | (refine br_ndec (fun h => ?_) (fun h => ?_) <;> try (exfalso; (try dsimp only at h); omega)) | refine br_seq (fun h => ?_) (fun h => ?_) | refine br_nseq (fun h => ?_) (fun h => ?_) | refine br_not (fun h => ?_) (fun h => ?_) | refine br_intro (fun h => ?_) (fun h => ?_) | refine cond_intro rfl ?_ | (refine cond_intro ⟨rfl, ?_⟩ ?_; (first | omega | (dsimp only; omega) | decide)) | (refine cond_intro ?_ ?_; (first | omega | (dsimp only; omega) | decide | (simp only [Nat.add_zero, Int.toNat_natCast, *]; omega))))
  all_goals (conv => whnf)
  refine vloop_of (fun sn : List Nat => ⟨[(0, .ptr 1 0 0 0), (3, .ptr 5 0 0 0), (17, .ptr 6 0 0 0), (5, .sl 7 0 0 (kyL L.W.ks sn).length)], [(6, some (.one false (.obj (.iter 3 0 L.W.bs L.W.ck sn)))), (7, some (.one false (.cols (kyL L.W.ks sn).length [.sc (.ints .i64 (kyL L.W.ks sn))]))), (5, some (.one false (.cells [.int .i64 p]))), (1, some (lkC true L)), (2, some (faB true L.F)), (3, some (wyM false 4 L.W)), (4, some (wyF false L.W))], 8⟩) (fun sn => sn.Nodup ∧ ∀ i ∈ sn, i < L.W.n) (fun sn => L.W.n - sn.length) [] [0, 1, 2, 3, 4, 5, 6, 7] [.slot 5 [.sc (.ints .i64 [])]] ⟨rfl, ⟨rfl, rfl, rfl, rfl, trivial⟩, ⟨rfl, rfl, rfl, rfl, rfl, rfl, rfl, trivial⟩⟩ ⟨List.nodup_nil, by simp⟩ ?_
  rintro sn ⟨hnd, hb⟩
  have hsl := nodup_len _ sn hnd hb
  have hkyl := kyL_len L.W.ks sn
  repeat' ((conv => whnf); first | (refine ⟨⟨rfl, rfl⟩, fun i hi hni => ?_, fun hend => ?_⟩) | (refine vcall_out (l :=  [0, 1, 2, 3, 4]) (cu ) ⟨rfl, rfl, rfl, rfl, (by (repeat' (first | exact trivial | exact GB_wf | exact fun _ _ => rfl | constructor)); first | done | fail), (by (repeat' (first | exact trivial | exact GB_fits rfl | constructor)); first | done | fail)⟩ ?_) | (refine vcallD_out (l :=  [0, 1, 2, 3, 4]) (cu ) ⟨rfl, rfl, rfl, rfl, (by (repeat' (first | exact trivial | exact GB_wf | exact fun _ _ => rfl | constructor)); first | done | fail), (by (repeat' (first | exact trivial | exact GB_fits rfl | constructor)); first | done | fail)⟩ ?_) | (refine br_dec (fun h => ?_) (fun h => ?_) <;> try (exfalso; (try dsimp only at h); omega)) | (refine br_ndec (fun h => ?_) (fun h => ?_) <;> try (exfalso; (try dsimp only at h); omega)) | refine br_seq (fun h => ?_) (fun h => ?_) | refine br_nseq (fun h => ?_) (fun h => ?_) | refine br_not (fun h => ?_) (fun h => ?_) | refine br_intro (fun h => ?_) (fun h => ?_) | refine cond_intro rfl ?_ | (refine cond_intro ⟨rfl, ?_⟩ ?_; (first | omega | (dsimp only; omega) | decide)) | (refine cond_intro ?_ ?_; (first | omega | (dsimp only; omega) | decide | (simp only [Nat.add_zero, Int.toNat_natCast, *]; omega))))
  all_goals (conv => whnf)
  · have hlt := nodup_cons_lt hnd hb hi hni
    refine ⟨i :: sn, [0, 1, 2, 3, 4, 5, 6, 9], [], ⟨List.nodup_cons.2 ⟨hni, hnd⟩, fun x hx => ?_⟩, by simp only [List.length_cons]; omega, ?_⟩
    · rcases List.mem_cons.1 hx with rfl | hx
      · exact hi
      · exact hb x hx
    · rw [kyL_cons, List.length_append]
      exact ⟨rfl, ⟨rfl, rfl, rfl, rfl, trivial⟩, ⟨rfl, rfl, rfl, rfl, rfl, rfl, rfl, trivial⟩⟩
  · have hp := kyL_perm (ks := L.W.ks) hnd (by rw [hr.kl]; exact hb) (by rw [hr.kl]; exact hend)
    have hSn : (kyL L.W.ks sn).Nodup := hp.symm.nodup hr.nd
    have hSm : ∀ t, t ∈ kyL L.W.ks sn ↔ t ∈ L.W.ks := fun t => hp.mem_iff
    have hSl : (kyL L.W.ks sn).length ≤ 1000 := by omega
    clear hp hkyl hend hsl hb hnd cu
    generalize kyL L.W.ks sn = S at *
    have hW : ∀ i, Rep (dpW L.W.ks Q L.W.bs L.W.ck p (S.take i)) (dpQ Q p (S.take i)) := fun i => dpW_rep hr.nd hr.mem _ _ p _
    have hQl : ∀ i, (dpQ Q p (S.take i)).length ≤ 1000 := fun i => Nat.le_trans (List.length_filter_le _ _) hq
    refine vloop_lp (fun i : Nat => ⟨dpE p (Q.length : Int) S.length i, dpH L p S S.length (dpW L.W.ks Q L.W.bs L.W.ck p (S.take i)), 8⟩) (fun i => i ≤ S.length) (fun i => S.length - i) 0 [0, 1, 2, 3, 4, 5, 4, 7] [] ?_ (Nat.zero_le _) ?_
    · rw [List.take_zero, hd0, ← hw0]
      exact ⟨rfl, ⟨rfl, rfl, rfl, rfl, rfl, rfl, trivial⟩, ⟨rfl, rfl, rfl, rfl, rfl, rfl, trivial⟩⟩
    · intro i hi
      by_cases hi2 : i < S.length
      · have eg : S.getD i 0 = S[i] := by simp [List.getD, hi2]
        have hnt : ¬ S[i] ∈ S.take i := by
          intro hx
          obtain ⟨j, hj, e⟩ := List.getElem_of_mem hx
          simp only [List.length_take] at hj
          rw [List.getElem_take] at e
          have := (List.getElem_inj hSn).1 e
          omega
        have hin : S[i] ∈ L.W.ks := (hSm _).1 (List.getElem_mem hi2)
        obtain ⟨d1, d2, d3, d4⟩ := dp_step hr.nd hr.mem L.W.bs L.W.ck p (S.take i) hin hnt
        have et : S.take (i + 1) = S.take i ++ [S[i]] := List.take_succ_eq_append_getElem hi2
        refine dp_round L p Q.length S S.length (by omega) _ _ (hW i) (hQl i) i hi2 (by rw [eg]; exact d1) _ (fun W' hW' v ⟨l, us, h⟩ => ⟨i + 1, l, us, (show i + 1 ≤ S.length by omega), (show S.length - (i + 1) < S.length - i by omega), ?_⟩)
        have e : W' = dpW L.W.ks Q L.W.bs L.W.ck p (S.take (i + 1)) := by
          rw [eg, d2] at hW'
          rw [et]
          by_cases hz : keepT (atT Q S[i]) p = []
          · rw [hW'.1 hz, d3 hz]
          · rw [hW'.2 hz, d4 hz]
        rw [e] at h; exact h
      · have ei : i = S.length := by omega
        have et : S.take i = S := List.take_of_length_le (by omega)
        rw [et, dpW_all (fun a ha => (hSm _).2 (hall a ha))]
        have w : IntKind.i64.wrap ((Q.length : Int) - ((keepT Q p).length : Int)) = (Q.length : Int) - ((keepT Q p).length : Int) := w64_in (by omega) (by omega)
        rw [← w]
        clear w hW hQl hd0 hw0 hdr
        generalize drW L.W Q p = W' at *
        repeat' ((conv => whnf); first | (refine vcall_out (l :=  [0, 1, 2, 3, 6]) (cu2 ) ⟨rfl, rfl, rfl, rfl, (by (repeat' (first | exact trivial | exact GB_wf | exact fun _ _ => rfl | constructor)); first | done | fail), (by (repeat' (first | exact trivial | exact GB_fits rfl | constructor)); first | done | fail)⟩ ?_) | (refine vcallD_out (l :=  [0, 1, 2, 3, 6]) (cu2 ) ⟨rfl, rfl, rfl, rfl, (by (repeat' (first | exact trivial | exact GB_wf | exact fun _ _ => rfl | constructor)); first | done | fail), (by (repeat' (first | exact trivial | exact GB_fits rfl | constructor)); first | done | fail)⟩ ?_) | (refine br_dec (fun h => ?_) (fun h => ?_) <;> try (exfalso; (try dsimp only at h); omega)) | (refine br_ndec (fun h => ?_) (fun h => ?_) <;> try (exfalso; (try dsimp only at h); omega)) | refine br_seq (fun h => ?_) (fun h => ?_) | refine br_nseq (fun h => ?_) (fun h => ?_) | refine br_not (fun h => ?_) (fun h => ?_) | refine br_intro (fun h => ?_) (fun h => ?_) | refine cond_intro rfl ?_ | (refine cond_intro ⟨rfl, ?_⟩ ?_; (first | omega | (dsimp only; omega) | decide)) | (refine cond_intro ?_ ?_; (first | omega | (dsimp only; omega) | decide | (simp only [Nat.add_zero, Int.toNat_natCast, *]; omega))))
        all_goals (conv => whnf)
        all_goals first
          | (exfalso; omega)
          | exact ret_out (l := [0, 1, 2, 3, 4, 6]) rfl rfl ⟨rfl, rfl, trivial⟩ (allRw_cons (allRw_fam allRw_nil))
          | trace_state
end Go.Proofs.Ytpconbdoackcfaa

/- The law on calls of links: rounds. -/
namespace Go.Proofs.Ytpconbdoackcfaa
open Go.RowKit Go.Sy
attribute [local irreducible] vcall vloop vcallD retP sortI
set_option maxRecDepth 100000
set_option linter.unusedVariables false
set_option linter.unusedSimpArgs false

/-- Where the law stands: what is under way, the clock, the number, the program's table. -/
structure Lc where
  Q : List Av
  qn : Nat
  nw : Int
  se : Int
  W : Wy
structure LcOk (d : Lc) : Prop where
  rep : Rep d.W d.Q
  len : d.Q.length = d.qn
  lim : d.qn ≤ 256
abbrev lcT (l1 : Nat) (q0 q1 q2 q3 : List Int) (q4 : List ByteArray) : HB := .one true (.cols l1 [.sc (.ints .u8 q0), .sc (.ints .i64 q1), .sc (.ints .i64 q2), .sc (.ints .i64 q3), .sc (.strs q4)])
abbrev lcH (F : Fa) (l1 : Nat) (q0 q1 q2 q3 : List Int) (q4 : List ByteArray) (pa la : Int) (d : Lc) : Heap := [(1, some (faB true F)), (2, some (lcT l1 q0 q1 q2 q3 q4)), (3, some (.one false (.cells [.int .i64 pa, .int .i64 la, .sl 4 0 0 F.n, .int .i64 d.nw, .int .i64 d.se, .map 5 0]))), (4, some (faB false F)), (5, some (wyM false 6 d.W)), (6, some (wyF false d.W)), (7, some (.one false (.cells [.int .i64 pa, .int .i64 la, .sl 1 0 0 F.n, .sl 8 0 0 d.qn, .int .i64 d.nw, .int .i64 d.se]))), (8, some (.one false (arB d.qn (arOf d.Q))))]
abbrev lcE (F : Fa) (l1 i : Nat) : Env := [(3, .sl 2 0 0 l1), (9, .ptr 3 0 0 0), (11, .ptr 7 0 0 0), (14, .int .i64 i)]
theorem cat_two (Q R : List Av) {n m : Nat} (hn : Q.length = n) (hm : R.length = m) : (ar0.cat n (arOf Q)).cat m (arOf R) = arOf (Q ++ R) := by
  subst hn hm
  rw [← arOf_nil, arOf_cat, arOf_cat, List.nil_append]
section
variable (F : Fa) (hF : F.n ≤ 32) (l1 : Nat) (hl1 : l1 ≤ 100) (q0 q1 q2 q3 : List Int) (q4 : List ByteArray) (pa la : Int) (i : Nat) (hi : i < l1) (d : Lc) (hd : LcOk d) (K : Exit → VS → Prop)
    (hN : ∀ d', LcOk d' → ∀ v, (∃ l u, upK u v (fun v => Weak 3 l v ⟨lcE F l1 (i + 1), lcH F l1 q0 q1 q2 q3 q4 pa la d', 9⟩)) → K .normal v)
include hF hl1 hi hd hN
set_option maxHeartbeats 1000000 in
theorem lc_cut (hk3 : (q0.getD i 0).tmod 4 = 3) (hs : (q4.getD i ⟨#[]⟩).size ≤ 5000) :
    vcode Try.prog T 3 (lpc Try.f5 1) ⟨lcE F l1 i, lcH F l1 q0 q1 q2 q3 q4 pa la d, 9⟩ K := by
  obtain ⟨Q, qn, nw, se, W⟩ := d
  obtain ⟨e1, e2, e3⟩ := hd
  dsimp only at e1 e2 e3
  replace hN := hN _ (show LcOk ⟨Q, qn, nw, se, W⟩ from ⟨e1, e2, e3⟩)
  have c1 := lk_Cut ⟨pa, la, F, nw, se, W⟩ (q1.getD i 0) (q2.getD i 0) (q3.getD i 0) (by dsimp only; omega)
  have c2 := rl_Cut pa la F nw se qn (q1.getD i 0) (q2.getD i 0) (q3.getD i 0) (by omega)
  have c3 := lk_Next ⟨pa, la, F, nw, se, W⟩ e1.kl
  have c4 := rl_Next pa la F.n nw se W Q e1 (by omega)
  have c5 := lk_Sent ⟨pa, la, F, nw, se, W⟩
  have c6 := rl_Sent pa la F.n nw se qn
  rw [e2] at c4
  dsimp only at c1 c2 c3 c4 c5 c6
  generalize F.cutB (q1.getD i 0) (q2.getD i 0) (q3.getD i 0) F.n = cb at *
  generalize lmin W.ks = mi at *
  generalize decide (0 < W.n) = nb at *
  have hk0 : (q0.getD ((i : Int).toNat + 0) 0).tmod 4 = 3 := hk3
  have hs0 : (q4.getD ((i : Int).toNat + 0) ⟨#[]⟩).size ≤ 5000 := hs
  repeat' ((conv => whnf); first | (refine vcall_out (l :=  [0, 3, 4, 5, 6]) (c1 ) ⟨rfl, rfl, rfl, rfl, (by (repeat' (first | exact trivial | exact GB_wf | exact fun _ _ => rfl | constructor)); first | done | fail), (by (repeat' (first | exact trivial | exact GB_fits rfl | constructor)); first | done | fail)⟩ ?_) | (refine vcallD_out (l :=  [0, 3, 4, 5, 6]) (c1 ) ⟨rfl, rfl, rfl, rfl, (by (repeat' (first | exact trivial | exact GB_wf | exact fun _ _ => rfl | constructor)); first | done | fail), (by (repeat' (first | exact trivial | exact GB_fits rfl | constructor)); first | done | fail)⟩ ?_) | (refine vcall_out (l :=  [0, 7, 1, 8]) (c2 ) ⟨rfl, rfl, rfl, rfl, (by (repeat' (first | exact trivial | exact GB_wf | exact fun _ _ => rfl | constructor)); first | done | fail), (by (repeat' (first | exact trivial | exact GB_fits rfl | constructor)); first | done | fail)⟩ ?_) | (refine vcallD_out (l :=  [0, 7, 1, 8]) (c2 ) ⟨rfl, rfl, rfl, rfl, (by (repeat' (first | exact trivial | exact GB_wf | exact fun _ _ => rfl | constructor)); first | done | fail), (by (repeat' (first | exact trivial | exact GB_fits rfl | constructor)); first | done | fail)⟩ ?_) | (refine vcall_out (l :=  [0, 3, 4, 5, 6]) (c3 ) ⟨rfl, rfl, rfl, rfl, (by (repeat' (first | exact trivial | exact GB_wf | exact fun _ _ => rfl | constructor)); first | done | fail), (by (repeat' (first | exact trivial | exact GB_fits rfl | constructor)); first | done | fail)⟩ ?_) | (refine vcallD_out (l :=  [0, 3, 4, 5, 6]) (c3 ) ⟨rfl, rfl, rfl, rfl, (by (repeat' (first | exact trivial | exact GB_wf | exact fun _ _ => rfl | constructor)); first | done | fail), (by (repeat' (first | exact trivial | exact GB_fits rfl | constructor)); first | done | fail)⟩ ?_) | (refine vcall_out (l :=  [0, 7, 1, 8]) (c4 ) ⟨rfl, rfl, rfl, rfl, (by (repeat' (first | exact trivial | exact GB_wf | exact fun _ _ => rfl | constructor)); first | done | fail), (by (repeat' (first | exact trivial | exact GB_fits rfl | constructor)); first | done | fail)⟩ ?_) | (refine vcallD_out (l :=  [0, 7, 1, 8]) (c4 ) ⟨rfl, rfl, rfl, rfl, (by (repeat' (first | exact trivial | exact GB_wf | exact fun _ _ => rfl | constructor)); first | done | fail), (by (repeat' (first | exact trivial | exact GB_fits rfl | constructor)); first | done | fail)⟩ ?_) | (refine vcall_out (l :=  [0, 3, 4, 5, 6]) (c5 ) ⟨rfl, rfl, rfl, rfl, (by (repeat' (first | exact trivial | exact GB_wf | exact fun _ _ => rfl | constructor)); first | done | fail), (by (repeat' (first | exact trivial | exact GB_fits rfl | constructor)); first | done | fail)⟩ ?_) | (refine vcallD_out (l :=  [0, 3, 4, 5, 6]) (c5 ) ⟨rfl, rfl, rfl, rfl, (by (repeat' (first | exact trivial | exact GB_wf | exact fun _ _ => rfl | constructor)); first | done | fail), (by (repeat' (first | exact trivial | exact GB_fits rfl | constructor)); first | done | fail)⟩ ?_) | (refine vcall_out (l :=  [0, 7, 1, 8]) (c6 ) ⟨rfl, rfl, rfl, rfl, (by (repeat' (first | exact trivial | exact GB_wf | exact fun _ _ => rfl | constructor)); first | done | fail), (by (repeat' (first | exact trivial | exact GB_fits rfl | constructor)); first | done | fail)⟩ ?_) | (refine vcallD_out (l :=  [0, 7, 1, 8]) (c6 ) ⟨rfl, rfl, rfl, rfl, (by (repeat' (first | exact trivial | exact GB_wf | exact fun _ _ => rfl | constructor)); first | done | fail), (by (repeat' (first | exact trivial | exact GB_fits rfl | constructor)); first | done | fail)⟩ ?_) | (refine br_dec (fun h => ?_) (fun h => ?_) <;> try (exfalso; (try dsimp only at h); omega)) | (refine br_ndec (fun h => ?_) (fun h => ?_) <;> try (exfalso; (try dsimp only at h); omega)) | refine br_seq (fun h => ?_) (fun h => ?_) | refine br_nseq (fun h => ?_) (fun h => ?_) | refine br_not (fun h => ?_) (fun h => ?_) | refine br_intro (fun h => ?_) (fun h => ?_) | refine cond_intro rfl ?_ | (refine cond_intro ⟨rfl, ?_⟩ ?_; (first | omega | (dsimp only; omega) | decide)) | (refine cond_intro ?_ ?_; (first | omega | (dsimp only; omega) | decide | (simp only [Nat.add_zero, Int.toNat_natCast, *]; omega))))
  all_goals (conv => whnf)
  all_goals first
    | (exfalso; omega)
    | (exfalso; revert h; cases cb <;> simp; done)
    | (exfalso; revert h; cases nb <;> simp; done)
    | exact hN _ ⟨[0, 1, 2, 3, 4, 5, 6, 7, 8], [], ⟨rfl, ⟨rfl, rfl, rfl, congrArg (fun z => some (SV.int .i64 z)) (i64_succ (by omega)), trivial⟩, ⟨rfl, rfl, rfl, rfl, rfl, rfl, rfl, rfl, trivial⟩⟩⟩
    | trace_state
set_option maxHeartbeats 1000000 in
theorem lc_drop (hk3 : (q0.getD i 0).tmod 4 = 2) (hs : (q4.getD i ⟨#[]⟩).size ≤ 5000) :
    vcode Try.prog T 3 (lpc Try.f5 1) ⟨lcE F l1 i, lcH F l1 q0 q1 q2 q3 q4 pa la d, 9⟩ K := by
  obtain ⟨Q, qn, nw, se, W⟩ := d
  obtain ⟨e1, e2, e3⟩ := hd
  dsimp only at e1 e2 e3
  have _ := hF
  have hkl : (keepT Q (q2.getD i 0)).length ≤ Q.length := List.length_filter_le _ _
  have hdr := drW_rep e1 (q2.getD i 0)
  replace hN := hN _ (show LcOk ⟨keepT Q (q2.getD i 0), (keepT Q (q2.getD i 0)).length, nw, se, drW W Q (q2.getD i 0)⟩ from ⟨hdr, rfl, by dsimp only; omega⟩)
  have c1 := lk_Drop ⟨pa, la, F, nw, se, W⟩ Q e1 (by omega) (q2.getD i 0)
  have c2 := rl_Drop pa la F.n nw se (q2.getD i 0) Q qn e2 (by omega) _ rfl
  have c3 := lk_Next ⟨pa, la, F, nw, se, drW W Q (q2.getD i 0)⟩ hdr.kl
  have c4 := rl_Next pa la F.n nw se _ _ hdr (by omega)
  have c5 := lk_Sent ⟨pa, la, F, nw, se, drW W Q (q2.getD i 0)⟩
  have c6 := rl_Sent pa la F.n nw se (keepT Q (q2.getD i 0)).length
  rw [e2] at c1
  dsimp only at c1 c2 c3 c4 c5 c6
  unfold lcH at hN
  dsimp only at hN
  generalize drW W Q (q2.getD i 0) = W' at *
  generalize lmin W'.ks = mi at *
  generalize decide (0 < W'.n) = nb at *
  generalize (keepT Q (q2.getD i 0)).length = kn at *
  generalize arOf (keepT Q (q2.getD i 0)) = ka at *
  have hk0 : (q0.getD ((i : Int).toNat + 0) 0).tmod 4 = 2 := hk3
  have hs0 : (q4.getD ((i : Int).toNat + 0) ⟨#[]⟩).size ≤ 5000 := hs
  repeat' ((conv => whnf); first | (refine vcall_out (l :=  [0, 3, 4, 5, 6]) (c1 ) ⟨rfl, rfl, rfl, rfl, (by (repeat' (first | exact trivial | exact GB_wf | exact fun _ _ => rfl | constructor)); first | done | fail), (by (repeat' (first | exact trivial | exact GB_fits rfl | constructor)); first | done | fail)⟩ ?_) | (refine vcallD_out (l :=  [0, 3, 4, 5, 6]) (c1 ) ⟨rfl, rfl, rfl, rfl, (by (repeat' (first | exact trivial | exact GB_wf | exact fun _ _ => rfl | constructor)); first | done | fail), (by (repeat' (first | exact trivial | exact GB_fits rfl | constructor)); first | done | fail)⟩ ?_) | (refine vcall_out (l :=  [0, 7, 1, 8]) (c2 ) ⟨rfl, rfl, rfl, rfl, (by (repeat' (first | exact trivial | exact GB_wf | exact fun _ _ => rfl | constructor)); first | done | fail), (by (repeat' (first | exact trivial | exact GB_fits rfl | constructor)); first | done | fail)⟩ ?_) | (refine vcallD_out (l :=  [0, 7, 1, 8]) (c2 ) ⟨rfl, rfl, rfl, rfl, (by (repeat' (first | exact trivial | exact GB_wf | exact fun _ _ => rfl | constructor)); first | done | fail), (by (repeat' (first | exact trivial | exact GB_fits rfl | constructor)); first | done | fail)⟩ ?_) | (refine vcall_out (l :=  [0, 3, 4, 5, 10]) (c3 ) ⟨rfl, rfl, rfl, rfl, (by (repeat' (first | exact trivial | exact GB_wf | exact fun _ _ => rfl | constructor)); first | done | fail), (by (repeat' (first | exact trivial | exact GB_fits rfl | constructor)); first | done | fail)⟩ ?_) | (refine vcallD_out (l :=  [0, 3, 4, 5, 10]) (c3 ) ⟨rfl, rfl, rfl, rfl, (by (repeat' (first | exact trivial | exact GB_wf | exact fun _ _ => rfl | constructor)); first | done | fail), (by (repeat' (first | exact trivial | exact GB_fits rfl | constructor)); first | done | fail)⟩ ?_) | (refine vcall_out (l :=  [0, 7, 1, 11]) (c4 ) ⟨rfl, rfl, rfl, rfl, (by (repeat' (first | exact trivial | exact GB_wf | exact fun _ _ => rfl | constructor)); first | done | fail), (by (repeat' (first | exact trivial | exact GB_fits rfl | constructor)); first | done | fail)⟩ ?_) | (refine vcallD_out (l :=  [0, 7, 1, 11]) (c4 ) ⟨rfl, rfl, rfl, rfl, (by (repeat' (first | exact trivial | exact GB_wf | exact fun _ _ => rfl | constructor)); first | done | fail), (by (repeat' (first | exact trivial | exact GB_fits rfl | constructor)); first | done | fail)⟩ ?_) | (refine vcall_out (l :=  [0, 3, 4, 5, 10]) (c5 ) ⟨rfl, rfl, rfl, rfl, (by (repeat' (first | exact trivial | exact GB_wf | exact fun _ _ => rfl | constructor)); first | done | fail), (by (repeat' (first | exact trivial | exact GB_fits rfl | constructor)); first | done | fail)⟩ ?_) | (refine vcallD_out (l :=  [0, 3, 4, 5, 10]) (c5 ) ⟨rfl, rfl, rfl, rfl, (by (repeat' (first | exact trivial | exact GB_wf | exact fun _ _ => rfl | constructor)); first | done | fail), (by (repeat' (first | exact trivial | exact GB_fits rfl | constructor)); first | done | fail)⟩ ?_) | (refine vcall_out (l :=  [0, 7, 1, 11]) (c6 ) ⟨rfl, rfl, rfl, rfl, (by (repeat' (first | exact trivial | exact GB_wf | exact fun _ _ => rfl | constructor)); first | done | fail), (by (repeat' (first | exact trivial | exact GB_fits rfl | constructor)); first | done | fail)⟩ ?_) | (refine vcallD_out (l :=  [0, 7, 1, 11]) (c6 ) ⟨rfl, rfl, rfl, rfl, (by (repeat' (first | exact trivial | exact GB_wf | exact fun _ _ => rfl | constructor)); first | done | fail), (by (repeat' (first | exact trivial | exact GB_fits rfl | constructor)); first | done | fail)⟩ ?_) | (refine br_dec (fun h => ?_) (fun h => ?_) <;> try (exfalso; (try dsimp only at h); omega)) | (refine br_ndec (fun h => ?_) (fun h => ?_) <;> try (exfalso; (try dsimp only at h); omega)) | refine br_seq (fun h => ?_) (fun h => ?_) | refine br_nseq (fun h => ?_) (fun h => ?_) | refine br_not (fun h => ?_) (fun h => ?_) | refine br_intro (fun h => ?_) (fun h => ?_) | refine cond_intro rfl ?_ | (refine cond_intro ⟨rfl, ?_⟩ ?_; (first | omega | (dsimp only; omega) | decide)) | (refine cond_intro ?_ ?_; (first | omega | (dsimp only; omega) | decide | (simp only [Nat.add_zero, Int.toNat_natCast, *]; omega))))
  all_goals (conv => whnf)
  all_goals first
    | (exfalso; omega)
    | (exfalso; revert h; cases nb <;> simp; done)
    | exact hN _ ⟨[0, 1, 2, 3, 4, 5, 10, 7, 11], [], ⟨rfl, ⟨rfl, rfl, rfl, congrArg (fun z => some (SV.int .i64 z)) (i64_succ (by omega)), trivial⟩, ⟨rfl, rfl, rfl, rfl, rfl, rfl, rfl, rfl, trivial⟩⟩⟩
    | trace_state
set_option maxHeartbeats 1000000 in
theorem lc_recv (hk3 : (q0.getD i 0).tmod 4 = 1) (hs : (q4.getD i ⟨#[]⟩).size ≤ 5000) :
    vcode Try.prog T 3 (lpc Try.f5 1) ⟨lcE F l1 i, lcH F l1 q0 q1 q2 q3 q4 pa la d, 9⟩ K := by
  obtain ⟨Q, qn, nw, se, W⟩ := d
  obtain ⟨e1, e2, e3⟩ := hd
  dsimp only at e1 e2 e3
  have _ := hF
  obtain ⟨r1, r2, r3⟩ := rep_recv e1 (q1.getD i 0)
  have hdn : (W.due (q1.getD i 0)).Nodup := (sortI_perm _).symm.nodup (e1.nd.filter _)
  have hGl : (catT Q (W.due (q1.getD i 0))).length ≤ 256 := by
    rw [catT_len Q _ hdn]
    exact Nat.le_trans (List.countP_le_length ..) (by omega)
  have hFl : (Q.filter (fun a => decide (q1.getD i 0 < a.t))).length ≤ 256 := Nat.le_trans (List.length_filter_le _ _) (by omega)
  have c1 := lk_Receive ⟨pa, la, F, nw, se, W⟩ (q1.getD i 0) (e1.ok (by omega)) e1.nd (by have := e1.n_le; dsimp only; omega)
  have c2 := rl_Receive pa la F.n nw se (q1.getD i 0) Q qn e2 (by omega) (W.due (q1.getD i 0)) (due_asc e1.nd _) (fun a ha => by rw [due_mem, e1.mem]; exact ⟨fun h => ⟨⟨a, ha, rfl⟩, h⟩, fun h => h.2⟩) _ _ rfl rfl _ _ rfl rfl _ rfl
  unfold rvO at c1
  dsimp only at c1
  rw [r2, r3] at c1
  have enw : Lk.rnw ⟨pa, la, F, nw, se, W⟩ (q1.getD i 0) = max nw (min (q1.getD i 0) 1099511627776) := rfl
  rw [enw] at c1
  generalize max nw (min (q1.getD i 0) 1099511627776) = nw2 at *
  generalize W.dels (W.due (q1.getD i 0)) (W.due (q1.getD i 0)).length = W' at *
  generalize Q.filter (fun a => decide (q1.getD i 0 < a.t)) = Q' at *
  generalize catT Q (W.due (q1.getD i 0)) = G at *
  have c7 := alike_true G.length (arOf G) (by omega)
  replace hN := hN _ (show LcOk ⟨Q', Q'.length, nw2, se, W'⟩ from ⟨r1, rfl, hFl⟩)
  have c3 := lk_Next ⟨pa, la, F, nw2, se, W'⟩ r1.kl
  have c4 := rl_Next pa la F.n nw2 se _ _ r1 (by omega)
  have c5 := lk_Sent ⟨pa, la, F, nw2, se, W'⟩
  have c6 := rl_Sent pa la F.n nw2 se Q'.length
  dsimp only at c1 c2 c3 c4 c5 c6
  unfold lcH at hN
  dsimp only at hN
  generalize lmin W'.ks = mi at *
  generalize decide (0 < W'.n) = nb at *
  generalize Q'.length = kn at *
  generalize arOf Q' = ka at *
  generalize G.length = gn at *
  generalize arOf G = ga at *
  have hk0 : (q0.getD ((i : Int).toNat + 0) 0).tmod 4 = 1 := hk3
  have hs0 : (q4.getD ((i : Int).toNat + 0) ⟨#[]⟩).size ≤ 5000 := hs
  repeat' ((conv => whnf); first | (refine vcall_out (l :=  [0, 3, 4, 5, 6]) (c1 ) ⟨rfl, rfl, rfl, rfl, (by (repeat' (first | exact trivial | exact GB_wf | exact fun _ _ => rfl | constructor)); first | done | fail), (by (repeat' (first | exact trivial | exact GB_fits rfl | constructor)); first | done | fail)⟩ ?_) | (refine vcallD_out (l :=  [0, 3, 4, 5, 6]) (c1 ) ⟨rfl, rfl, rfl, rfl, (by (repeat' (first | exact trivial | exact GB_wf | exact fun _ _ => rfl | constructor)); first | done | fail), (by (repeat' (first | exact trivial | exact GB_fits rfl | constructor)); first | done | fail)⟩ ?_) | (refine vcall_out (l :=  [0, 7, 1, 8]) (c2 ) ⟨rfl, rfl, rfl, rfl, (by (repeat' (first | exact trivial | exact GB_wf | exact fun _ _ => rfl | constructor)); first | done | fail), (by (repeat' (first | exact trivial | exact GB_fits rfl | constructor)); first | done | fail)⟩ ?_) | (refine vcallD_out (l :=  [0, 7, 1, 8]) (c2 ) ⟨rfl, rfl, rfl, rfl, (by (repeat' (first | exact trivial | exact GB_wf | exact fun _ _ => rfl | constructor)); first | done | fail), (by (repeat' (first | exact trivial | exact GB_fits rfl | constructor)); first | done | fail)⟩ ?_) | (refine vcall_out (l :=  [0, 11, 13]) (c7 ) ⟨rfl, rfl, rfl, rfl, (by (repeat' (first | exact trivial | exact GB_wf | exact fun _ _ => rfl | constructor)); first | done | fail), (by (repeat' (first | exact trivial | exact GB_fits rfl | constructor)); first | done | fail)⟩ ?_) | (refine vcallD_out (l :=  [0, 11, 13]) (c7 ) ⟨rfl, rfl, rfl, rfl, (by (repeat' (first | exact trivial | exact GB_wf | exact fun _ _ => rfl | constructor)); first | done | fail), (by (repeat' (first | exact trivial | exact GB_fits rfl | constructor)); first | done | fail)⟩ ?_) | (refine vcall_out (l :=  [0, 3, 4, 5, 10]) (c3 ) ⟨rfl, rfl, rfl, rfl, (by (repeat' (first | exact trivial | exact GB_wf | exact fun _ _ => rfl | constructor)); first | done | fail), (by (repeat' (first | exact trivial | exact GB_fits rfl | constructor)); first | done | fail)⟩ ?_) | (refine vcallD_out (l :=  [0, 3, 4, 5, 10]) (c3 ) ⟨rfl, rfl, rfl, rfl, (by (repeat' (first | exact trivial | exact GB_wf | exact fun _ _ => rfl | constructor)); first | done | fail), (by (repeat' (first | exact trivial | exact GB_fits rfl | constructor)); first | done | fail)⟩ ?_) | (refine vcall_out (l :=  [0, 7, 1, 12]) (c4 ) ⟨rfl, rfl, rfl, rfl, (by (repeat' (first | exact trivial | exact GB_wf | exact fun _ _ => rfl | constructor)); first | done | fail), (by (repeat' (first | exact trivial | exact GB_fits rfl | constructor)); first | done | fail)⟩ ?_) | (refine vcallD_out (l :=  [0, 7, 1, 12]) (c4 ) ⟨rfl, rfl, rfl, rfl, (by (repeat' (first | exact trivial | exact GB_wf | exact fun _ _ => rfl | constructor)); first | done | fail), (by (repeat' (first | exact trivial | exact GB_fits rfl | constructor)); first | done | fail)⟩ ?_) | (refine vcall_out (l :=  [0, 3, 4, 5, 10]) (c5 ) ⟨rfl, rfl, rfl, rfl, (by (repeat' (first | exact trivial | exact GB_wf | exact fun _ _ => rfl | constructor)); first | done | fail), (by (repeat' (first | exact trivial | exact GB_fits rfl | constructor)); first | done | fail)⟩ ?_) | (refine vcallD_out (l :=  [0, 3, 4, 5, 10]) (c5 ) ⟨rfl, rfl, rfl, rfl, (by (repeat' (first | exact trivial | exact GB_wf | exact fun _ _ => rfl | constructor)); first | done | fail), (by (repeat' (first | exact trivial | exact GB_fits rfl | constructor)); first | done | fail)⟩ ?_) | (refine vcall_out (l :=  [0, 7, 1, 12]) (c6 ) ⟨rfl, rfl, rfl, rfl, (by (repeat' (first | exact trivial | exact GB_wf | exact fun _ _ => rfl | constructor)); first | done | fail), (by (repeat' (first | exact trivial | exact GB_fits rfl | constructor)); first | done | fail)⟩ ?_) | (refine vcallD_out (l :=  [0, 7, 1, 12]) (c6 ) ⟨rfl, rfl, rfl, rfl, (by (repeat' (first | exact trivial | exact GB_wf | exact fun _ _ => rfl | constructor)); first | done | fail), (by (repeat' (first | exact trivial | exact GB_fits rfl | constructor)); first | done | fail)⟩ ?_) | (refine br_dec (fun h => ?_) (fun h => ?_) <;> try (exfalso; (try dsimp only at h); omega)) | (refine br_ndec (fun h => ?_) (fun h => ?_) <;> try (exfalso; (try dsimp only at h); omega)) | refine br_seq (fun h => ?_) (fun h => ?_) | refine br_nseq (fun h => ?_) (fun h => ?_) | refine br_not (fun h => ?_) (fun h => ?_) | refine br_intro (fun h => ?_) (fun h => ?_) | refine cond_intro rfl ?_ | (refine cond_intro ⟨rfl, ?_⟩ ?_; (first | omega | (dsimp only; omega) | decide)) | (refine cond_intro ?_ ?_; (first | omega | (dsimp only; omega) | decide | (simp only [Nat.add_zero, Int.toNat_natCast, *]; omega))))
  all_goals (conv => whnf)
  all_goals first
    | (exfalso; omega)
    | (exfalso; revert h; cases nb <;> simp; done)
    | exact hN _ ⟨[0, 1, 2, 3, 4, 5, 10, 7, 12], [], ⟨rfl, ⟨rfl, rfl, rfl, congrArg (fun z => some (SV.int .i64 z)) (i64_succ (by omega)), trivial⟩, ⟨rfl, rfl, rfl, rfl, rfl, rfl, rfl, rfl, trivial⟩⟩⟩
    | trace_state
end
end Go.Proofs.Ytpconbdoackcfaa

/- The law on calls of links: rounds that send. -/
namespace Go.Proofs.Ytpconbdoackcfaa
open Go.RowKit Go.Sy
attribute [local irreducible] vcall vloop vcallD retP sortI
set_option maxRecDepth 100000
set_option linter.unusedVariables false
set_option linter.unusedSimpArgs false

theorem rep_mk {W : Wy} {Q : List Av} (h : Rep W Q) (x y k : Int) (s : ByteArray) (al : List Int) : Rep (W.puts al x y k s al.length) (Q ++ mkA al x y k s) := by
  have key : ∀ i, i ≤ al.length → Rep (W.puts al x y k s i) (Q ++ mkA (al.take i) x y k s) := by
    intro i
    induction i with
    | zero => intro _; rw [List.take_zero]; simpa [Wy.puts, mkA] using h
    | succ i ih =>
      intro hi
      have eg : al.getD i 0 = al[i] := by simp [List.getD, (show i < al.length by omega)]
      have := rep_put (ih (by omega)) ⟨al[i], x, y, k, s⟩
      rw [List.take_succ_eq_append_getElem (by omega)]
      simp only [Wy.puts, eg]
      unfold mkA at this ⊢
      rw [List.map_append, ← List.append_assoc]
      exact this
  have := key al.length (Nat.le_refl _)
  rwa [List.take_length] at this
section
variable (F : Fa) (hF : F.n ≤ 32) (l1 : Nat) (hl1 : l1 ≤ 100) (q0 q1 q2 q3 : List Int) (q4 : List ByteArray) (pa la : Int) (i : Nat) (hi : i < l1) (d : Lc) (hd : LcOk d) (K : Exit → VS → Prop)
    (hN : ∀ d', LcOk d' → ∀ v, (∃ l u, upK u v (fun v => Weak 3 l v ⟨lcE F l1 (i + 1), lcH F l1 q0 q1 q2 q3 q4 pa la d', 9⟩)) → K .normal v)
include hF hl1 hi hd hN
set_option maxHeartbeats 1000000 in
theorem lc_send (hk3 : (q0.getD i 0).tmod 4 = 0) (hs : (q4.getD i ⟨#[]⟩).size ≤ 5000) :
    vcode Try.prog T 3 (lpc Try.f5 1) ⟨lcE F l1 i, lcH F l1 q0 q1 q2 q3 q4 pa la d, 9⟩ K := by
  obtain ⟨Q, qn, nw, se, W⟩ := d
  obtain ⟨e1, e2, e3⟩ := hd
  dsimp only at e1 e2 e3
  have hk0 : (q0.getD ((i : Int).toNat + 0) 0).tmod 4 = 0 := hk3
  have hs0 : (q4.getD ((i : Int).toNat + 0) ⟨#[]⟩).size ≤ 5000 := hs
  have hsum := e1.sum (show Q.length ≤ 1000 by omega)
  have hE : Lk.sdE ⟨pa, la, F, nw, se, W⟩ (q1.getD i 0) (q2.getD i 0) (q3.getD i 0) (q4.getD i ⟨#[]⟩) = rlE pa nw qn (F.tn (q1.getD i 0) (q2.getD i 0) (q3.getD i 0)) (q1.getD i 0) (q2.getD i 0) (q3.getD i 0) (q4.getD i ⟨#[]⟩) := by
    rw [sdE_rl]
    dsimp only
    rw [hsum, e2]
  have hwok := e1.ok (show Q.length ≤ 1000 by omega)
  by_cases he : rlE pa nw qn (F.tn (q1.getD i 0) (q2.getD i 0) (q3.getD i 0)) (q1.getD i 0) (q2.getD i 0) (q3.getD i 0) (q4.getD i ⟨#[]⟩) = 0
  case neg =>
    have c1 := lk_Send_err ⟨pa, la, F, nw, se, W⟩ (q1.getD i 0) (q2.getD i 0) (q3.getD i 0) (q4.getD i ⟨#[]⟩) (by dsimp only; omega) hwok (by rw [hE]; exact he)
    have c2 := rl_Send_err pa la F nw se qn (arOf Q) (q1.getD i 0) (q2.getD i 0) (q3.getD i 0) (q4.getD i ⟨#[]⟩) (by omega) (by omega) he
    rw [hE] at c1
    replace hN := hN _ (show LcOk ⟨Q, qn, nw, se, W⟩ from ⟨e1, e2, e3⟩)
    have c3 := lk_Next ⟨pa, la, F, nw, se, W⟩ e1.kl
    have c4 := rl_Next pa la F.n nw se W Q e1 (by omega)
    have c5 := lk_Sent ⟨pa, la, F, nw, se, W⟩
    have c6 := rl_Sent pa la F.n nw se qn
    rw [e2] at c4
    dsimp only at c1 c2 c3 c4 c5 c6
    generalize rlE pa nw qn (F.tn (q1.getD i 0) (q2.getD i 0) (q3.getD i 0)) (q1.getD i 0) (q2.getD i 0) (q3.getD i 0) (q4.getD i ⟨#[]⟩) = ee at *
    generalize lmin W.ks = mi at *
    generalize decide (0 < W.n) = nb at *
    repeat' ((conv => whnf); first | (refine vcall_out (l :=  [0, 3, 4, 5, 6]) (c1 ) ⟨rfl, rfl, rfl, rfl, (by (repeat' (first | exact trivial | exact GB_wf | exact fun _ _ => rfl | constructor)); first | done | fail), (by (repeat' (first | exact trivial | exact GB_fits rfl | constructor)); first | done | fail)⟩ ?_) | (refine vcallD_out (l :=  [0, 3, 4, 5, 6]) (c1 ) ⟨rfl, rfl, rfl, rfl, (by (repeat' (first | exact trivial | exact GB_wf | exact fun _ _ => rfl | constructor)); first | done | fail), (by (repeat' (first | exact trivial | exact GB_fits rfl | constructor)); first | done | fail)⟩ ?_) | (refine vcall_out (l :=  [0, 7, 1, 8]) (c2 ) ⟨rfl, rfl, rfl, rfl, (by (repeat' (first | exact trivial | exact GB_wf | exact fun _ _ => rfl | constructor)); first | done | fail), (by (repeat' (first | exact trivial | exact GB_fits rfl | constructor)); first | done | fail)⟩ ?_) | (refine vcallD_out (l :=  [0, 7, 1, 8]) (c2 ) ⟨rfl, rfl, rfl, rfl, (by (repeat' (first | exact trivial | exact GB_wf | exact fun _ _ => rfl | constructor)); first | done | fail), (by (repeat' (first | exact trivial | exact GB_fits rfl | constructor)); first | done | fail)⟩ ?_) | (refine vcall_out (l :=  [0, 3, 4, 5, 6]) (c3 ) ⟨rfl, rfl, rfl, rfl, (by (repeat' (first | exact trivial | exact GB_wf | exact fun _ _ => rfl | constructor)); first | done | fail), (by (repeat' (first | exact trivial | exact GB_fits rfl | constructor)); first | done | fail)⟩ ?_) | (refine vcallD_out (l :=  [0, 3, 4, 5, 6]) (c3 ) ⟨rfl, rfl, rfl, rfl, (by (repeat' (first | exact trivial | exact GB_wf | exact fun _ _ => rfl | constructor)); first | done | fail), (by (repeat' (first | exact trivial | exact GB_fits rfl | constructor)); first | done | fail)⟩ ?_) | (refine vcall_out (l :=  [0, 7, 1, 8]) (c4 ) ⟨rfl, rfl, rfl, rfl, (by (repeat' (first | exact trivial | exact GB_wf | exact fun _ _ => rfl | constructor)); first | done | fail), (by (repeat' (first | exact trivial | exact GB_fits rfl | constructor)); first | done | fail)⟩ ?_) | (refine vcallD_out (l :=  [0, 7, 1, 8]) (c4 ) ⟨rfl, rfl, rfl, rfl, (by (repeat' (first | exact trivial | exact GB_wf | exact fun _ _ => rfl | constructor)); first | done | fail), (by (repeat' (first | exact trivial | exact GB_fits rfl | constructor)); first | done | fail)⟩ ?_) | (refine vcall_out (l :=  [0, 3, 4, 5, 6]) (c5 ) ⟨rfl, rfl, rfl, rfl, (by (repeat' (first | exact trivial | exact GB_wf | exact fun _ _ => rfl | constructor)); first | done | fail), (by (repeat' (first | exact trivial | exact GB_fits rfl | constructor)); first | done | fail)⟩ ?_) | (refine vcallD_out (l :=  [0, 3, 4, 5, 6]) (c5 ) ⟨rfl, rfl, rfl, rfl, (by (repeat' (first | exact trivial | exact GB_wf | exact fun _ _ => rfl | constructor)); first | done | fail), (by (repeat' (first | exact trivial | exact GB_fits rfl | constructor)); first | done | fail)⟩ ?_) | (refine vcall_out (l :=  [0, 7, 1, 8]) (c6 ) ⟨rfl, rfl, rfl, rfl, (by (repeat' (first | exact trivial | exact GB_wf | exact fun _ _ => rfl | constructor)); first | done | fail), (by (repeat' (first | exact trivial | exact GB_fits rfl | constructor)); first | done | fail)⟩ ?_) | (refine vcallD_out (l :=  [0, 7, 1, 8]) (c6 ) ⟨rfl, rfl, rfl, rfl, (by (repeat' (first | exact trivial | exact GB_wf | exact fun _ _ => rfl | constructor)); first | done | fail), (by (repeat' (first | exact trivial | exact GB_fits rfl | constructor)); first | done | fail)⟩ ?_) | (refine br_dec (fun h => ?_) (fun h => ?_) <;> try (exfalso; (try dsimp only at h); omega)) | (refine br_ndec (fun h => ?_) (fun h => ?_) <;> try (exfalso; (try dsimp only at h); omega)) | refine br_seq (fun h => ?_) (fun h => ?_) | refine br_nseq (fun h => ?_) (fun h => ?_) | refine br_not (fun h => ?_) (fun h => ?_) | refine br_intro (fun h => ?_) (fun h => ?_) | refine cond_intro rfl ?_ | (refine cond_intro ⟨rfl, ?_⟩ ?_; (first | omega | (dsimp only; omega) | decide)) | (refine cond_intro ?_ ?_; (first | omega | (dsimp only; omega) | decide | (simp only [Nat.add_zero, Int.toNat_natCast, *]; omega))))
    all_goals (conv => whnf)
    all_goals first
      | (exfalso; omega)
      | (exfalso; revert h; cases nb <;> simp; done)
      | exact hN _ ⟨[0, 1, 2, 3, 4, 5, 6, 7, 8], [], ⟨rfl, ⟨rfl, rfl, rfl, congrArg (fun z => some (SV.int .i64 z)) (i64_succ (by omega)), trivial⟩, ⟨rfl, rfl, rfl, rfl, rfl, rfl, rfl, rfl, trivial⟩⟩⟩
      | trace_state
  obtain ⟨_, _, _, k7, k8, k9⟩ := rlE_zero he
  cases hl : F.lost (q1.getD i 0) (q2.getD i 0) (q3.getD i 0) F.n with
  | true =>
    have c1 := lk_Send_lost ⟨pa, la, F, nw, se, W⟩ (q1.getD i 0) (q2.getD i 0) (q3.getD i 0) (q4.getD i ⟨#[]⟩) (by dsimp only; omega) hwok (by rw [hE]; exact he) hl
    have c2 := rl_Send_lost pa la F nw se qn (arOf Q) (q1.getD i 0) (q2.getD i 0) (q3.getD i 0) (q4.getD i ⟨#[]⟩) (by omega) (by omega) he hl
    have ea : (ar0.cat qn (arOf Q)).cat 0 ar0 = arOf Q := by
      have h := cat_two Q [] e2 (show ([] : List Av).length = 0 from rfl)
      rw [List.append_nil] at h
      exact h
    rw [ea, show 0 + qn + 0 = qn by omega] at c2
    replace hN := hN _ (show LcOk ⟨Q, qn, q1.getD i 0, IntKind.i64.wrap (se + 1), W⟩ from ⟨e1, e2, e3⟩)
    have c3 := lk_Next ⟨pa, la, F, q1.getD i 0, IntKind.i64.wrap (se + 1), W⟩ e1.kl
    have c4 := rl_Next pa la F.n (q1.getD i 0) (IntKind.i64.wrap (se + 1)) W Q e1 (by omega)
    have c5 := lk_Sent ⟨pa, la, F, q1.getD i 0, IntKind.i64.wrap (se + 1), W⟩
    have c6 := rl_Sent pa la F.n (q1.getD i 0) (IntKind.i64.wrap (se + 1)) qn
    rw [e2] at c4
    dsimp only at c1 c2 c3 c4 c5 c6
    generalize IntKind.i64.wrap (se + 1) = se2 at *
    generalize lmin W.ks = mi at *
    generalize decide (0 < W.n) = nb at *
    repeat' ((conv => whnf); first | (refine vcall_out (l :=  [0, 3, 4, 5, 6]) (c1 ) ⟨rfl, rfl, rfl, rfl, (by (repeat' (first | exact trivial | exact GB_wf | exact fun _ _ => rfl | constructor)); first | done | fail), (by (repeat' (first | exact trivial | exact GB_fits rfl | constructor)); first | done | fail)⟩ ?_) | (refine vcallD_out (l :=  [0, 3, 4, 5, 6]) (c1 ) ⟨rfl, rfl, rfl, rfl, (by (repeat' (first | exact trivial | exact GB_wf | exact fun _ _ => rfl | constructor)); first | done | fail), (by (repeat' (first | exact trivial | exact GB_fits rfl | constructor)); first | done | fail)⟩ ?_) | (refine vcall_out (l :=  [0, 7, 1, 8]) (c2 ) ⟨rfl, rfl, rfl, rfl, (by (repeat' (first | exact trivial | exact GB_wf | exact fun _ _ => rfl | constructor)); first | done | fail), (by (repeat' (first | exact trivial | exact GB_fits rfl | constructor)); first | done | fail)⟩ ?_) | (refine vcallD_out (l :=  [0, 7, 1, 8]) (c2 ) ⟨rfl, rfl, rfl, rfl, (by (repeat' (first | exact trivial | exact GB_wf | exact fun _ _ => rfl | constructor)); first | done | fail), (by (repeat' (first | exact trivial | exact GB_fits rfl | constructor)); first | done | fail)⟩ ?_) | (refine vcall_out (l :=  [0, 3, 4, 5, 6]) (c3 ) ⟨rfl, rfl, rfl, rfl, (by (repeat' (first | exact trivial | exact GB_wf | exact fun _ _ => rfl | constructor)); first | done | fail), (by (repeat' (first | exact trivial | exact GB_fits rfl | constructor)); first | done | fail)⟩ ?_) | (refine vcallD_out (l :=  [0, 3, 4, 5, 6]) (c3 ) ⟨rfl, rfl, rfl, rfl, (by (repeat' (first | exact trivial | exact GB_wf | exact fun _ _ => rfl | constructor)); first | done | fail), (by (repeat' (first | exact trivial | exact GB_fits rfl | constructor)); first | done | fail)⟩ ?_) | (refine vcall_out (l :=  [0, 7, 1, 10]) (c4 ) ⟨rfl, rfl, rfl, rfl, (by (repeat' (first | exact trivial | exact GB_wf | exact fun _ _ => rfl | constructor)); first | done | fail), (by (repeat' (first | exact trivial | exact GB_fits rfl | constructor)); first | done | fail)⟩ ?_) | (refine vcallD_out (l :=  [0, 7, 1, 10]) (c4 ) ⟨rfl, rfl, rfl, rfl, (by (repeat' (first | exact trivial | exact GB_wf | exact fun _ _ => rfl | constructor)); first | done | fail), (by (repeat' (first | exact trivial | exact GB_fits rfl | constructor)); first | done | fail)⟩ ?_) | (refine vcall_out (l :=  [0, 3, 4, 5, 6]) (c5 ) ⟨rfl, rfl, rfl, rfl, (by (repeat' (first | exact trivial | exact GB_wf | exact fun _ _ => rfl | constructor)); first | done | fail), (by (repeat' (first | exact trivial | exact GB_fits rfl | constructor)); first | done | fail)⟩ ?_) | (refine vcallD_out (l :=  [0, 3, 4, 5, 6]) (c5 ) ⟨rfl, rfl, rfl, rfl, (by (repeat' (first | exact trivial | exact GB_wf | exact fun _ _ => rfl | constructor)); first | done | fail), (by (repeat' (first | exact trivial | exact GB_fits rfl | constructor)); first | done | fail)⟩ ?_) | (refine vcall_out (l :=  [0, 7, 1, 10]) (c6 ) ⟨rfl, rfl, rfl, rfl, (by (repeat' (first | exact trivial | exact GB_wf | exact fun _ _ => rfl | constructor)); first | done | fail), (by (repeat' (first | exact trivial | exact GB_fits rfl | constructor)); first | done | fail)⟩ ?_) | (refine vcallD_out (l :=  [0, 7, 1, 10]) (c6 ) ⟨rfl, rfl, rfl, rfl, (by (repeat' (first | exact trivial | exact GB_wf | exact fun _ _ => rfl | constructor)); first | done | fail), (by (repeat' (first | exact trivial | exact GB_fits rfl | constructor)); first | done | fail)⟩ ?_) | (refine br_dec (fun h => ?_) (fun h => ?_) <;> try (exfalso; (try dsimp only at h); omega)) | (refine br_ndec (fun h => ?_) (fun h => ?_) <;> try (exfalso; (try dsimp only at h); omega)) | refine br_seq (fun h => ?_) (fun h => ?_) | refine br_nseq (fun h => ?_) (fun h => ?_) | refine br_not (fun h => ?_) (fun h => ?_) | refine br_intro (fun h => ?_) (fun h => ?_) | refine cond_intro rfl ?_ | (refine cond_intro ⟨rfl, ?_⟩ ?_; (first | omega | (dsimp only; omega) | decide)) | (refine cond_intro ?_ ?_; (first | omega | (dsimp only; omega) | decide | (simp only [Nat.add_zero, Int.toNat_natCast, *]; omega))))
    all_goals (conv => whnf)
    all_goals first
      | (exfalso; omega)
      | (exfalso; revert h; cases nb <;> simp; done)
      | exact hN _ ⟨[0, 1, 2, 3, 4, 5, 6, 7, 10], [], ⟨rfl, ⟨rfl, rfl, rfl, congrArg (fun z => some (SV.int .i64 z)) (i64_succ (by omega)), trivial⟩, ⟨rfl, rfl, rfl, rfl, rfl, rfl, rfl, rfl, trivial⟩⟩⟩
      | trace_state
  | false =>
    have hll : (Lk.al ⟨pa, la, F, nw, se, W⟩ (q1.getD i 0) (q2.getD i 0) (q3.getD i 0)).length = F.cn (q1.getD i 0) (q2.getD i 0) (q3.getD i 0) F.n + 1 := by
      unfold Lk.al Fa.al
      dsimp only
      rw [List.length_cons, List.length_map, List.length_take, cp_len, Nat.min_self]
    have c1 := lk_Send_ok ⟨pa, la, F, nw, se, W⟩ (q1.getD i 0) (q2.getD i 0) (q3.getD i 0) (q4.getD i ⟨#[]⟩) (by dsimp only; omega) hwok (by rw [hE]; exact he) hl
    have c2 := rl_Send_ok pa la F nw se qn (arOf Q) (q1.getD i 0) (q2.getD i 0) (q3.getD i 0) (q4.getD i ⟨#[]⟩) (by omega) (by omega) he hl (Lk.al ⟨pa, la, F, nw, se, W⟩ (q1.getD i 0) (q2.getD i 0) (q3.getD i 0)).length hll (arOf (mkA (Lk.al ⟨pa, la, F, nw, se, W⟩ (q1.getD i 0) (q2.getD i 0) (q3.getD i 0)) (q2.getD i 0) (q3.getD i 0) (IntKind.i64.wrap (se + 1)) (q4.getD i ⟨#[]⟩))) rfl
    unfold Lk.sdW lkO at c1
    dsimp only at c1
    rw [← hll] at c1
    unfold Fa.tn at k9
    rw [if_neg (by rw [hl]; decide), ← hll] at k9
    generalize Lk.al ⟨pa, la, F, nw, se, W⟩ (q1.getD i 0) (q2.getD i 0) (q3.getD i 0) = al at *
    have hrep := rep_mk e1 (q2.getD i 0) (q3.getD i 0) (IntKind.i64.wrap (se + 1)) (q4.getD i ⟨#[]⟩) al
    have hml : (mkA al (q2.getD i 0) (q3.getD i 0) (IntKind.i64.wrap (se + 1)) (q4.getD i ⟨#[]⟩)).length = al.length := by unfold mkA; rw [List.length_map]
    rw [cat_two Q _ e2 hml] at c2
    have hlen : (Q ++ mkA al (q2.getD i 0) (q3.getD i 0) (IntKind.i64.wrap (se + 1)) (q4.getD i ⟨#[]⟩)).length = 0 + qn + al.length := by rw [List.length_append, hml]; omega
    generalize IntKind.i64.wrap (se + 1) = se2 at *
    generalize Q ++ mkA al (q2.getD i 0) (q3.getD i 0) se2 (q4.getD i ⟨#[]⟩) = Q' at *
    generalize W.puts al (q2.getD i 0) (q3.getD i 0) se2 (q4.getD i ⟨#[]⟩) al.length = W' at *
    have hqn : 0 + qn + al.length ≤ 256 := by omega
    generalize 0 + qn + al.length = qn' at *
    replace hN := hN _ (show LcOk ⟨Q', qn', q1.getD i 0, se2, W'⟩ from ⟨hrep, hlen, by dsimp only; omega⟩)
    have c3 := lk_Next ⟨pa, la, F, q1.getD i 0, se2, W'⟩ hrep.kl
    have c4 := rl_Next pa la F.n (q1.getD i 0) se2 W' Q' hrep (by omega)
    have c5 := lk_Sent ⟨pa, la, F, q1.getD i 0, se2, W'⟩
    have c6 := rl_Sent pa la F.n (q1.getD i 0) se2 qn'
    rw [hlen] at c4
    dsimp only at c1 c2 c3 c4 c5 c6
    generalize lmin W'.ks = mi at *
    generalize decide (0 < W'.n) = nb at *
    repeat' ((conv => whnf); first | (refine vcall_out (l :=  [0, 3, 4, 5, 6]) (c1 ) ⟨rfl, rfl, rfl, rfl, (by (repeat' (first | exact trivial | exact GB_wf | exact fun _ _ => rfl | constructor)); first | done | fail), (by (repeat' (first | exact trivial | exact GB_fits rfl | constructor)); first | done | fail)⟩ ?_) | (refine vcallD_out (l :=  [0, 3, 4, 5, 6]) (c1 ) ⟨rfl, rfl, rfl, rfl, (by (repeat' (first | exact trivial | exact GB_wf | exact fun _ _ => rfl | constructor)); first | done | fail), (by (repeat' (first | exact trivial | exact GB_fits rfl | constructor)); first | done | fail)⟩ ?_) | (refine vcall_out (l :=  [0, 7, 1, 8]) (c2 ) ⟨rfl, rfl, rfl, rfl, (by (repeat' (first | exact trivial | exact GB_wf | exact fun _ _ => rfl | constructor)); first | done | fail), (by (repeat' (first | exact trivial | exact GB_fits rfl | constructor)); first | done | fail)⟩ ?_) | (refine vcallD_out (l :=  [0, 7, 1, 8]) (c2 ) ⟨rfl, rfl, rfl, rfl, (by (repeat' (first | exact trivial | exact GB_wf | exact fun _ _ => rfl | constructor)); first | done | fail), (by (repeat' (first | exact trivial | exact GB_fits rfl | constructor)); first | done | fail)⟩ ?_) | (refine vcall_out (l :=  [0, 3, 4, 5, 10]) (c3 ) ⟨rfl, rfl, rfl, rfl, (by (repeat' (first | exact trivial | exact GB_wf | exact fun _ _ => rfl | constructor)); first | done | fail), (by (repeat' (first | exact trivial | exact GB_fits rfl | constructor)); first | done | fail)⟩ ?_) | (refine vcallD_out (l :=  [0, 3, 4, 5, 10]) (c3 ) ⟨rfl, rfl, rfl, rfl, (by (repeat' (first | exact trivial | exact GB_wf | exact fun _ _ => rfl | constructor)); first | done | fail), (by (repeat' (first | exact trivial | exact GB_fits rfl | constructor)); first | done | fail)⟩ ?_) | (refine vcall_out (l :=  [0, 7, 1, 11]) (c4 ) ⟨rfl, rfl, rfl, rfl, (by (repeat' (first | exact trivial | exact GB_wf | exact fun _ _ => rfl | constructor)); first | done | fail), (by (repeat' (first | exact trivial | exact GB_fits rfl | constructor)); first | done | fail)⟩ ?_) | (refine vcallD_out (l :=  [0, 7, 1, 11]) (c4 ) ⟨rfl, rfl, rfl, rfl, (by (repeat' (first | exact trivial | exact GB_wf | exact fun _ _ => rfl | constructor)); first | done | fail), (by (repeat' (first | exact trivial | exact GB_fits rfl | constructor)); first | done | fail)⟩ ?_) | (refine vcall_out (l :=  [0, 3, 4, 5, 10]) (c5 ) ⟨rfl, rfl, rfl, rfl, (by (repeat' (first | exact trivial | exact GB_wf | exact fun _ _ => rfl | constructor)); first | done | fail), (by (repeat' (first | exact trivial | exact GB_fits rfl | constructor)); first | done | fail)⟩ ?_) | (refine vcallD_out (l :=  [0, 3, 4, 5, 10]) (c5 ) ⟨rfl, rfl, rfl, rfl, (by (repeat' (first | exact trivial | exact GB_wf | exact fun _ _ => rfl | constructor)); first | done | fail), (by (repeat' (first | exact trivial | exact GB_fits rfl | constructor)); first | done | fail)⟩ ?_) | (refine vcall_out (l :=  [0, 7, 1, 11]) (c6 ) ⟨rfl, rfl, rfl, rfl, (by (repeat' (first | exact trivial | exact GB_wf | exact fun _ _ => rfl | constructor)); first | done | fail), (by (repeat' (first | exact trivial | exact GB_fits rfl | constructor)); first | done | fail)⟩ ?_) | (refine vcallD_out (l :=  [0, 7, 1, 11]) (c6 ) ⟨rfl, rfl, rfl, rfl, (by (repeat' (first | exact trivial | exact GB_wf | exact fun _ _ => rfl | constructor)); first | done | fail), (by (repeat' (first | exact trivial | exact GB_fits rfl | constructor)); first | done | fail)⟩ ?_) | (refine br_dec (fun h => ?_) (fun h => ?_) <;> try (exfalso; (try dsimp only at h); omega)) | (refine br_ndec (fun h => ?_) (fun h => ?_) <;> try (exfalso; (try dsimp only at h); omega)) | refine br_seq (fun h => ?_) (fun h => ?_) | refine br_nseq (fun h => ?_) (fun h => ?_) | refine br_not (fun h => ?_) (fun h => ?_) | refine br_intro (fun h => ?_) (fun h => ?_) | refine cond_intro rfl ?_ | (refine cond_intro ⟨rfl, ?_⟩ ?_; (first | omega | (dsimp only; omega) | decide)) | (refine cond_intro ?_ ?_; (first | omega | (dsimp only; omega) | decide | (simp only [Nat.add_zero, Int.toNat_natCast, *]; omega))))
    all_goals (conv => whnf)
    all_goals first
      | (exfalso; omega)
      | (exfalso; revert h; cases nb <;> simp; done)
      | exact hN _ ⟨[0, 1, 2, 3, 4, 5, 10, 7, 11], [], ⟨rfl, ⟨rfl, rfl, rfl, congrArg (fun z => some (SV.int .i64 z)) (i64_succ (by omega)), trivial⟩, ⟨rfl, rfl, rfl, rfl, rfl, rfl, rfl, rfl, trivial⟩⟩⟩
      | trace_state
end
end Go.Proofs.Ytpconbdoackcfaa

/- The law on calls of links, joined. -/
namespace Go.Proofs.Ytpconbdoackcfaa
open Go.RowKit Go.Sy
attribute [local irreducible] vcall vloop vcallD retP sortI
set_option maxRecDepth 100000
set_option linter.unusedVariables false
set_option linter.unusedSimpArgs false

theorem lnE_zero {p l : Int} {F : Fa} (h : lnE p l F = 0) : F.n ≤ 32 := by
  unfold lnE at h
  repeat' split at h
  all_goals first
    | omega
    | (exfalso; revert h; decide)
set_option maxHeartbeats 1000000 in
theorem lc_core (pa la : Int) (F : Fa) (ho : F.Ok) (l1 : Nat) (q0 q1 q2 q3 : List Int) (q4 : List ByteArray) (w0 : ∀ x ∈ q0, (Lit.int .u8 x).wf = true) :
    FC Try.prog 3 5 [.int .i64 pa, .int .i64 la, .sl 1 0 0 F.n, .sl 2 0 0 l1] [(1, some (faB true F)), (2, some (lcT l1 q0 q1 q2 q3 q4))] (isOut (.bool true) [] 3) := by
  have aw := lk_awake
  have p1 := lk_SendN 0 0 1 ⟨#[]⟩
  have p2 := lk_NextN
  have p3 := lk_ReceiveN 9
  have p4 := lk_DropN 0
  have p5 := lk_CutN 0 0 1
  have p6 := lk_SentN
  by_cases hlim : F.n ≤ 40 ∧ l1 ≤ 100
  case neg =>
    refine fc_of mixed T_ok Try.func5 rfl (by kernel_rfl) (by kernel_rfl) (by kernel_rfl) ?_
    repeat' ((conv => whnf); first | (refine vcall_pure (aw) rfl rfl rfl ?_) | (refine vcallD_pure (aw) rfl rfl rfl ?_) | (refine br_dec (fun h => ?_) (fun h => ?_) <;> try (exfalso; (try dsimp only at h); omega)) | (refine br_ndec (fun h => ?_) (fun h => ?_) <;> try (exfalso; (try dsimp only at h); omega)) | refine br_seq (fun h => ?_) (fun h => ?_) | refine br_nseq (fun h => ?_) (fun h => ?_) | refine br_not (fun h => ?_) (fun h => ?_) | refine br_intro (fun h => ?_) (fun h => ?_) | refine cond_intro rfl ?_ | (refine cond_intro ⟨rfl, ?_⟩ ?_; (first | omega | (dsimp only; omega) | decide)) | (refine cond_intro ?_ ?_; (first | omega | (dsimp only; omega) | decide | (simp only [Nat.add_zero, Int.toNat_natCast, *]; omega))))
    all_goals (conv => whnf)
    all_goals first
      | exact ret_out (l := [0, 1, 2]) rfl rfl trivial allRw_nil
      | (exfalso; omega)
      | trace_state
  obtain ⟨h40, h100⟩ := hlim
  by_cases he : lnE pa la F = 0
  case neg =>
    have cn := lk_New_err pa la F he
    have rn := rl_New_err pa la F he
    generalize lnE pa la F = ee at *
    refine fc_of mixed T_ok Try.func5 rfl (by kernel_rfl) (by kernel_rfl) (by kernel_rfl) ?_
    repeat' ((conv => whnf); first | (refine vcall_pure (aw) rfl rfl rfl ?_) | (refine vcallD_pure (aw) rfl rfl rfl ?_) | (refine vcall_out (l :=  [0, 1]) (cn ) ⟨rfl, rfl, rfl, rfl, (by (repeat' (first | exact trivial | exact GB_wf | exact fun _ _ => rfl | constructor)); first | done | fail), (by (repeat' (first | exact trivial | exact GB_fits rfl | constructor)); first | done | fail)⟩ ?_) | (refine vcallD_out (l :=  [0, 1]) (cn ) ⟨rfl, rfl, rfl, rfl, (by (repeat' (first | exact trivial | exact GB_wf | exact fun _ _ => rfl | constructor)); first | done | fail), (by (repeat' (first | exact trivial | exact GB_fits rfl | constructor)); first | done | fail)⟩ ?_) | (refine vcall_out (l :=  [0, 1]) (rn ) ⟨rfl, rfl, rfl, rfl, (by (repeat' (first | exact trivial | exact GB_wf | exact fun _ _ => rfl | constructor)); first | done | fail), (by (repeat' (first | exact trivial | exact GB_fits rfl | constructor)); first | done | fail)⟩ ?_) | (refine vcallD_out (l :=  [0, 1]) (rn ) ⟨rfl, rfl, rfl, rfl, (by (repeat' (first | exact trivial | exact GB_wf | exact fun _ _ => rfl | constructor)); first | done | fail), (by (repeat' (first | exact trivial | exact GB_fits rfl | constructor)); first | done | fail)⟩ ?_) | (refine br_dec (fun h => ?_) (fun h => ?_) <;> try (exfalso; (try dsimp only at h); omega)) | (refine br_ndec (fun h => ?_) (fun h => ?_) <;> try (exfalso; (try dsimp only at h); omega)) | refine br_seq (fun h => ?_) (fun h => ?_) | refine br_nseq (fun h => ?_) (fun h => ?_) | refine br_not (fun h => ?_) (fun h => ?_) | refine br_intro (fun h => ?_) (fun h => ?_) | refine cond_intro rfl ?_ | (refine cond_intro ⟨rfl, ?_⟩ ?_; (first | omega | (dsimp only; omega) | decide)) | (refine cond_intro ?_ ?_; (first | omega | (dsimp only; omega) | decide | (simp only [Nat.add_zero, Int.toNat_natCast, *]; omega))))
    all_goals (conv => whnf)
    all_goals first
      | (exfalso; omega)
      | skip
    refine vloop_lp (fun j : Nat => ⟨[(0, .int .i64 pa), (2, .sl 1 0 0 F.n), (3, .sl 2 0 0 l1), (9, .nptr), (13, .int .i64 j)], [(1, some (faB true F)), (2, some (lcT l1 q0 q1 q2 q3 q4))], 3⟩) (fun j => j ≤ F.n) (fun j => F.n - j) 0 [0, 1, 2] [] ⟨rfl, ⟨rfl, rfl, rfl, rfl, rfl, trivial⟩, ⟨rfl, rfl, trivial⟩⟩ (Nat.zero_le _) ?_
    intro j hj
    have k1 := lk_Check pa (F.k.getD j 0) (F.a.getD j 0) (F.b.getD j 0) (F.f.getD j 0) (F.u.getD j 0) (F.e.getD j 0)
    have k2 := rl_Check pa (F.k.getD j 0) (F.a.getD j 0) (F.b.getD j 0) (F.f.getD j 0) (F.u.getD j 0) (F.e.getD j 0)
    generalize ckE pa (F.k.getD j 0) (F.a.getD j 0) (F.b.getD j 0) (F.f.getD j 0) (F.u.getD j 0) (F.e.getD j 0) = ck at *
    repeat' ((conv => whnf); first | (refine vcall_pure (k1) rfl rfl rfl ?_) | (refine vcallD_pure (k1) rfl rfl rfl ?_) | (refine vcall_pure (k2) rfl rfl rfl ?_) | (refine vcallD_pure (k2) rfl rfl rfl ?_) | (refine br_dec (fun h => ?_) (fun h => ?_) <;> try (exfalso; (try dsimp only at h); omega)) | (refine br_ndec (fun h => ?_) (fun h => ?_) <;> try (exfalso; (try dsimp only at h); omega)) | refine br_seq (fun h => ?_) (fun h => ?_) | refine br_nseq (fun h => ?_) (fun h => ?_) | refine br_not (fun h => ?_) (fun h => ?_) | refine br_intro (fun h => ?_) (fun h => ?_) | refine cond_intro rfl ?_ | (refine cond_intro ⟨rfl, ?_⟩ ?_; (first | omega | (dsimp only; omega) | decide)) | (refine cond_intro ?_ ?_; (first | omega | (dsimp only; omega) | decide | (simp only [Nat.add_zero, Int.toNat_natCast, *]; omega))))
    all_goals (conv => whnf)
    all_goals first
      | exact ⟨j + 1, [0, 1, 2], [], (show j + 1 ≤ F.n by omega), (show F.n - (j + 1) < F.n - j by omega), ⟨rfl, ⟨rfl, rfl, rfl, rfl, congrArg (fun z => some (SV.int .i64 z)) (i64_succ (by omega)), trivial⟩, ⟨rfl, rfl, trivial⟩⟩⟩
      | (exfalso; omega)
      | skip
    refine vloop_lp (fun _ : Unit => ⟨[(3, .sl 2 0 0 l1), (9, .nptr), (14, .int .i64 0)], [(1, some (faB true F)), (2, some (lcT l1 q0 q1 q2 q3 q4))], 3⟩) (fun _ => True) (fun _ => 0) () [0, 1, 2] [] ⟨rfl, ⟨rfl, rfl, rfl, trivial⟩, ⟨rfl, rfl, trivial⟩⟩ trivial ?_
    intro _ _
    repeat' ((conv => whnf); first | (refine vcall_pure (aw) rfl rfl rfl ?_) | (refine vcallD_pure (aw) rfl rfl rfl ?_) | (refine vcall_pure (p1) rfl rfl rfl ?_) | (refine vcallD_pure (p1) rfl rfl rfl ?_) | (refine vcall_pure (p2) rfl rfl rfl ?_) | (refine vcallD_pure (p2) rfl rfl rfl ?_) | (refine vcall_pure (p3) rfl rfl rfl ?_) | (refine vcallD_pure (p3) rfl rfl rfl ?_) | (refine vcall_pure (p4) rfl rfl rfl ?_) | (refine vcallD_pure (p4) rfl rfl rfl ?_) | (refine vcall_pure (p5) rfl rfl rfl ?_) | (refine vcallD_pure (p5) rfl rfl rfl ?_) | (refine vcall_pure (p6) rfl rfl rfl ?_) | (refine vcallD_pure (p6) rfl rfl rfl ?_) | (refine br_dec (fun h => ?_) (fun h => ?_) <;> try (exfalso; (try dsimp only at h); omega)) | (refine br_ndec (fun h => ?_) (fun h => ?_) <;> try (exfalso; (try dsimp only at h); omega)) | refine br_seq (fun h => ?_) (fun h => ?_) | refine br_nseq (fun h => ?_) (fun h => ?_) | refine br_not (fun h => ?_) (fun h => ?_) | refine br_intro (fun h => ?_) (fun h => ?_) | refine cond_intro rfl ?_ | (refine cond_intro ⟨rfl, ?_⟩ ?_; (first | omega | (dsimp only; omega) | decide)) | (refine cond_intro ?_ ?_; (first | omega | (dsimp only; omega) | decide | (simp only [Nat.add_zero, Int.toNat_natCast, *]; omega))))
    all_goals (conv => whnf)
    all_goals first
      | exact ret_out (l := [0, 1, 2]) rfl rfl trivial allRw_nil
      | (exfalso; omega)
      | trace_state
  have h32 := lnE_zero he
  have cn := lk_New_ok pa la F he ho
  have rn := rl_New_ok pa la F he
  refine fc_of mixed T_ok Try.func5 rfl (by kernel_rfl) (by kernel_rfl) (by kernel_rfl) ?_
  repeat' ((conv => whnf); first | (refine vcall_pure (aw) rfl rfl rfl ?_) | (refine vcallD_pure (aw) rfl rfl rfl ?_) | (refine vcall_out (l :=  [0, 1]) (cn ) ⟨rfl, rfl, rfl, rfl, (by (repeat' (first | exact trivial | exact GB_wf | exact fun _ _ => rfl | constructor)); first | done | fail), (by (repeat' (first | exact trivial | exact GB_fits rfl | constructor)); first | done | fail)⟩ ?_) | (refine vcallD_out (l :=  [0, 1]) (cn ) ⟨rfl, rfl, rfl, rfl, (by (repeat' (first | exact trivial | exact GB_wf | exact fun _ _ => rfl | constructor)); first | done | fail), (by (repeat' (first | exact trivial | exact GB_fits rfl | constructor)); first | done | fail)⟩ ?_) | (refine vcall_out (l :=  [0, 1]) (rn ) ⟨rfl, rfl, rfl, rfl, (by (repeat' (first | exact trivial | exact GB_wf | exact fun _ _ => rfl | constructor)); first | done | fail), (by (repeat' (first | exact trivial | exact GB_fits rfl | constructor)); first | done | fail)⟩ ?_) | (refine vcallD_out (l :=  [0, 1]) (rn ) ⟨rfl, rfl, rfl, rfl, (by (repeat' (first | exact trivial | exact GB_wf | exact fun _ _ => rfl | constructor)); first | done | fail), (by (repeat' (first | exact trivial | exact GB_fits rfl | constructor)); first | done | fail)⟩ ?_) | (refine br_dec (fun h => ?_) (fun h => ?_) <;> try (exfalso; (try dsimp only at h); omega)) | (refine br_ndec (fun h => ?_) (fun h => ?_) <;> try (exfalso; (try dsimp only at h); omega)) | refine br_seq (fun h => ?_) (fun h => ?_) | refine br_nseq (fun h => ?_) (fun h => ?_) | refine br_not (fun h => ?_) (fun h => ?_) | refine br_intro (fun h => ?_) (fun h => ?_) | refine cond_intro rfl ?_ | (refine cond_intro ⟨rfl, ?_⟩ ?_; (first | omega | (dsimp only; omega) | decide)) | (refine cond_intro ?_ ?_; (first | omega | (dsimp only; omega) | decide | (simp only [Nat.add_zero, Int.toNat_natCast, *]; omega))))
  all_goals (conv => whnf)
  all_goals first
    | (exfalso; omega)
    | skip
  refine vloop_lp (fun j : Nat => ⟨[(0, .int .i64 pa), (2, .sl 1 0 0 F.n), (3, .sl 2 0 0 l1), (9, .ptr 3 0 0 0), (11, .ptr 7 0 0 0), (13, .int .i64 j)], lcH F l1 q0 q1 q2 q3 q4 pa la ⟨[], 0, 0, 0, wy0⟩, 9⟩) (fun j => j ≤ F.n) (fun j => F.n - j) 0 [0, 1, 2, 3, 4, 5, 6, 7, 8] [] ⟨rfl, ⟨rfl, rfl, rfl, rfl, rfl, rfl, trivial⟩, ⟨rfl, rfl, rfl, rfl, rfl, rfl, rfl, rfl, trivial⟩⟩ (Nat.zero_le _) ?_
  intro j hj
  have k1 := lk_Check pa (F.k.getD j 0) (F.a.getD j 0) (F.b.getD j 0) (F.f.getD j 0) (F.u.getD j 0) (F.e.getD j 0)
  have k2 := rl_Check pa (F.k.getD j 0) (F.a.getD j 0) (F.b.getD j 0) (F.f.getD j 0) (F.u.getD j 0) (F.e.getD j 0)
  generalize ckE pa (F.k.getD j 0) (F.a.getD j 0) (F.b.getD j 0) (F.f.getD j 0) (F.u.getD j 0) (F.e.getD j 0) = ck at *
  repeat' ((conv => whnf); first | (refine vcall_pure (k1) rfl rfl rfl ?_) | (refine vcallD_pure (k1) rfl rfl rfl ?_) | (refine vcall_pure (k2) rfl rfl rfl ?_) | (refine vcallD_pure (k2) rfl rfl rfl ?_) | (refine br_dec (fun h => ?_) (fun h => ?_) <;> try (exfalso; (try dsimp only at h); omega)) | (refine br_ndec (fun h => ?_) (fun h => ?_) <;> try (exfalso; (try dsimp only at h); omega)) | refine br_seq (fun h => ?_) (fun h => ?_) | refine br_nseq (fun h => ?_) (fun h => ?_) | refine br_not (fun h => ?_) (fun h => ?_) | refine br_intro (fun h => ?_) (fun h => ?_) | refine cond_intro rfl ?_ | (refine cond_intro ⟨rfl, ?_⟩ ?_; (first | omega | (dsimp only; omega) | decide)) | (refine cond_intro ?_ ?_; (first | omega | (dsimp only; omega) | decide | (simp only [Nat.add_zero, Int.toNat_natCast, *]; omega))))
  all_goals (conv => whnf)
  all_goals first
    | exact ⟨j + 1, [0, 1, 2, 3, 4, 5, 6, 7, 8], [], (show j + 1 ≤ F.n by omega), (show F.n - (j + 1) < F.n - j by omega), ⟨rfl, ⟨rfl, rfl, rfl, rfl, rfl, congrArg (fun z => some (SV.int .i64 z)) (i64_succ (by omega)), trivial⟩, ⟨rfl, rfl, rfl, rfl, rfl, rfl, rfl, rfl, trivial⟩⟩⟩
    | (exfalso; omega)
    | skip
  refine vloop_lp (fun x : Nat × Lc => ⟨lcE F l1 x.1, lcH F l1 q0 q1 q2 q3 q4 pa la x.2, 9⟩) (fun x => x.1 ≤ l1 ∧ LcOk x.2) (fun x => l1 - x.1) (0, ⟨[], 0, 0, 0, wy0⟩) [0, 1, 2, 3, 4, 5, 6, 7, 8] [] ⟨rfl, ⟨rfl, rfl, rfl, rfl, trivial⟩, ⟨rfl, rfl, rfl, rfl, rfl, rfl, rfl, rfl, trivial⟩⟩ ⟨Nat.zero_le _, ⟨rep_nil, rfl, by decide⟩⟩ ?_
  rintro ⟨i, d⟩ ⟨hi, hd⟩
  dsimp only at hi hd
  by_cases hi2 : i < l1
  · by_cases hs : (q4.getD i ⟨#[]⟩).size ≤ 5000
    · have b0 := u8_at w0 i
      have hkk : (q0.getD i 0).tmod 4 = 0 ∨ (q0.getD i 0).tmod 4 = 1 ∨ (q0.getD i 0).tmod 4 = 2 ∨ (q0.getD i 0).tmod 4 = 3 := by
        rw [Int.tmod_eq_emod_of_nonneg b0.1]; omega
      rcases hkk with hk | hk | hk | hk
      · exact lc_send F h32 l1 h100 q0 q1 q2 q3 q4 pa la i hi2 d hd _ (fun d' hd' v ⟨l, us, h⟩ => ⟨(i + 1, d'), l, us, ⟨hi2, hd'⟩, (by dsimp only; omega), h⟩) hk hs
      · exact lc_recv F h32 l1 h100 q0 q1 q2 q3 q4 pa la i hi2 d hd _ (fun d' hd' v ⟨l, us, h⟩ => ⟨(i + 1, d'), l, us, ⟨hi2, hd'⟩, (by dsimp only; omega), h⟩) hk hs
      · exact lc_drop F h32 l1 h100 q0 q1 q2 q3 q4 pa la i hi2 d hd _ (fun d' hd' v ⟨l, us, h⟩ => ⟨(i + 1, d'), l, us, ⟨hi2, hd'⟩, (by dsimp only; omega), h⟩) hk hs
      · exact lc_cut F h32 l1 h100 q0 q1 q2 q3 q4 pa la i hi2 d hd _ (fun d' hd' v ⟨l, us, h⟩ => ⟨(i + 1, d'), l, us, ⟨hi2, hd'⟩, (by dsimp only; omega), h⟩) hk hs
    · have hs0 : ¬ (q4.getD ((i : Int).toNat + 0) ⟨#[]⟩).size ≤ 5000 := hs
      show vcode _ _ _ _ ⟨lcE F l1 i, lcH F l1 q0 q1 q2 q3 q4 pa la d, 9⟩ _
      repeat' ((conv => whnf); first | (refine vcall_pure (aw) rfl rfl rfl ?_) | (refine vcallD_pure (aw) rfl rfl rfl ?_) | (refine br_dec (fun h => ?_) (fun h => ?_) <;> try (exfalso; (try dsimp only at h); omega)) | (refine br_ndec (fun h => ?_) (fun h => ?_) <;> try (exfalso; (try dsimp only at h); omega)) | refine br_seq (fun h => ?_) (fun h => ?_) | refine br_nseq (fun h => ?_) (fun h => ?_) | refine br_not (fun h => ?_) (fun h => ?_) | refine br_intro (fun h => ?_) (fun h => ?_) | refine cond_intro rfl ?_ | (refine cond_intro ⟨rfl, ?_⟩ ?_; (first | omega | (dsimp only; omega) | decide)) | (refine cond_intro ?_ ?_; (first | omega | (dsimp only; omega) | decide | (simp only [Nat.add_zero, Int.toNat_natCast, *]; omega))))
      all_goals (conv => whnf)
      all_goals first
        | exact ret_out (l := [0, 1, 2]) rfl rfl trivial allRw_nil
        | (exfalso; omega)
        | trace_state
  · have ei : i = l1 := by omega
    subst ei
    show vcode _ _ _ _ ⟨lcE F i i, lcH F i q0 q1 q2 q3 q4 pa la d, 9⟩ _
    repeat' ((conv => whnf); first | (refine vcall_pure (aw) rfl rfl rfl ?_) | (refine vcallD_pure (aw) rfl rfl rfl ?_) | (refine vcall_pure (p1) rfl rfl rfl ?_) | (refine vcallD_pure (p1) rfl rfl rfl ?_) | (refine vcall_pure (p2) rfl rfl rfl ?_) | (refine vcallD_pure (p2) rfl rfl rfl ?_) | (refine vcall_pure (p3) rfl rfl rfl ?_) | (refine vcallD_pure (p3) rfl rfl rfl ?_) | (refine vcall_pure (p4) rfl rfl rfl ?_) | (refine vcallD_pure (p4) rfl rfl rfl ?_) | (refine vcall_pure (p5) rfl rfl rfl ?_) | (refine vcallD_pure (p5) rfl rfl rfl ?_) | (refine vcall_pure (p6) rfl rfl rfl ?_) | (refine vcallD_pure (p6) rfl rfl rfl ?_) | (refine br_dec (fun h => ?_) (fun h => ?_) <;> try (exfalso; (try dsimp only at h); omega)) | (refine br_ndec (fun h => ?_) (fun h => ?_) <;> try (exfalso; (try dsimp only at h); omega)) | refine br_seq (fun h => ?_) (fun h => ?_) | refine br_nseq (fun h => ?_) (fun h => ?_) | refine br_not (fun h => ?_) (fun h => ?_) | refine br_intro (fun h => ?_) (fun h => ?_) | refine cond_intro rfl ?_ | (refine cond_intro ⟨rfl, ?_⟩ ?_; (first | omega | (dsimp only; omega) | decide)) | (refine cond_intro ?_ ?_; (first | omega | (dsimp only; omega) | decide | (simp only [Nat.add_zero, Int.toNat_natCast, *]; omega))))
    all_goals (conv => whnf)
    all_goals first
      | exact ret_out (l := [0, 1, 2]) rfl rfl trivial allRw_nil
      | (exfalso; omega)
      | trace_state
end Go.Proofs.Ytpconbdoackcfaa

/- The law on calls: any calls of a link with any faults; for all arguments. -/
namespace Go.Proofs.Ytpconbdoackcfaa
open Go.RowKit Go.Sy
set_option linter.unusedVariables false

theorem linkCalls_fc (n0 : Int) (hw0 : (Lit.int .i64 n0).wf = true) (n1 : Int) (hw1 : (Lit.int .i64 n1).wf = true) (l2 : Nat) (hl2 : l2 ≤ maxLen) (q2_0 : List Int) (eq2_0 : q2_0.length = l2) (wq2_0 : ∀ x ∈ q2_0, (Lit.int .i64 x).wf = true) (q2_1 : List Int) (eq2_1 : q2_1.length = l2) (wq2_1 : ∀ x ∈ q2_1, (Lit.int .i64 x).wf = true) (q2_2 : List Int) (eq2_2 : q2_2.length = l2) (wq2_2 : ∀ x ∈ q2_2, (Lit.int .i64 x).wf = true) (q2_3 : List Int) (eq2_3 : q2_3.length = l2) (wq2_3 : ∀ x ∈ q2_3, (Lit.int .i64 x).wf = true) (q2_4 : List Int) (eq2_4 : q2_4.length = l2) (wq2_4 : ∀ x ∈ q2_4, (Lit.int .i64 x).wf = true) (q2_5 : List Int) (eq2_5 : q2_5.length = l2) (wq2_5 : ∀ x ∈ q2_5, (Lit.int .i64 x).wf = true) (l3 : Nat) (hl3 : l3 ≤ maxLen) (q3_0 : List Int) (eq3_0 : q3_0.length = l3) (wq3_0 : ∀ x ∈ q3_0, (Lit.int .u8 x).wf = true) (q3_1 : List Int) (eq3_1 : q3_1.length = l3) (wq3_1 : ∀ x ∈ q3_1, (Lit.int .i64 x).wf = true) (q3_2 : List Int) (eq3_2 : q3_2.length = l3) (wq3_2 : ∀ x ∈ q3_2, (Lit.int .i64 x).wf = true) (q3_3 : List Int) (eq3_3 : q3_3.length = l3) (wq3_3 : ∀ x ∈ q3_3, (Lit.int .i64 x).wf = true) (q3_4 : List ByteArray) (eq3_4 : q3_4.length = l3) (wq3_4 : ∀ x ∈ q3_4, x.size ≤ maxLen) :
    FC Try.prog 3 5 [.int .i64 n0, .int .i64 n1, .sl 1 0 0 l2, .sl 2 0 0 l3] [(1, some (.one true (.cols l2 [.sc (.ints .i64 q2_0), .sc (.ints .i64 q2_1), .sc (.ints .i64 q2_2), .sc (.ints .i64 q2_3), .sc (.ints .i64 q2_4), .sc (.ints .i64 q2_5)]))), (2, some (.one true (.cols l3 [.sc (.ints .u8 q3_0), .sc (.ints .i64 q3_1), .sc (.ints .i64 q3_2), .sc (.ints .i64 q3_3), .sc (.strs q3_4)])))] (isOut (.bool true) [] 3) :=  lc_core n0 n1 ⟨l2, q2_0, q2_1, q2_2, q2_3, q2_4, q2_5⟩ ⟨eq2_0, eq2_1, eq2_2, eq2_3, eq2_4, eq2_5⟩ l3 q3_0 q3_1 q3_2 q3_3 q3_4 wq3_0
end Go.Proofs.Ytpconbdoackcfaa

