/- Contracts of package link: the times of arrival. -/
import Derived.Test.YtpconbdoackcfaaLkC3
namespace Go.Proofs.Ytpconbdoackcfaa
open Go.RowKit Go.Sy
attribute [local irreducible] vcall vloop vcallD retP
set_option maxRecDepth 100000
set_option linter.unusedVariables false
set_option linter.unusedSimpArgs false

theorem act_split {F : Fa} {t x y : Int} {k : Nat} : (F.act t x y k = true ∧ ifB (F.f.getD k 0) (F.u.getD k 0) t = true ∧ cnB (F.k.getD k 0) (F.a.getD k 0) (F.b.getD k 0) x y = true) ∨ (F.act t x y k = false ∧ (ifB (F.f.getD k 0) (F.u.getD k 0) t = false ∨ (ifB (F.f.getD k 0) (F.u.getD k 0) t = true ∧ cnB (F.k.getD k 0) (F.a.getD k 0) (F.b.getD k 0) x y = false))) := by
  unfold Fa.act
  cases ifB (F.f.getD k 0) (F.u.getD k 0) t <;> cases cnB (F.k.getD k 0) (F.a.getD k 0) (F.b.getD k 0) x y <;> simp
abbrev tmS (L : Lk) (t x y : Int) (k : Nat) : VS := ⟨[(1, .int .i64 t), (2, .int .i64 x), (3, .int .i64 y), (9, .int .i64 (L.F.arr t x y (IntKind.i64.wrap (t + L.la)) k)), (10, .sl 5 0 0 (L.F.cn t x y k)), (25, .sl 2 0 0 L.F.n), (26, .int .i64 L.F.n), (27, .int .i64 k)], (5, some (.one false (.cols (L.F.cn t x y k) [.sc (.ints .i64 (L.F.cp t x y k))]))) :: lkR L, 6⟩
/-- A round of the faults, where the text is not lost. -/
theorem tm_round (L : Lk) (t x y : Int) (hn : L.F.n ≤ 1000) (k : Nat) (hk2 : k < L.F.n) (hl : L.F.lost t x y k = false) (K : Exit → VS → Prop) (hN : L.F.lost t x y (k + 1) = false → ∀ v, (∃ l u, upK u v (fun v => Weak 5 l v (tmS L t x y (k + 1)))) → K .normal v) (hR : L.F.lost t x y (k + 1) = true → ∀ v, retK T 5 [.tmp 8] (isOut .nsl [] 5) .ret v → K .ret v) : vcode Try.prog T 5 (lpc Try.f26 0) (tmS L t x y k) K := by
  have c1 := lk_inForce (L.F.k.getD k 0) (L.F.a.getD k 0) (L.F.b.getD k 0) (L.F.f.getD k 0) (L.F.u.getD k 0) (L.F.e.getD k 0) t
  have c2 := lk_concerns (L.F.k.getD k 0) (L.F.a.getD k 0) (L.F.b.getD k 0) (L.F.f.getD k 0) (L.F.u.getD k 0) (L.F.e.getD k 0) x y
  have hcn := cn_le L.F t x y k
  have e1 : L.F.lost t x y (k + 1) = (L.F.act t x y k && decide (L.F.k.getD k 0 = 1 ∨ L.F.k.getD k 0 = 4)) := by simp only [Fa.lost, hl, Bool.false_or]
  have e2 : L.F.arr t x y (IntKind.i64.wrap (t + L.la)) (k + 1) = if (L.F.act t x y k && decide (L.F.k.getD k 0 = 2)) = true then IntKind.i64.wrap (L.F.arr t x y (IntKind.i64.wrap (t + L.la)) k + L.F.e.getD k 0) else L.F.arr t x y (IntKind.i64.wrap (t + L.la)) k := rfl
  have e3 : L.F.cp t x y (k + 1) = if (L.F.act t x y k && decide (L.F.k.getD k 0 = 3)) = true then L.F.cp t x y k ++ [L.F.e.getD k 0] else L.F.cp t x y k := rfl
  have e4 : L.F.cn t x y (k + 1) = if (L.F.act t x y k && decide (L.F.k.getD k 0 = 3)) = true then L.F.cn t x y k + 1 else L.F.cn t x y k := rfl
  unfold tmS at hN ⊢
  rw [e2, e3, e4, e1] at hN
  rw [e1] at hR
  clear e1 e2 e3 e4
  have hk0 : L.F.k.getD ((k : Int).toNat + 0) 0 = L.F.k.getD k 0 := rfl
  obtain ⟨kd, hkd⟩ : ∃ kd, kd = L.F.k.getD k 0 := ⟨_, rfl⟩
  rw [← hkd] at hN hR
  generalize L.F.arr t x y (IntKind.i64.wrap (t + L.la)) k = ar at *
  generalize L.F.cp t x y k = cp at *
  generalize L.F.cn t x y k = cn at *
  rcases act_split (F := L.F) (t := t) (x := x) (y := y) (k := k) with ⟨ha, hi, hc⟩ | ⟨ha, hi | ⟨hi, hc⟩⟩
  · rw [hi] at c1
    rw [hc] at c2
    rw [ha] at hN hR
    simp only [Bool.true_and] at hN hR
    by_cases k1 : kd = 1 ∨ kd = 4
    · replace hR := hR (decide_eq_true k1)
      clear hN
      repeat' ((conv => whnf); first | (refine vcall_pure (c1) rfl rfl rfl ?_) | (refine vcallD_pure (c1) rfl rfl rfl ?_) | (refine vcall_pure (c2) rfl rfl rfl ?_) | (refine vcallD_pure (c2) rfl rfl rfl ?_) | (refine br_dec (fun h => ?_) (fun h => ?_) <;> try (exfalso; (try dsimp only at h); omega)) | (refine br_ndec (fun h => ?_) (fun h => ?_) <;> try (exfalso; (try dsimp only at h); omega)) | refine br_seq (fun h => ?_) (fun h => ?_) | refine br_nseq (fun h => ?_) (fun h => ?_) | refine br_not (fun h => ?_) (fun h => ?_) | refine br_intro (fun h => ?_) (fun h => ?_) | refine cond_intro rfl ?_ | (refine cond_intro ⟨rfl, ?_⟩ ?_; (first | omega | (dsimp only; omega) | decide)) | (refine cond_intro ?_ ?_; (first | omega | (dsimp only; omega) | decide | (simp only [Nat.add_zero, Int.toNat_natCast, *]; omega))))
      all_goals (conv => whnf)
      all_goals first
        | (exfalso; omega)
        | (refine hR _ ?_; (conv => whnf); exact ret_out (l := [0, 1, 2, 3, 4]) rfl rfl trivial allRw_nil)
    · replace hN := hN (decide_eq_false k1)
      clear hR
      by_cases k2 : kd = 2
      · rw [if_pos (decide_eq_true k2), if_neg (by simp [k2]), if_neg (by simp [k2])] at hN
        repeat' ((conv => whnf); first | (refine vcall_pure (c1) rfl rfl rfl ?_) | (refine vcallD_pure (c1) rfl rfl rfl ?_) | (refine vcall_pure (c2) rfl rfl rfl ?_) | (refine vcallD_pure (c2) rfl rfl rfl ?_) | (refine br_dec (fun h => ?_) (fun h => ?_) <;> try (exfalso; (try dsimp only at h); omega)) | (refine br_ndec (fun h => ?_) (fun h => ?_) <;> try (exfalso; (try dsimp only at h); omega)) | refine br_seq (fun h => ?_) (fun h => ?_) | refine br_nseq (fun h => ?_) (fun h => ?_) | refine br_not (fun h => ?_) (fun h => ?_) | refine br_intro (fun h => ?_) (fun h => ?_) | refine cond_intro rfl ?_ | (refine cond_intro ⟨rfl, ?_⟩ ?_; (first | omega | (dsimp only; omega) | decide)) | (refine cond_intro ?_ ?_; (first | omega | (dsimp only; omega) | decide | (simp only [Nat.add_zero, Int.toNat_natCast, *]; omega))))
        all_goals (conv => whnf)
        all_goals first
          | (exfalso; omega)
          | exact hN _ ⟨[0, 1, 2, 3, 4, 5], [], ⟨rfl, ⟨rfl, rfl, rfl, rfl, rfl, rfl, rfl, congrArg (fun z => some (SV.int .i64 z)) (i64_succ (by omega)), trivial⟩, ⟨rfl, rfl, rfl, rfl, trivial⟩⟩⟩
      · by_cases k3 : kd = 3
        · rw [if_neg (by simp [k3]), if_pos (decide_eq_true k3), if_pos (decide_eq_true k3)] at hN
          repeat' ((conv => whnf); first | (refine vcall_pure (c1) rfl rfl rfl ?_) | (refine vcallD_pure (c1) rfl rfl rfl ?_) | (refine vcall_pure (c2) rfl rfl rfl ?_) | (refine vcallD_pure (c2) rfl rfl rfl ?_) | (refine br_dec (fun h => ?_) (fun h => ?_) <;> try (exfalso; (try dsimp only at h); omega)) | (refine br_ndec (fun h => ?_) (fun h => ?_) <;> try (exfalso; (try dsimp only at h); omega)) | refine br_seq (fun h => ?_) (fun h => ?_) | refine br_nseq (fun h => ?_) (fun h => ?_) | refine br_not (fun h => ?_) (fun h => ?_) | refine br_intro (fun h => ?_) (fun h => ?_) | refine cond_intro rfl ?_ | (refine cond_intro ⟨rfl, ?_⟩ ?_; (first | omega | (dsimp only; omega) | decide)) | (refine cond_intro ?_ ?_; (first | omega | (dsimp only; omega) | decide | (simp only [Nat.add_zero, Int.toNat_natCast, *]; omega))))
          all_goals (conv => whnf)
          all_goals first
            | (exfalso; omega)
            | exact hN _ ⟨[0, 1, 2, 3, 4, 8], [], ⟨rfl, ⟨rfl, rfl, rfl, rfl, rfl, rfl, rfl, congrArg (fun z => some (SV.int .i64 z)) (i64_succ (by omega)), trivial⟩, ⟨rfl, rfl, rfl, rfl, trivial⟩⟩⟩
        · rw [if_neg (by simpa using k2), if_neg (by simpa using k3), if_neg (by simpa using k3)] at hN
          repeat' ((conv => whnf); first | (refine vcall_pure (c1) rfl rfl rfl ?_) | (refine vcallD_pure (c1) rfl rfl rfl ?_) | (refine vcall_pure (c2) rfl rfl rfl ?_) | (refine vcallD_pure (c2) rfl rfl rfl ?_) | (refine br_dec (fun h => ?_) (fun h => ?_) <;> try (exfalso; (try dsimp only at h); omega)) | (refine br_ndec (fun h => ?_) (fun h => ?_) <;> try (exfalso; (try dsimp only at h); omega)) | refine br_seq (fun h => ?_) (fun h => ?_) | refine br_nseq (fun h => ?_) (fun h => ?_) | refine br_not (fun h => ?_) (fun h => ?_) | refine br_intro (fun h => ?_) (fun h => ?_) | refine cond_intro rfl ?_ | (refine cond_intro ⟨rfl, ?_⟩ ?_; (first | omega | (dsimp only; omega) | decide)) | (refine cond_intro ?_ ?_; (first | omega | (dsimp only; omega) | decide | (simp only [Nat.add_zero, Int.toNat_natCast, *]; omega))))
          all_goals (conv => whnf)
          all_goals first
            | (exfalso; omega)
            | exact hN _ ⟨[0, 1, 2, 3, 4, 5], [], ⟨rfl, ⟨rfl, rfl, rfl, rfl, rfl, rfl, rfl, congrArg (fun z => some (SV.int .i64 z)) (i64_succ (by omega)), trivial⟩, ⟨rfl, rfl, rfl, rfl, trivial⟩⟩⟩
  · rw [hi] at c1
    rw [ha] at hN
    simp only [Bool.false_and] at hN
    replace hN := hN trivial
    rw [if_neg (by decide), if_neg (by decide), if_neg (by decide)] at hN
    clear hR
    repeat' ((conv => whnf); first | (refine vcall_pure (c1) rfl rfl rfl ?_) | (refine vcallD_pure (c1) rfl rfl rfl ?_) | (refine vcall_pure (c2) rfl rfl rfl ?_) | (refine vcallD_pure (c2) rfl rfl rfl ?_) | (refine br_dec (fun h => ?_) (fun h => ?_) <;> try (exfalso; (try dsimp only at h); omega)) | (refine br_ndec (fun h => ?_) (fun h => ?_) <;> try (exfalso; (try dsimp only at h); omega)) | refine br_seq (fun h => ?_) (fun h => ?_) | refine br_nseq (fun h => ?_) (fun h => ?_) | refine br_not (fun h => ?_) (fun h => ?_) | refine br_intro (fun h => ?_) (fun h => ?_) | refine cond_intro rfl ?_ | (refine cond_intro ⟨rfl, ?_⟩ ?_; (first | omega | (dsimp only; omega) | decide)) | (refine cond_intro ?_ ?_; (first | omega | (dsimp only; omega) | decide | (simp only [Nat.add_zero, Int.toNat_natCast, *]; omega))))
    all_goals (conv => whnf)
    all_goals first
      | exact hN _ ⟨[0, 1, 2, 3, 4, 5], [], ⟨rfl, ⟨rfl, rfl, rfl, rfl, rfl, rfl, rfl, congrArg (fun z => some (SV.int .i64 z)) (i64_succ (by omega)), trivial⟩, ⟨rfl, rfl, rfl, rfl, trivial⟩⟩⟩
      | (exfalso; omega)
  · rw [hi] at c1
    rw [hc] at c2
    rw [ha] at hN
    simp only [Bool.false_and] at hN
    replace hN := hN trivial
    rw [if_neg (by decide), if_neg (by decide), if_neg (by decide)] at hN
    clear hR
    repeat' ((conv => whnf); first | (refine vcall_pure (c1) rfl rfl rfl ?_) | (refine vcallD_pure (c1) rfl rfl rfl ?_) | (refine vcall_pure (c2) rfl rfl rfl ?_) | (refine vcallD_pure (c2) rfl rfl rfl ?_) | (refine br_dec (fun h => ?_) (fun h => ?_) <;> try (exfalso; (try dsimp only at h); omega)) | (refine br_ndec (fun h => ?_) (fun h => ?_) <;> try (exfalso; (try dsimp only at h); omega)) | refine br_seq (fun h => ?_) (fun h => ?_) | refine br_nseq (fun h => ?_) (fun h => ?_) | refine br_not (fun h => ?_) (fun h => ?_) | refine br_intro (fun h => ?_) (fun h => ?_) | refine cond_intro rfl ?_ | (refine cond_intro ⟨rfl, ?_⟩ ?_; (first | omega | (dsimp only; omega) | decide)) | (refine cond_intro ?_ ?_; (first | omega | (dsimp only; omega) | decide | (simp only [Nat.add_zero, Int.toNat_natCast, *]; omega))))
    all_goals (conv => whnf)
    all_goals first
      | exact hN _ ⟨[0, 1, 2, 3, 4, 5], [], ⟨rfl, ⟨rfl, rfl, rfl, rfl, rfl, rfl, rfl, congrArg (fun z => some (SV.int .i64 z)) (i64_succ (by omega)), trivial⟩, ⟨rfl, rfl, rfl, rfl, trivial⟩⟩⟩
      | (exfalso; omega)
theorem lk_times_lost (L : Lk) (t x y : Int) (hn : L.F.n ≤ 1000) (hl : L.F.lost t x y L.F.n = true) : FC Try.prog 5 26 [.ptr 1 0 0 0, .int .i64 t, .int .i64 x, .int .i64 y] (lkR L) (isOut .nsl [] 5) := by
  refine fc_of mixed T_ok Try.func26 rfl (by kernel_rfl) (by kernel_rfl) (by kernel_rfl) ?_
  repeat' ((conv => whnf); first | (refine br_dec (fun h => ?_) (fun h => ?_) <;> try (exfalso; (try dsimp only at h); omega)) | (refine br_ndec (fun h => ?_) (fun h => ?_) <;> try (exfalso; (try dsimp only at h); omega)) | refine br_seq (fun h => ?_) (fun h => ?_) | refine br_nseq (fun h => ?_) (fun h => ?_) | refine br_not (fun h => ?_) (fun h => ?_) | refine br_intro (fun h => ?_) (fun h => ?_) | refine cond_intro rfl ?_ | (refine cond_intro ⟨rfl, ?_⟩ ?_; (first | omega | (dsimp only; omega) | decide)) | (refine cond_intro ?_ ?_; (first | omega | (dsimp only; omega) | decide | (simp only [Nat.add_zero, Int.toNat_natCast, *]; omega))))
  all_goals (conv => whnf)
  refine vloop_lp (tmS L t x y) (fun k => k ≤ L.F.n ∧ L.F.lost t x y k = false) (fun k => L.F.n - k) 0 [0, 1, 2, 3, 4, 5] [.slot 10 [.sc (.ints .i64 [])]] ⟨rfl, ⟨rfl, rfl, rfl, rfl, rfl, rfl, rfl, rfl, trivial⟩, ⟨rfl, rfl, rfl, rfl, trivial⟩⟩ ⟨Nat.zero_le _, rfl⟩ ?_
  rintro k ⟨hk, hf⟩
  by_cases hk2 : k < L.F.n
  · exact tm_round L t x y hn k hk2 hf _ (fun h v ⟨l, u, hw⟩ => ⟨k + 1, l, u, ⟨hk2, h⟩, (show L.F.n - (k + 1) < L.F.n - k by omega), hw⟩) (fun _ v h => h)
  · obtain rfl : k = L.F.n := by omega
    rw [hl] at hf; cases hf
/-- The times of arrival: of the text, then of the copies. -/
def Fa.al (a : Int) (cp : List Int) (k : Nat) : List Int := a :: (cp.take k).map (fun e => IntKind.i64.wrap (a + e))
theorem al_step {a : Int} {cp : List Int} {k : Nat} (h : k < cp.length) : Fa.al a cp (k + 1) = Fa.al a cp k ++ [IntKind.i64.wrap (a + cp.getD k 0)] := by
  unfold Fa.al
  rw [List.take_succ_eq_append_getElem h, List.map_append, List.cons_append]
  simp [List.getD, h]
theorem lk_times (L : Lk) (t x y : Int) (hn : L.F.n ≤ 1000) (hl : L.F.lost t x y L.F.n = false) : FC Try.prog 5 26 [.ptr 1 0 0 0, .int .i64 t, .int .i64 x, .int .i64 y] (lkR L) (isOut (.sl 5 0 0 (L.F.cn t x y L.F.n + 1)) [(5, some (.one false (.cols (L.F.cn t x y L.F.n + 1) [.sc (.ints .i64 (Fa.al (L.F.arr t x y (IntKind.i64.wrap (t + L.la)) L.F.n) (L.F.cp t x y L.F.n) (L.F.cn t x y L.F.n)))])))] 6) := by
  refine fc_of mixed T_ok Try.func26 rfl (by kernel_rfl) (by kernel_rfl) (by kernel_rfl) ?_
  repeat' ((conv => whnf); first | (refine br_dec (fun h => ?_) (fun h => ?_) <;> try (exfalso; (try dsimp only at h); omega)) | (refine br_ndec (fun h => ?_) (fun h => ?_) <;> try (exfalso; (try dsimp only at h); omega)) | refine br_seq (fun h => ?_) (fun h => ?_) | refine br_nseq (fun h => ?_) (fun h => ?_) | refine br_not (fun h => ?_) (fun h => ?_) | refine br_intro (fun h => ?_) (fun h => ?_) | refine cond_intro rfl ?_ | (refine cond_intro ⟨rfl, ?_⟩ ?_; (first | omega | (dsimp only; omega) | decide)) | (refine cond_intro ?_ ?_; (first | omega | (dsimp only; omega) | decide | (simp only [Nat.add_zero, Int.toNat_natCast, *]; omega))))
  all_goals (conv => whnf)
  refine vloop_lp (tmS L t x y) (fun k => k ≤ L.F.n ∧ L.F.lost t x y k = false) (fun k => L.F.n - k) 0 [0, 1, 2, 3, 4, 5] [.slot 10 [.sc (.ints .i64 [])]] ⟨rfl, ⟨rfl, rfl, rfl, rfl, rfl, rfl, rfl, rfl, trivial⟩, ⟨rfl, rfl, rfl, rfl, trivial⟩⟩ ⟨Nat.zero_le _, rfl⟩ ?_
  rintro k ⟨hk, hf⟩
  by_cases hk2 : k < L.F.n
  · exact tm_round L t x y hn k hk2 hf _ (fun h v ⟨l, u, hw⟩ => ⟨k + 1, l, u, ⟨hk2, h⟩, (show L.F.n - (k + 1) < L.F.n - k by omega), hw⟩) (fun h v hr => by
      have := lost_mono h L.F.n (by omega)
      rw [hl] at this; cases this)
  · obtain rfl : k = L.F.n := by omega
    have hcn := cn_le L.F t x y L.F.n
    have hcl := cp_len L.F t x y L.F.n
    unfold tmS
    generalize L.F.arr t x y (IntKind.i64.wrap (t + L.la)) L.F.n = ar at *
    generalize L.F.cp t x y L.F.n = cp at *
    generalize L.F.cn t x y L.F.n = cn at *
    repeat' ((conv => whnf); first | (refine br_dec (fun h => ?_) (fun h => ?_) <;> try (exfalso; (try dsimp only at h); omega)) | (refine br_ndec (fun h => ?_) (fun h => ?_) <;> try (exfalso; (try dsimp only at h); omega)) | refine br_seq (fun h => ?_) (fun h => ?_) | refine br_nseq (fun h => ?_) (fun h => ?_) | refine br_not (fun h => ?_) (fun h => ?_) | refine br_intro (fun h => ?_) (fun h => ?_) | refine cond_intro rfl ?_ | (refine cond_intro ⟨rfl, ?_⟩ ?_; (first | omega | (dsimp only; omega) | decide)) | (refine cond_intro ?_ ?_; (first | omega | (dsimp only; omega) | decide | (simp only [Nat.add_zero, Int.toNat_natCast, *]; omega))))
    all_goals (conv => whnf)
    refine vloop_of (fun k : Nat => ⟨[(9, .int .i64 ar), (13, .sl 6 0 0 (1 + k)), (63, .sl 5 0 0 cn), (64, .int .i64 cn), (65, .int .i64 k)], (6, some (.one false (.cols (1 + k) [.sc (.ints .i64 (Fa.al ar cp k))]))) :: (5, some (.one false (.cols cn [.sc (.ints .i64 cp)]))) :: lkR L, 7⟩) (fun k => k ≤ cn) (fun k => cn - k) 0 [0, 1, 2, 3, 4, 5, 6] [] ⟨rfl, ⟨rfl, rfl, rfl, rfl, rfl, trivial⟩, ⟨rfl, rfl, rfl, rfl, rfl, trivial⟩⟩ (Nat.zero_le _) ?_
    intro k hk
    by_cases hk2 : k < cn
    · have e := al_step (a := ar) (show k < cp.length by omega)
      generalize Fa.al ar cp k = al at *
      repeat' ((conv => whnf); first | (refine br_dec (fun h => ?_) (fun h => ?_) <;> try (exfalso; (try dsimp only at h); omega)) | (refine br_ndec (fun h => ?_) (fun h => ?_) <;> try (exfalso; (try dsimp only at h); omega)) | refine br_seq (fun h => ?_) (fun h => ?_) | refine br_nseq (fun h => ?_) (fun h => ?_) | refine br_not (fun h => ?_) (fun h => ?_) | refine br_intro (fun h => ?_) (fun h => ?_) | refine cond_intro rfl ?_ | (refine cond_intro ⟨rfl, ?_⟩ ?_; (first | omega | (dsimp only; omega) | decide)) | (refine cond_intro ?_ ?_; (first | omega | (dsimp only; omega) | decide | (simp only [Nat.add_zero, Int.toNat_natCast, *]; omega))))
      all_goals (conv => whnf)
      all_goals first
        | (refine ⟨k + 1, [0, 1, 2, 3, 4, 5, 8], [], by omega, by omega, ?_⟩; rw [e]; exact ⟨rfl, ⟨rfl, rfl, rfl, rfl, congrArg (fun z => some (SV.int .i64 z)) (i64_succ (by omega)), trivial⟩, ⟨rfl, rfl, rfl, rfl, rfl, trivial⟩⟩)
        | (exfalso; omega)
    · obtain rfl : k = cn := by omega
      rw [Nat.add_comm k 1]
      generalize Fa.al ar cp k = al at *
      repeat' ((conv => whnf); first | (refine br_dec (fun h => ?_) (fun h => ?_) <;> try (exfalso; (try dsimp only at h); omega)) | (refine br_ndec (fun h => ?_) (fun h => ?_) <;> try (exfalso; (try dsimp only at h); omega)) | refine br_seq (fun h => ?_) (fun h => ?_) | refine br_nseq (fun h => ?_) (fun h => ?_) | refine br_not (fun h => ?_) (fun h => ?_) | refine br_intro (fun h => ?_) (fun h => ?_) | refine cond_intro rfl ?_ | (refine cond_intro ⟨rfl, ?_⟩ ?_; (first | omega | (dsimp only; omega) | decide)) | (refine cond_intro ?_ ?_; (first | omega | (dsimp only; omega) | decide | (simp only [Nat.add_zero, Int.toNat_natCast, *]; omega))))
      all_goals (conv => whnf)
      all_goals first
        | exact ret_out (l := [0, 1, 2, 3, 4, 6]) rfl rfl ⟨rfl, trivial⟩ (allRw_cons allRw_nil)
        | (exfalso; omega)
end Go.Proofs.Ytpconbdoackcfaa
