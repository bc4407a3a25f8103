/- The law on inventions: the round that looks at what arrived. -/
import Derived.Test.YtpconbdoackcfaaLkH
namespace Go.Proofs.Ytpconbdoackcfaa
open Go.RowKit Go.Sy
attribute [local irreducible] vcall vloop vcallD retP sortI
set_option maxRecDepth 100000
set_option linter.unusedVariables false
set_option linter.unusedSimpArgs false

/-- How often each number arrived. -/
def ctL (G : List Av) (n j : Nat) : List Int := (List.range (n + 1)).map (fun (m : Nat) => ((cntK (G.take j) (m : Int) : Nat) : Int))
theorem ctL_at {G : List Av} {n j m : Nat} (h : m ≤ n) : (ctL G n j).getD m 0 = (cntK (G.take j) (m : Int) : Int) := by
  simp [ctL, List.getD, show m < n + 1 by omega]
theorem ctL_zero (G : List Av) (n : Nat) : ctL G n 0 = List.replicate (n + 1) 0 := by
  refine List.ext_getElem (by simp [ctL]) fun i h1 h2 => ?_
  simp [ctL, cntK]
theorem ctL_step {G : List Av} {n j : Nat} (hj : j < G.length) (hb : G.length ≤ 1000) {m : Nat} (hm : (G.getD j av0).k = (m : Int)) (hmn : m ≤ n) : (ctL G n j).set m (IntKind.i64.wrap ((ctL G n j).getD m 0 + 1)) = ctL G n (j + 1) := by
  have hle : cntK (G.take j) (m : Int) ≤ G.length := Nat.le_trans (List.countP_le_length ..) (List.length_take_le' ..)
  rw [ctL_at hmn, i64_succ (by omega)]
  refine List.ext_getElem (by simp [ctL]) fun i h1 h2 => ?_
  have hG : G.getD j av0 = G[j] := by simp [List.getD, hj]
  rw [hG] at hm
  have key : ∀ x : Int, cntK (G.take (j + 1)) x = cntK (G.take j) x + if (m : Int) = x then 1 else 0 := by
    intro x
    unfold cntK
    rw [List.take_succ_eq_append_getElem hj, List.countP_append, List.countP_singleton, hm]
    simp
  rw [List.getElem_set]
  simp only [ctL, List.getElem_map, List.getElem_range, key]
  by_cases e : m = i
  · subst e; simp
  · rw [if_neg e, if_neg (by omega)]; simp
theorem mapD {α : Type} (f : Av → α) (l : List Av) (j : Nat) : (l.map f).getD j (f av0) = f (l.getD j av0) := by
  simp only [List.getD, List.getElem?_map]
  cases l[j]? <;> rfl
abbrev ckE2 (n0 : Int) (k gn r j : Nat) : Env := [(0, .int .u8 n0), (7, .ptr 3 0 0 0), (9, .int .i64 (r : Int)), (12, .sl 7 0 0 k), (17, .sl 8 0 0 gn), (18, .sl 9 0 0 (k + 1)), (19, .int .i64 j)]
abbrev ckH2 (F : Fa) (TH : HB) (la nw : Int) (k gn : Nat) (W : Wy) (br ar : Ar) (ct : List Int) : Heap := [(1, some (faB true F)), (2, some TH), (3, some (.one false (.cells [.int .i64 4, .int .i64 la, .sl 4 0 0 F.n, .int .i64 nw, .int .i64 (k : Int), .map 5 0]))), (4, some (faB false F)), (5, some (wyM false 6 W)), (6, some (wyF false W)), (7, some (.one false (arB k br))), (8, some (.one false (arB gn ar))), (9, some (.one false (.cols (k + 1) [.sc (.ints .i64 ct)])))]
set_option maxHeartbeats 1000000 in
theorem ck_round (n0 : Int) (hn0 : 0 ≤ n0 ∧ n0 ≤ 255) (F : Fa) (l2 : Nat) (q0 q1 q2 : List Int) (q3 : List ByteArray) (la nw : Int) (k gn r : Nat) (W : Wy) (br ar : Ar) (ct : List Int) (hk : k ≤ 1000) (hg : gn ≤ 1000) (hr : r ≤ 1000) (j m : Nat) (hj : j < gn) (hm : m < k)
    (f1 : ar.k.getD j 0 = (m : Int) + 1) (f2 : br.k.getD m 0 = (m : Int) + 1) (f3 : br.f.getD m 0 = ar.f.getD j 0) (f4 : br.o.getD m 0 = ar.o.getD j 0) (f5 : br.x.getD m ⟨#[]⟩ = ar.x.getD j ⟨#[]⟩) (f6 : 0 ≤ br.t.getD m 0 ∧ br.t.getD m 0 ≤ 1000000) (f7 : br.t.getD m 0 + n0 + 1 ≤ ar.t.getD j 0) (f8 : 0 < j → ar.t.getD (j - 1) 0 ≤ ar.t.getD j 0) (f9 : 0 ≤ ct.getD (m + 1) 0 ∧ ct.getD (m + 1) 0 ≤ r) (f10 : m + 1 < ct.length) (K : Exit → VS → Prop)
    (hN : ∀ v, (∃ l u, upK u v (fun v => Weak 3 l v ⟨ckE2 n0 k gn r (j + 1), ckH2 F (ivT l2 q0 q1 q2 q3) la nw k gn W br ar (ct.set (m + 1) (IntKind.i64.wrap (ct.getD (m + 1) 0 + 1))), 10⟩)) → K .normal v) :
    vcode Try.prog T 3 (lpc Try.f4 2) ⟨ckE2 n0 k gn r j, ckH2 F (ivT l2 q0 q1 q2 q3) la nw k gn W br ar ct, 10⟩ K := by
  have e1 : ar.k.getD ((j : Int).toNat + 0) 0 = (m : Int) + 1 := f1
  have w1 : IntKind.i64.wrap ((m : Int) + 1 - 1) = (m : Int) := by rw [w64_in (by omega) (by omega)]; omega
  have x1 : (IntKind.i64.wrap (ar.k.getD ((j : Int).toNat + 0) 0 - 1)).toNat + 0 = m := by rw [e1, w1]; rfl
  have x2 : (ar.k.getD ((j : Int).toNat + 0) 0).toNat + 0 = m + 1 := by rw [e1]; rfl
  have g2 : br.k.getD ((IntKind.i64.wrap (ar.k.getD ((j : Int).toNat + 0) 0 - 1)).toNat + 0) 0 = (m : Int) + 1 := by rw [x1]; exact f2
  have g3 : br.f.getD ((IntKind.i64.wrap (ar.k.getD ((j : Int).toNat + 0) 0 - 1)).toNat + 0) 0 = ar.f.getD ((j : Int).toNat + 0) 0 := by rw [x1]; exact f3
  have g4 : br.o.getD ((IntKind.i64.wrap (ar.k.getD ((j : Int).toNat + 0) 0 - 1)).toNat + 0) 0 = ar.o.getD ((j : Int).toNat + 0) 0 := by rw [x1]; exact f4
  have g5 : br.x.getD ((IntKind.i64.wrap (ar.k.getD ((j : Int).toNat + 0) 0 - 1)).toNat + 0) ⟨#[]⟩ = ar.x.getD ((j : Int).toNat + 0) ⟨#[]⟩ := by rw [x1]; exact f5
  have w2 : IntKind.i64.wrap n0 = n0 := w64_in (by omega) (by omega)
  have w3 : IntKind.i64.wrap (IntKind.i64.wrap (br.t.getD m 0 + n0) + 1) = br.t.getD m 0 + n0 + 1 := by rw [w64_in (n := br.t.getD m 0 + n0) (by omega) (by omega), w64_in (by omega) (by omega)]
  have g7 : ¬ ar.t.getD ((j : Int).toNat + 0) 0 < IntKind.i64.wrap (IntKind.i64.wrap (br.t.getD ((IntKind.i64.wrap (ar.k.getD ((j : Int).toNat + 0) 0 - 1)).toNat + 0) 0 + IntKind.i64.wrap n0) + 1) := by
    rw [x1, w2, w3]
    show ¬ ar.t.getD j 0 < _
    omega
  have w4 : IntKind.i64.wrap (ct.getD (m + 1) 0 + 1) = ct.getD (m + 1) 0 + 1 := w64_in (by omega) (by omega)
  have w5 : IntKind.i64.wrap ((r : Int) + 1) = (r : Int) + 1 := w64_in (by omega) (by omega)
  have gs : (ct.set ((ar.k.getD ((j : Int).toNat + 0) 0).toNat + 0) (IntKind.i64.wrap (ct.getD ((ar.k.getD ((j : Int).toNat + 0) 0).toNat + 0) 0 + 1))) = ct.set (m + 1) (IntKind.i64.wrap (ct.getD (m + 1) 0 + 1)) := by rw [x2]
  have gc : ¬ IntKind.i64.wrap ((r : Int) + 1) < (ct.set ((ar.k.getD ((j : Int).toNat + 0) 0).toNat + 0) (IntKind.i64.wrap (ct.getD ((ar.k.getD ((j : Int).toNat + 0) 0).toNat + 0) 0 + 1))).getD ((ar.k.getD ((j : Int).toNat + 0) 0).toNat + 0) 0 := by
    rw [gs, x2, w4, w5, List.getD, List.getElem?_set, if_pos rfl, if_pos f10]
    show ¬ (r : Int) + 1 < ct.getD (m + 1) 0 + 1
    omega
  have wj : IntKind.i64.wrap ((j : Int) - 1) = (j : Int) - 1 := w64_in (by omega) (by omega)
  have w6 : IntKind.i64.wrap (ar.k.getD ((j : Int).toNat + 0) 0 - 1) = (m : Int) := by rw [e1, w1]
  have g8 : (0 : Int) < j → ¬ ar.t.getD ((j : Int).toNat + 0) 0 < ar.t.getD ((IntKind.i64.wrap ((j : Int) - 1)).toNat + 0) 0 := by
    intro h
    rw [wj, show ((j : Int) - 1).toNat + 0 = j - 1 by omega]
    have := f8 (by omega)
    show ¬ ar.t.getD j 0 < _
    omega
  rw [← gs] at hN
  repeat' ((conv => whnf); first | (refine br_dec (fun h => ?_) (fun h => ?_) <;> try (exfalso; (try dsimp only at h); omega)) | (refine br_ndec (fun h => ?_) (fun h => ?_) <;> try (exfalso; (try dsimp only at h); omega)) | refine br_seq (fun h => ?_) (fun h => ?_) | refine br_nseq (fun h => ?_) (fun h => ?_) | refine br_not (fun h => ?_) (fun h => ?_) | refine br_intro (fun h => ?_) (fun h => ?_) | refine cond_intro rfl ?_ | (refine cond_intro ⟨rfl, ?_⟩ ?_; (first | omega | (dsimp only; omega) | decide)) | (refine cond_intro ?_ ?_; (first | omega | (dsimp only; omega) | decide | (simp only [Nat.add_zero, Int.toNat_natCast, *]; omega))))
  all_goals (conv => whnf)
  all_goals first
    | (exfalso; first | exact (by assumption : ¬ _) g5 | omega)
    | exact hN _ ⟨[0, 1, 2, 3, 4, 5, 6, 7, 8, 9], [], ⟨rfl, ⟨rfl, rfl, rfl, rfl, rfl, rfl, congrArg (fun z => some (SV.int .i64 z)) (i64_succ (by omega)), trivial⟩, ⟨rfl, rfl, rfl, rfl, rfl, rfl, rfl, rfl, rfl, trivial⟩⟩⟩
    | trace_state

theorem ctL_len (G : List Av) (n j : Nat) : (ctL G n j).length = n + 1 := by simp [ctL]
set_option maxHeartbeats 1000000 in
theorem iv_core (n0 : Int) (hn0 : 0 ≤ n0 ∧ n0 ≤ 255) (F : Fa) (ho : F.Ok) (hn : F.n ≤ maxLen) (l2 : Nat) (q0 q1 q2 : List Int) (q3 : List ByteArray) (w0 : ∀ x ∈ q0, (Lit.int .u8 x).wf = true) (w1 : ∀ x ∈ q1, (Lit.int .u8 x).wf = true) (w2 : ∀ x ∈ q2, (Lit.int .u8 x).wf = true) :
    FC Try.prog 3 4 [.int .u8 n0, .sl 1 0 0 F.n, .sl 2 0 0 l2] [(1, some (faB true F)), (2, some (ivT l2 q0 q1 q2 q3))] (isOut (.bool true) [] 3) := by
  have aw := lk_awake
  by_cases he : lnE 4 (dvLa n0) F = 0
  case neg =>
    have cn := lk_New_err 4 (dvLa n0) F he
    refine fc_of mixed T_ok Try.func4 rfl (by kernel_rfl) (by kernel_rfl) (by kernel_rfl) ?_
    repeat' ((conv => whnf); first | (refine vcall_pure (aw) rfl rfl rfl ?_) | (refine vcallD_pure (aw) rfl rfl rfl ?_) | (refine vcall_out (l :=  [0, 1]) (cn ) ⟨rfl, rfl, rfl, rfl, (by (repeat' (first | exact trivial | exact GB_wf | exact fun _ _ => rfl | constructor)); first | done | fail), (by (repeat' (first | exact trivial | exact GB_fits rfl | constructor)); first | done | fail)⟩ ?_) | (refine vcallD_out (l :=  [0, 1]) (cn ) ⟨rfl, rfl, rfl, rfl, (by (repeat' (first | exact trivial | exact GB_wf | exact fun _ _ => rfl | constructor)); first | done | fail), (by (repeat' (first | exact trivial | exact GB_fits rfl | constructor)); first | done | fail)⟩ ?_) | (refine br_dec (fun h => ?_) (fun h => ?_) <;> try (exfalso; (try dsimp only at h); omega)) | (refine br_ndec (fun h => ?_) (fun h => ?_) <;> try (exfalso; (try dsimp only at h); omega)) | refine br_seq (fun h => ?_) (fun h => ?_) | refine br_nseq (fun h => ?_) (fun h => ?_) | refine br_not (fun h => ?_) (fun h => ?_) | refine br_intro (fun h => ?_) (fun h => ?_) | refine cond_intro rfl ?_ | (refine cond_intro ⟨rfl, ?_⟩ ?_; (first | omega | (dsimp only; omega) | decide)) | (refine cond_intro ?_ ?_; (first | omega | (dsimp only; omega) | decide | (simp only [Nat.add_zero, Int.toNat_natCast, *]; omega))))
    all_goals (conv => whnf)
    all_goals first
      | exact ret_out (l := [0, 1, 2]) rfl rfl trivial allRw_nil
      | (exfalso; simp [he] at h; done)
      | (exfalso; omega)
      | trace_state
  have cn := lk_New_ok 4 (dvLa n0) F he ho
  by_cases h100 : l2 ≤ 100
  case neg =>
    refine fc_of mixed T_ok Try.func4 rfl (by kernel_rfl) (by kernel_rfl) (by kernel_rfl) ?_
    repeat' ((conv => whnf); first | (refine vcall_pure (aw) rfl rfl rfl ?_) | (refine vcallD_pure (aw) rfl rfl rfl ?_) | (refine vcall_out (l :=  [0, 1]) (cn ) ⟨rfl, rfl, rfl, rfl, (by (repeat' (first | exact trivial | exact GB_wf | exact fun _ _ => rfl | constructor)); first | done | fail), (by (repeat' (first | exact trivial | exact GB_fits rfl | constructor)); first | done | fail)⟩ ?_) | (refine vcallD_out (l :=  [0, 1]) (cn ) ⟨rfl, rfl, rfl, rfl, (by (repeat' (first | exact trivial | exact GB_wf | exact fun _ _ => rfl | constructor)); first | done | fail), (by (repeat' (first | exact trivial | exact GB_fits rfl | constructor)); first | done | fail)⟩ ?_) | (refine br_dec (fun h => ?_) (fun h => ?_) <;> try (exfalso; (try dsimp only at h); omega)) | (refine br_ndec (fun h => ?_) (fun h => ?_) <;> try (exfalso; (try dsimp only at h); omega)) | refine br_seq (fun h => ?_) (fun h => ?_) | refine br_nseq (fun h => ?_) (fun h => ?_) | refine br_not (fun h => ?_) (fun h => ?_) | refine br_intro (fun h => ?_) (fun h => ?_) | refine cond_intro rfl ?_ | (refine cond_intro ⟨rfl, ?_⟩ ?_; (first | omega | (dsimp only; omega) | decide)) | (refine cond_intro ?_ ?_; (first | omega | (dsimp only; omega) | decide | (simp only [Nat.add_zero, Int.toNat_natCast, *]; omega))))
    all_goals (conv => whnf)
    all_goals first
      | exact ret_out (l := [0, 1, 2]) rfl rfl trivial allRw_nil
      | (exfalso; omega)
      | trace_state
  have h32 : F.n ≤ 32 := by
    unfold lnE at he
    repeat' split at he
    all_goals first
      | omega
      | (exfalso; revert he; decide)
  have hes : F.errs 4 F.n = 0 := by
    unfold lnE at he
    repeat' split at he
    all_goals first
      | exact he
      | (exfalso; revert he; decide)
  have hE : ∀ i, i < F.n → 0 ≤ F.e.getD i 0 ∧ F.e.getD i 0 ≤ 100000 := fun i hi => err_e (errs_zero _ hes hi)
  have hrl := reps_le F
  refine fc_of mixed T_ok Try.func4 rfl (by kernel_rfl) (by kernel_rfl) (by kernel_rfl) ?_
  repeat' ((conv => whnf); first | (refine vcall_pure (aw) rfl rfl rfl ?_) | (refine vcallD_pure (aw) rfl rfl rfl ?_) | (refine vcall_out (l :=  [0, 1]) (cn ) ⟨rfl, rfl, rfl, rfl, (by (repeat' (first | exact trivial | exact GB_wf | exact fun _ _ => rfl | constructor)); first | done | fail), (by (repeat' (first | exact trivial | exact GB_fits rfl | constructor)); first | done | fail)⟩ ?_) | (refine vcallD_out (l :=  [0, 1]) (cn ) ⟨rfl, rfl, rfl, rfl, (by (repeat' (first | exact trivial | exact GB_wf | exact fun _ _ => rfl | constructor)); first | done | fail), (by (repeat' (first | exact trivial | exact GB_fits rfl | constructor)); first | done | fail)⟩ ?_) | (refine br_dec (fun h => ?_) (fun h => ?_) <;> try (exfalso; (try dsimp only at h); omega)) | (refine br_ndec (fun h => ?_) (fun h => ?_) <;> try (exfalso; (try dsimp only at h); omega)) | refine br_seq (fun h => ?_) (fun h => ?_) | refine br_nseq (fun h => ?_) (fun h => ?_) | refine br_not (fun h => ?_) (fun h => ?_) | refine br_intro (fun h => ?_) (fun h => ?_) | refine cond_intro rfl ?_ | (refine cond_intro ⟨rfl, ?_⟩ ?_; (first | omega | (dsimp only; omega) | decide)) | (refine cond_intro ?_ ?_; (first | omega | (dsimp only; omega) | decide | (simp only [Nat.add_zero, Int.toNat_natCast, *]; omega))))
  all_goals (conv => whnf)
  all_goals first
    | (exfalso; omega)
    | skip
  -- the faults that repeat
  refine vloop_lp (fun j : Nat => ⟨[(0, .int .u8 n0), (1, .sl 1 0 0 F.n), (2, .sl 2 0 0 l2), (7, .ptr 3 0 0 0), (9, .int .i64 (F.reps j : Nat)), (10, .int .i64 j)], ivH0 F (ivT l2 q0 q1 q2 q3) (dvLa n0) 0 0 wy0, 7⟩) (fun j => j ≤ F.n) (fun j => F.n - j) 0 [0, 1, 2, 3, 4, 5, 6] [] ⟨rfl, ⟨rfl, rfl, rfl, rfl, rfl, rfl, trivial⟩, ⟨rfl, rfl, rfl, rfl, rfl, rfl, trivial⟩⟩ (Nat.zero_le _) ?_
  intro j hj
  by_cases hj2 : j < F.n
  · have hrj := hrl j
    have hstep : F.reps (j + 1) = if F.k.getD j 0 = 3 then F.reps j + 1 else F.reps j := rfl
    by_cases h3 : F.k.getD j 0 = 3
    · rw [if_pos h3] at hstep
      have h3' : F.k.getD ((j : Int).toNat + 0) 0 = 3 := h3
      have hst : IntKind.i64.wrap (((F.reps j : Nat) : Int) + 1) = ((F.reps (j + 1) : Nat) : Int) := by rw [hstep]; exact i64_succ (by omega)
      repeat' ((conv => whnf); first | (refine br_dec (fun h => ?_) (fun h => ?_) <;> try (exfalso; (try dsimp only at h); omega)) | (refine br_ndec (fun h => ?_) (fun h => ?_) <;> try (exfalso; (try dsimp only at h); omega)) | refine br_seq (fun h => ?_) (fun h => ?_) | refine br_nseq (fun h => ?_) (fun h => ?_) | refine br_not (fun h => ?_) (fun h => ?_) | refine br_intro (fun h => ?_) (fun h => ?_) | refine cond_intro rfl ?_ | (refine cond_intro ⟨rfl, ?_⟩ ?_; (first | omega | (dsimp only; omega) | decide)) | (refine cond_intro ?_ ?_; (first | omega | (dsimp only; omega) | decide | (simp only [Nat.add_zero, Int.toNat_natCast, *]; omega))))
      all_goals (conv => whnf)
      all_goals first
        | exact ⟨j + 1, [0, 1, 2, 3, 4, 5, 6], [], (by dsimp only; omega), (by dsimp only; omega), ⟨rfl, ⟨rfl, rfl, rfl, rfl, congrArg (fun z => some (SV.int .i64 z)) hst, congrArg (fun z => some (SV.int .i64 z)) (i64_succ (by omega)), trivial⟩, ⟨rfl, rfl, rfl, rfl, rfl, rfl, trivial⟩⟩⟩
        | (exfalso; omega)
        | trace_state
    · rw [if_neg h3] at hstep
      have h3' : ¬ F.k.getD ((j : Int).toNat + 0) 0 = 3 := h3
      have hst : ((F.reps j : Nat) : Int) = ((F.reps (j + 1) : Nat) : Int) := by rw [hstep]
      repeat' ((conv => whnf); first | (refine br_dec (fun h => ?_) (fun h => ?_) <;> try (exfalso; (try dsimp only at h); omega)) | (refine br_ndec (fun h => ?_) (fun h => ?_) <;> try (exfalso; (try dsimp only at h); omega)) | refine br_seq (fun h => ?_) (fun h => ?_) | refine br_nseq (fun h => ?_) (fun h => ?_) | refine br_not (fun h => ?_) (fun h => ?_) | refine br_intro (fun h => ?_) (fun h => ?_) | refine cond_intro rfl ?_ | (refine cond_intro ⟨rfl, ?_⟩ ?_; (first | omega | (dsimp only; omega) | decide)) | (refine cond_intro ?_ ?_; (first | omega | (dsimp only; omega) | decide | (simp only [Nat.add_zero, Int.toNat_natCast, *]; omega))))
      all_goals (conv => whnf)
      all_goals first
        | exact ⟨j + 1, [0, 1, 2, 3, 4, 5, 6], [], (by dsimp only; omega), (by dsimp only; omega), ⟨rfl, ⟨rfl, rfl, rfl, rfl, congrArg (fun z => some (SV.int .i64 z)) hst, congrArg (fun z => some (SV.int .i64 z)) (i64_succ (by omega)), trivial⟩, ⟨rfl, rfl, rfl, rfl, rfl, rfl, trivial⟩⟩⟩
        | (exfalso; omega)
        | trace_state
  have ejn : j = F.n := by omega
  have e0 : (⟨[(0, .int .u8 n0), (1, .sl 1 0 0 F.n), (2, .sl 2 0 0 l2), (7, .ptr 3 0 0 0), (9, .int .i64 (F.reps j : Nat)), (10, .int .i64 j)], ivH0 F (ivT l2 q0 q1 q2 q3) (dvLa n0) 0 0 wy0, 7⟩ : VS) = ⟨[(0, .int .u8 n0), (1, .sl 1 0 0 F.n), (2, .sl 2 0 0 l2), (7, .ptr 3 0 0 0), (9, .int .i64 (F.reps F.n : Nat)), (10, .int .i64 (F.n : Nat))], ivH0 F (ivT l2 q0 q1 q2 q3) (dvLa n0) 0 0 wy0, 7⟩ := by rw [ejn]
  rw [e0]
  have hr := hrl F.n
  generalize hRr : F.reps F.n = r at *
  repeat' ((conv => whnf); first | (refine br_dec (fun h => ?_) (fun h => ?_) <;> try (exfalso; (try dsimp only at h); omega)) | (refine br_ndec (fun h => ?_) (fun h => ?_) <;> try (exfalso; (try dsimp only at h); omega)) | refine br_seq (fun h => ?_) (fun h => ?_) | refine br_nseq (fun h => ?_) (fun h => ?_) | refine br_not (fun h => ?_) (fun h => ?_) | refine br_intro (fun h => ?_) (fun h => ?_) | refine cond_intro rfl ?_ | (refine cond_intro ⟨rfl, ?_⟩ ?_; (first | omega | (dsimp only; omega) | decide)) | (refine cond_intro ?_ ?_; (first | omega | (dsimp only; omega) | decide | (simp only [Nat.add_zero, Int.toNat_natCast, *]; omega))))
  all_goals (conv => whnf)
  -- what is sent
  refine vloop_lp (fun x : Nat × Iv => ⟨ivE n0 F.n l2 r x.1 x.2, ivH F (ivT l2 q0 q1 q2 q3) (dvLa n0) x.2, 8⟩) (fun x => x.1 ≤ l2 ∧ IvOk n0 r x.1 x.2) (fun x => l2 - x.1) (0, ⟨[], [], 0, 0, 0, wy0⟩) [0, 1, 2, 3, 4, 5, 6, 7] [.slot 12 [.sc (.ints .i64 []), .sc (.ints .i64 []), .sc (.ints .i64 []), .sc (.ints .i64 []), .sc (.strs [])]] ⟨rfl, ⟨rfl, rfl, rfl, rfl, rfl, rfl, rfl, rfl, trivial⟩, ⟨rfl, rfl, rfl, rfl, rfl, rfl, rfl, trivial⟩⟩ ⟨Nat.zero_le _, ⟨rfl, ⟨(fun j hj => by simp at hj), (fun a ha => by cases ha), (fun m => by simp [cntK])⟩, rep_nil, by simp, Nat.zero_le _, by decide⟩⟩ ?_
  rintro ⟨i, d⟩ ⟨hi, hd⟩
  dsimp only at hi hd
  by_cases hi2 : i < l2
  · rw [← hRr] at hd ⊢
    exact iv_round n0 hn0 F ho h32 hE l2 q0 q1 q2 q3 h100 i hi2 (u8_at w0 i) (u8_at w1 i) (u8_at w2 i) d hd _ (fun v h => h) (fun d' hd' v ⟨l, us, h⟩ => ⟨(i + 1, d'), l, us, ⟨hi2, hd'⟩, (by dsimp only; omega), h⟩)
  have eil : i = l2 := by omega
  subst eil
  obtain ⟨B, Q, k, now, nw, W⟩ := d
  obtain ⟨e1, e2, e3, e4, e5, e6⟩ := hd
  dsimp only at e1 e2 e3 e4 e5 e6
  have c2 := lk_Receive ⟨4, dvLa n0, F, nw, k, W⟩ (IntKind.i64.wrap (now + 5000000)) (e3.ok (by omega)) e3.nd (by have := e3.n_le; dsimp only; omega)
  unfold rvO at c2
  dsimp only at c2
  generalize hU : IntKind.i64.wrap (now + 5000000) = U at *
  generalize Lk.rnw ⟨4, dvLa n0, F, nw, k, W⟩ U = nw2 at *
  obtain ⟨r1, r2, r3⟩ := rep_recv e3 U
  rw [r2, r3] at c2
  have hdn : (W.due U).Nodup := (sortI_perm _).symm.nodup (e3.nd.filter _)
  have hda := due_asc e3.nd U
  obtain ⟨S, hS⟩ : ∃ S, S = W.due U := ⟨_, rfl⟩
  have hasc := catT_asc Q (W.due U) hda
  have hcnt : ∀ m, cntK (catT Q (W.due U)) m ≤ r + 1 := fun m => by
    unfold cntK
    rw [catT_count Q _ _ hdn]
    exact Nat.le_trans (List.countP_mono_left (fun a _ h => by simp at h; simp [h.1])) (e2.c m)
  have hmem : ∀ a, a ∈ catT Q (W.due U) → a ∈ Q := fun a ha => (catT_mem.1 ha).1
  have hlen : (catT Q (W.due U)).length ≤ 256 := by
    have := catT_count Q (fun _ => true) _ hdn
    rw [List.countP_true] at this
    rw [this]
    exact Nat.le_trans (List.countP_le_length ..) e4
  generalize W.dels (W.due U) (W.due U).length = W2 at *
  generalize catT Q (W.due U) = G at *
  obtain ⟨gn, hgn⟩ : ∃ gn, gn = G.length := ⟨_, rfl⟩
  rw [← hgn] at c2
  subst hU
  have wk : IntKind.i64.wrap ((k : Int) + 1) = (k : Int) + 1 := w64_in (by omega) (by omega)
  show vcode _ _ _ _ ⟨[(0, .int .u8 n0), (1, .sl 1 0 0 F.n), (2, .sl 2 0 0 i), (7, .ptr 3 0 0 0), (9, .int .i64 (r : Int)), (11, .int .i64 now), (12, .sl 7 0 0 k), (13, .int .i64 i)], [(1, some (faB true F)), (2, some (ivT i q0 q1 q2 q3)), (3, some (.one false (.cells [.int .i64 4, .int .i64 (dvLa n0), .sl 4 0 0 F.n, .int .i64 nw, .int .i64 (k : Int), .map 5 0]))), (4, some (faB false F)), (5, some (wyM false 6 W)), (6, some (wyF false W)), (7, some (.one false (arB k (arOf B))))], 8⟩ _
  repeat' ((conv => whnf); first | (refine vcall_pure (aw) rfl rfl rfl ?_) | (refine vcallD_pure (aw) rfl rfl rfl ?_) | (refine vcall_out (l :=  [0, 3, 4, 5, 6]) (c2 ) ⟨rfl, rfl, rfl, rfl, (by (repeat' (first | exact trivial | exact GB_wf | exact fun _ _ => rfl | constructor)); first | done | fail), (by (repeat' (first | exact trivial | exact GB_fits rfl | constructor)); first | done | fail)⟩ ?_) | (refine vcallD_out (l :=  [0, 3, 4, 5, 6]) (c2 ) ⟨rfl, rfl, rfl, rfl, (by (repeat' (first | exact trivial | exact GB_wf | exact fun _ _ => rfl | constructor)); first | done | fail), (by (repeat' (first | exact trivial | exact GB_fits rfl | constructor)); first | done | fail)⟩ ?_) | (refine br_dec (fun h => ?_) (fun h => ?_) <;> try (exfalso; (try dsimp only at h); omega)) | (refine br_ndec (fun h => ?_) (fun h => ?_) <;> try (exfalso; (try dsimp only at h); omega)) | refine br_seq (fun h => ?_) (fun h => ?_) | refine br_nseq (fun h => ?_) (fun h => ?_) | refine br_not (fun h => ?_) (fun h => ?_) | refine br_intro (fun h => ?_) (fun h => ?_) | refine cond_intro rfl ?_ | (refine cond_intro ⟨rfl, ?_⟩ ?_; (first | omega | (dsimp only; omega) | decide)) | (refine cond_intro ?_ ?_; (first | omega | (dsimp only; omega) | decide | (simp only [Nat.add_zero, Int.toNat_natCast, *]; omega))))
  all_goals (conv => whnf)
  refine vloop_lp (fun j : Nat => ⟨ckE2 n0 k gn r j, ckH2 F (ivT i q0 q1 q2 q3) (dvLa n0) nw2 k gn W2 (arOf B) (arOf G) (ctL G k j), 10⟩) (fun j => j ≤ gn) (fun j => gn - j) 0 [0, 1, 2, 3, 4, 5, 8, 7, 9, 10] [] ?_ (Nat.zero_le _) ?_
  · have wkn : (IntKind.i64.wrap ((k : Int) + 1)).toNat = k + 1 := by rw [wk]; rfl
    rw [ctL_zero, wkn]
    exact ⟨rfl, ⟨rfl, rfl, rfl, rfl, rfl, rfl, rfl, trivial⟩, ⟨rfl, rfl, rfl, rfl, rfl, rfl, rfl, rfl, rfl, trivial⟩⟩
  · intro j hj
    by_cases hj2 : j < gn
    · have hjG : j < G.length := by omega
      have egj : G.getD j av0 = G[j] := by rw [List.getD, List.getElem?_eq_getElem hjG]; rfl
      have hgj : G.getD j av0 ∈ G := by rw [egj]; exact List.getElem_mem hjG
      obtain ⟨m, hm, p1, p2, p3, p4, p5, p6⟩ := e2.q _ (hmem _ hgj)
      obtain ⟨b1', b2', b3'⟩ := e2.b m hm
      have eBt : (arOf B).t.getD m 0 = (B.getD m av0).t := mapD Av.t B m
      have eGt : (arOf G).t.getD j 0 = (G.getD j av0).t := mapD Av.t G j
      have hcc : (cntK (G.take j) ((m + 1 : Nat) : Int)) ≤ r := by
        have h1 := hcnt ((m + 1 : Nat) : Int)
        have h2 : cntK (G.take (j + 1)) ((m + 1 : Nat) : Int) ≤ cntK G ((m + 1 : Nat) : Int) := (List.take_sublist _ _).countP_le
        have h3 : cntK (G.take (j + 1)) ((m + 1 : Nat) : Int) = cntK (G.take j) ((m + 1 : Nat) : Int) + 1 := by
          unfold cntK
          rw [List.take_succ_eq_append_getElem hjG, List.countP_append, List.countP_singleton, ← egj, p1, if_pos (decide_eq_true (by omega))]
        omega
      have hct := ctL_step (n := k) hjG (by omega) (m := m + 1) (by rw [p1]; rfl) (by omega)
      refine ck_round n0 hn0 F i q0 q1 q2 q3 (dvLa n0) nw2 k gn r W2 (arOf B) (arOf G) (ctL G k j) (by omega) (by omega) (by omega) j m hj2 (by omega)
        ((mapD Av.k G j).trans p1) ((mapD Av.k B m).trans b1') ((mapD Av.f B m).trans (p2.symm.trans (mapD Av.f G j).symm)) ((mapD Av.o B m).trans (p3.symm.trans (mapD Av.o G j).symm)) ((mapD Av.x B m).trans (p4.symm.trans (mapD Av.x G j).symm)) (by rw [eBt]; omega) (by rw [eBt, eGt]; omega) (fun h0 => ?_) (by rw [ctL_at (by omega)]; omega) (by rw [ctL_len]; omega) _ (fun v ⟨l, us, h⟩ => ⟨j + 1, l, us, (by dsimp only; omega), (by dsimp only; omega), by rw [hct] at h; exact h⟩)
      have eGt1 : (arOf G).t.getD (j - 1) 0 = (G.getD (j - 1) av0).t := mapD Av.t G (j - 1)
      rw [eGt, eGt1, egj, List.getD, List.getElem?_eq_getElem (show j - 1 < G.length by omega)]
      exact (List.pairwise_iff_getElem.1 hasc) (j - 1) j (by omega) hjG (by omega)
    · have ej : j = gn := by omega
      have cS := lk_Sent ⟨4, dvLa n0, F, nw2, k, W2⟩
      generalize arOf B = br at *
      generalize arOf G = ar at *
      generalize ctL G k j = ct at *
      repeat' ((conv => whnf); first | (refine vcall_pure (aw) rfl rfl rfl ?_) | (refine vcallD_pure (aw) rfl rfl rfl ?_) | (refine vcall_out (l :=  [0, 3, 4, 5, 6]) (cS ) ⟨rfl, rfl, rfl, rfl, (by (repeat' (first | exact trivial | exact GB_wf | exact fun _ _ => rfl | constructor)); first | done | fail), (by (repeat' (first | exact trivial | exact GB_fits rfl | constructor)); first | done | fail)⟩ ?_) | (refine vcallD_out (l :=  [0, 3, 4, 5, 6]) (cS ) ⟨rfl, rfl, rfl, rfl, (by (repeat' (first | exact trivial | exact GB_wf | exact fun _ _ => rfl | constructor)); first | done | fail), (by (repeat' (first | exact trivial | exact GB_fits rfl | constructor)); first | done | fail)⟩ ?_) | (refine br_dec (fun h => ?_) (fun h => ?_) <;> try (exfalso; (try dsimp only at h); omega)) | (refine br_ndec (fun h => ?_) (fun h => ?_) <;> try (exfalso; (try dsimp only at h); omega)) | refine br_seq (fun h => ?_) (fun h => ?_) | refine br_nseq (fun h => ?_) (fun h => ?_) | refine br_not (fun h => ?_) (fun h => ?_) | refine br_intro (fun h => ?_) (fun h => ?_) | refine cond_intro rfl ?_ | (refine cond_intro ⟨rfl, ?_⟩ ?_; (first | omega | (dsimp only; omega) | decide)) | (refine cond_intro ?_ ?_; (first | omega | (dsimp only; omega) | decide | (simp only [Nat.add_zero, Int.toNat_natCast, *]; omega))))
      all_goals (conv => whnf)
      all_goals first
        | exact ret_out (l := [0, 1, 2]) rfl rfl trivial allRw_nil
        | (exfalso; omega)
        | trace_state
end Go.Proofs.Ytpconbdoackcfaa
