/- The law on inventions: what arrives was sent. -/
import Derived.Test.YtpconbdoackcfaaLkF
import Derived.Test.YtpconbdoackcfaaLkG
namespace Go.Proofs.Ytpconbdoackcfaa
open Go.RowKit Go.Sy
attribute [local irreducible] vcall vloop vcallD retP sortI
set_option maxRecDepth 100000
set_option linter.unusedVariables false
set_option linter.unusedSimpArgs false

abbrev ivT (l2 : Nat) (q0 q1 q2 : List Int) (q3 : List ByteArray) : HB := .one true (.cols l2 [.sc (.ints .u8 q0), .sc (.ints .u8 q1), .sc (.ints .u8 q2), .sc (.strs q3)])
/-- Where the law stands: what was sent, what is under way, the clocks, the table. -/
structure Iv where
  B : List Av
  Q : List Av
  k : Nat
  now : Int
  nw : Int
  W : Wy
structure IvOk (n0 : Int) (r i : Nat) (d : Iv) : Prop where
  lk : d.B.length = d.k
  inv : Inv n0 r d.now d.B d.Q
  rep : Rep d.W d.Q
  lq : d.Q.length ≤ 256
  lb : d.k ≤ i
  cl : 0 ≤ d.now ∧ d.now ≤ 255 * (i : Int)
abbrev ivt (now q : Int) : Int := IntKind.i64.wrap (now + IntKind.i64.wrap q)
abbrev ivm (q : Int) : Int := IntKind.i64.wrap (q.tmod 4)
abbrev ivH0 (F : Fa) (TH : HB) (la nw : Int) (k : Nat) (W : Wy) : Heap := [(1, some (faB true F)), (2, some TH), (3, some (.one false (.cells [.int .i64 4, .int .i64 la, .sl 4 0 0 F.n, .int .i64 nw, .int .i64 (k : Int), .map 5 0]))), (4, some (faB false F)), (5, some (wyM false 6 W)), (6, some (wyF false W))]
abbrev ivH (F : Fa) (TH : HB) (la : Int) (d : Iv) : Heap := [(1, some (faB true F)), (2, some TH), (3, some (.one false (.cells [.int .i64 4, .int .i64 la, .sl 4 0 0 F.n, .int .i64 d.nw, .int .i64 (d.k : Int), .map 5 0]))), (4, some (faB false F)), (5, some (wyM false 6 d.W)), (6, some (wyF false d.W)), (7, some (.one false (arB d.k (arOf d.B))))]
abbrev ivE (n0 : Int) (fn l2 r i : Nat) (d : Iv) : Env := [(0, .int .u8 n0), (1, .sl 1 0 0 fn), (2, .sl 2 0 0 l2), (7, .ptr 3 0 0 0), (9, .int .i64 (r : Int)), (11, .int .i64 d.now), (12, .sl 7 0 0 d.k), (13, .int .i64 i)]
set_option maxHeartbeats 1000000 in
theorem iv_round (n0 : Int) (hn0 : 0 ≤ n0 ∧ n0 ≤ 255) (F : Fa) (ho : F.Ok) (h32 : F.n ≤ 32) (hE : ∀ i, i < F.n → 0 ≤ F.e.getD i 0 ∧ F.e.getD i 0 ≤ 100000) (l2 : Nat) (q0 q1 q2 : List Int) (q3 : List ByteArray) (h100 : l2 ≤ 100) (i : Nat) (hi : i < l2) (b0 : 0 ≤ q0.getD i 0 ∧ q0.getD i 0 ≤ 255) (b1 : 0 ≤ q1.getD i 0 ∧ q1.getD i 0 ≤ 255) (b2 : 0 ≤ q2.getD i 0 ∧ q2.getD i 0 ≤ 255) (d : Iv) (hd : IvOk n0 (F.reps F.n) i d) (K : Exit → VS → Prop)
    (hK : ∀ v, retK T 3 [.tmp 6] (isOut (.bool true) [] 3) .ret v → K .ret v)
    (hN : ∀ d', IvOk n0 (F.reps F.n) (i + 1) d' → ∀ v, (∃ l u, upK u v (fun v => Weak 3 l v ⟨ivE n0 F.n l2 (F.reps F.n) (i + 1) d', ivH F (ivT l2 q0 q1 q2 q3) (dvLa n0) d', 8⟩)) → K .normal v) :
    vcode Try.prog T 3 (lpc Try.f4 1) ⟨ivE n0 F.n l2 (F.reps F.n) i d, ivH F (ivT l2 q0 q1 q2 q3) (dvLa n0) d, 8⟩ K := by
  have aw := lk_awake
  obtain ⟨B, Q, k, now, nw, W⟩ := d
  obtain ⟨e0, e1, e2, e3, e4, e5⟩ := hd
  dsimp only at e0 e1 e2 e3 e4 e5
  have hcr := cn_reps F (ivt now (q0.getD i 0)) (ivm (q1.getD i 0)) (ivm (q2.getD i 0)) F.n
  have hcl := cp_len F (ivt now (q0.getD i 0)) (ivm (q1.getD i 0)) (ivm (q2.getD i 0)) F.n
  generalize F.reps F.n = r at *
  have w0 : IntKind.i64.wrap n0 = n0 := w64_in (by omega) (by omega)
  have wt : ivt now (q0.getD i 0) = now + q0.getD i 0 := by unfold ivt; rw [w64_in (n := q0.getD i 0) (by omega) (by omega)]; exact w64_in (by omega) (by omega)
  have wla : dvLa n0 = n0 + 1 := by unfold dvLa; rw [w0]; exact w64_in (by omega) (by omega)
  have ek : IntKind.i64.wrap ((k : Int) + 1) = ((k + 1 : Nat) : Int) := i64_succ (by omega)
  by_cases hs : (q3.getD i ⟨#[]⟩).size ≤ 100
  case neg =>
    repeat' ((conv => whnf); first | (refine vcall_pure (aw) rfl rfl rfl ?_) | (refine vcallD_pure (aw) rfl rfl rfl ?_) | (refine br_dec (fun h => ?_) (fun h => ?_) <;> try (exfalso; (try dsimp only at h); omega)) | (refine br_ndec (fun h => ?_) (fun h => ?_) <;> try (exfalso; (try dsimp only at h); omega)) | refine br_seq (fun h => ?_) (fun h => ?_) | refine br_nseq (fun h => ?_) (fun h => ?_) | refine br_not (fun h => ?_) (fun h => ?_) | refine br_intro (fun h => ?_) (fun h => ?_) | refine cond_intro rfl ?_ | (refine cond_intro ⟨rfl, ?_⟩ ?_; (first | omega | (dsimp only; omega) | decide)) | (refine cond_intro ?_ ?_; (first | omega | (dsimp only; omega) | decide | (simp only [Nat.add_zero, Int.toNat_natCast, *]; omega))))
    all_goals (conv => whnf)
    all_goals first
      | (refine hK _ ?_; (conv => whnf); exact ret_out (l := [0, 1, 2]) rfl rfl trivial allRw_nil)
      | (exfalso; simp only [Nat.add_zero, Int.toNat_natCast] at *; omega)
  have hwok := e2.ok (show Q.length ≤ 1000 by omega)
  have hsum := e2.sum (show Q.length ≤ 1000 by omega)
  by_cases he : Lk.sdE ⟨4, dvLa n0, F, nw, (k : Int), W⟩ (ivt now (q0.getD i 0)) (ivm (q1.getD i 0)) (ivm (q2.getD i 0)) (q3.getD i ⟨#[]⟩) = 0
  case neg =>
    have c1 := lk_Send_err ⟨4, dvLa n0, F, nw, (k : Int), W⟩ (ivt now (q0.getD i 0)) (ivm (q1.getD i 0)) (ivm (q2.getD i 0)) (q3.getD i ⟨#[]⟩) (show F.n ≤ 1000 by omega) hwok he
    generalize Lk.sdE ⟨4, dvLa n0, F, nw, (k : Int), W⟩ (ivt now (q0.getD i 0)) (ivm (q1.getD i 0)) (ivm (q2.getD i 0)) (q3.getD i ⟨#[]⟩) = se at he c1
    have hok : IvOk n0 r (i + 1) ⟨B, Q, k, ivt now (q0.getD i 0), nw, W⟩ := ⟨e0, inv_mono e1 (by dsimp only; rw [wt]; omega), e2, e3, by dsimp only; omega, by dsimp only; rw [wt]; omega⟩
    repeat' ((conv => whnf); first | (refine vcall_out (l :=  [0, 3, 4, 5, 6]) (c1 ) ⟨rfl, rfl, rfl, rfl, (by (repeat' (first | exact trivial | exact GB_wf | exact fun _ _ => rfl | constructor)); first | done | fail), (by (repeat' (first | exact trivial | exact GB_fits rfl | constructor)); first | done | fail)⟩ ?_) | (refine vcallD_out (l :=  [0, 3, 4, 5, 6]) (c1 ) ⟨rfl, rfl, rfl, rfl, (by (repeat' (first | exact trivial | exact GB_wf | exact fun _ _ => rfl | constructor)); first | done | fail), (by (repeat' (first | exact trivial | exact GB_fits rfl | constructor)); first | done | fail)⟩ ?_) | (refine br_dec (fun h => ?_) (fun h => ?_) <;> try (exfalso; (try dsimp only at h); omega)) | (refine br_ndec (fun h => ?_) (fun h => ?_) <;> try (exfalso; (try dsimp only at h); omega)) | refine br_seq (fun h => ?_) (fun h => ?_) | refine br_nseq (fun h => ?_) (fun h => ?_) | refine br_not (fun h => ?_) (fun h => ?_) | refine br_intro (fun h => ?_) (fun h => ?_) | refine cond_intro rfl ?_ | (refine cond_intro ⟨rfl, ?_⟩ ?_; (first | omega | (dsimp only; omega) | decide)) | (refine cond_intro ?_ ?_; (first | omega | (dsimp only; omega) | decide | (simp only [Nat.add_zero, Int.toNat_natCast, *]; omega))))
    all_goals (conv => whnf)
    all_goals first
      | (exfalso; simp only [Nat.add_zero, Int.toNat_natCast] at *; omega)
      | exact hN _ hok _ ⟨[0, 1, 2, 3, 4, 5, 6, 7], [], ⟨rfl, ⟨rfl, rfl, rfl, rfl, rfl, rfl, rfl, congrArg (fun z => some (SV.int .i64 z)) (i64_succ (by omega)), trivial⟩, ⟨rfl, rfl, rfl, rfl, rfl, rfl, rfl, trivial⟩⟩⟩
  obtain ⟨_, _, _, k7, k8, k9⟩ := sdE_zero he
  dsimp only at k7 k8 k9
  have hadd : arOf (B ++ [⟨ivt now (q0.getD i 0), ivm (q1.getD i 0), ivm (q2.getD i 0), (B.length : Int) + 1, q3.getD i ⟨#[]⟩⟩]) = (arOf B).add (ivt now (q0.getD i 0)) (ivm (q1.getD i 0)) (ivm (q2.getD i 0)) (IntKind.i64.wrap ((k : Int) + 1)) (q3.getD i ⟨#[]⟩) := by rw [← arOf_add, ek, e0]; rfl
  by_cases hl : F.lost (ivt now (q0.getD i 0)) (ivm (q1.getD i 0)) (ivm (q2.getD i 0)) F.n = true
  · have c1 := lk_Send_lost ⟨4, dvLa n0, F, nw, (k : Int), W⟩ (ivt now (q0.getD i 0)) (ivm (q1.getD i 0)) (ivm (q2.getD i 0)) (q3.getD i ⟨#[]⟩) (show F.n ≤ 1000 by omega) hwok he hl
    have hok : IvOk n0 r (i + 1) ⟨B ++ [⟨ivt now (q0.getD i 0), ivm (q1.getD i 0), ivm (q2.getD i 0), (B.length : Int) + 1, q3.getD i ⟨#[]⟩⟩], Q, k + 1, ivt now (q0.getD i 0), ivt now (q0.getD i 0), W⟩ := ⟨by simp [e0], inv_lost e1 (by dsimp only; rw [wt]; omega) (by dsimp only; rw [wt]; omega) _ _ _, e2, e3, by dsimp only; omega, by dsimp only; rw [wt]; omega⟩
    repeat' ((conv => whnf); first | (refine vcall_out (l :=  [0, 3, 4, 5, 6]) (c1 ) ⟨rfl, rfl, rfl, rfl, (by (repeat' (first | exact trivial | exact GB_wf | exact fun _ _ => rfl | constructor)); first | done | fail), (by (repeat' (first | exact trivial | exact GB_fits rfl | constructor)); first | done | fail)⟩ ?_) | (refine vcallD_out (l :=  [0, 3, 4, 5, 6]) (c1 ) ⟨rfl, rfl, rfl, rfl, (by (repeat' (first | exact trivial | exact GB_wf | exact fun _ _ => rfl | constructor)); first | done | fail), (by (repeat' (first | exact trivial | exact GB_fits rfl | constructor)); first | done | fail)⟩ ?_) | (refine br_dec (fun h => ?_) (fun h => ?_) <;> try (exfalso; (try dsimp only at h); omega)) | (refine br_ndec (fun h => ?_) (fun h => ?_) <;> try (exfalso; (try dsimp only at h); omega)) | refine br_seq (fun h => ?_) (fun h => ?_) | refine br_nseq (fun h => ?_) (fun h => ?_) | refine br_not (fun h => ?_) (fun h => ?_) | refine br_intro (fun h => ?_) (fun h => ?_) | refine cond_intro rfl ?_ | (refine cond_intro ⟨rfl, ?_⟩ ?_; (first | omega | (dsimp only; omega) | decide)) | (refine cond_intro ?_ ?_; (first | omega | (dsimp only; omega) | decide | (simp only [Nat.add_zero, Int.toNat_natCast, *]; omega))))
    all_goals (conv => whnf)
    all_goals first
      | (exfalso; simp only [Nat.add_zero, Int.toNat_natCast] at *; omega)
      | (refine hN _ hok _ ⟨[0, 1, 2, 3, 4, 5, 6, 10], [], ?_⟩
         show Weak 3 _ _ ⟨ivE _ _ _ _ _ _, ivH _ _ _ _, 8⟩
         unfold ivE ivH
         dsimp only
         rw [hadd, ← ek]
         exact ⟨rfl, ⟨rfl, rfl, rfl, rfl, rfl, rfl, rfl, congrArg (fun z => some (SV.int .i64 z)) (i64_succ (by omega)), trivial⟩, ⟨rfl, rfl, rfl, rfl, rfl, rfl, rfl, trivial⟩⟩)
      | trace_state
  · have hl' : F.lost (ivt now (q0.getD i 0)) (ivm (q1.getD i 0)) (ivm (q2.getD i 0)) F.n = false := by simpa using hl
    have c1 := lk_Send_ok ⟨4, dvLa n0, F, nw, (k : Int), W⟩ (ivt now (q0.getD i 0)) (ivm (q1.getD i 0)) (ivm (q2.getD i 0)) (q3.getD i ⟨#[]⟩) (show F.n ≤ 999 by omega) hwok he hl'
    unfold Lk.sdW at c1
    unfold Lk.tn at k9
    dsimp only at c1 k9
    rw [if_neg hl] at k9
    have ha0 : IntKind.i64.wrap (ivt now (q0.getD i 0) + dvLa n0) = now + q0.getD i 0 + n0 + 1 := by rw [wt, wla, w64_in (by omega) (by omega)]; omega
    have harr := arr_in hE (ivt now (q0.getD i 0)) (ivm (q1.getD i 0)) (ivm (q2.getD i 0)) (IntKind.i64.wrap (ivt now (q0.getD i 0) + dvLa n0)) (by rw [ha0]; omega) F.n (Nat.le_refl _) (by omega)
    have hal : ∀ v, v ∈ Lk.al ⟨4, dvLa n0, F, nw, (k : Int), W⟩ (ivt now (q0.getD i 0)) (ivm (q1.getD i 0)) (ivm (q2.getD i 0)) → ivt now (q0.getD i 0) + n0 + 1 ≤ v ∧ v ≤ ivt now (q0.getD i 0) + n0 + 3300001 := by
      intro v hv
      unfold Lk.al at hv
      dsimp only at hv
      have := al_in (by rw [ha0] at harr ⊢; omega) (cp_in hE (ivt now (q0.getD i 0)) (ivm (q1.getD i 0)) (ivm (q2.getD i 0)) F.n (Nat.le_refl _)) _ v hv
      rw [ha0] at harr this
      rw [wt]
      omega
    have hll : (Lk.al ⟨4, dvLa n0, F, nw, (k : Int), W⟩ (ivt now (q0.getD i 0)) (ivm (q1.getD i 0)) (ivm (q2.getD i 0))).length = F.cn (ivt now (q0.getD i 0)) (ivm (q1.getD i 0)) (ivm (q2.getD i 0)) F.n + 1 := by
      unfold Lk.al Fa.al
      dsimp only
      rw [List.length_cons, List.length_map, List.length_take, hcl, Nat.min_self]
    generalize Lk.al ⟨4, dvLa n0, F, nw, (k : Int), W⟩ (ivt now (q0.getD i 0)) (ivm (q1.getD i 0)) (ivm (q2.getD i 0)) = al at *
    rw [← hll] at c1 k9
    have hrep := rep_puts e2 (ivm (q1.getD i 0)) (ivm (q2.getD i 0)) (IntKind.i64.wrap ((k : Int) + 1)) (q3.getD i ⟨#[]⟩) al al.length (Nat.le_refl _)
    rw [List.take_length] at hrep
    have hinv := inv_sent e1 (show now ≤ ivt now (q0.getD i 0) by rw [wt]; omega) (by rw [wt]; omega) (ivm (q1.getD i 0)) (ivm (q2.getD i 0)) (q3.getD i ⟨#[]⟩) al hal (by omega)
    have ekk : (fun t => (⟨t, ivm (q1.getD i 0), ivm (q2.getD i 0), (B.length : Int) + 1, q3.getD i ⟨#[]⟩⟩ : Av)) = fun t => ⟨t, ivm (q1.getD i 0), ivm (q2.getD i 0), IntKind.i64.wrap ((k : Int) + 1), q3.getD i ⟨#[]⟩⟩ := by rw [ek, e0]; rfl
    rw [ekk] at hinv
    have hok : IvOk n0 r (i + 1) ⟨B ++ [⟨ivt now (q0.getD i 0), ivm (q1.getD i 0), ivm (q2.getD i 0), (B.length : Int) + 1, q3.getD i ⟨#[]⟩⟩], Q ++ al.map (fun t => ⟨t, ivm (q1.getD i 0), ivm (q2.getD i 0), IntKind.i64.wrap ((k : Int) + 1), q3.getD i ⟨#[]⟩⟩), k + 1, ivt now (q0.getD i 0), ivt now (q0.getD i 0), W.puts al (ivm (q1.getD i 0)) (ivm (q2.getD i 0)) (IntKind.i64.wrap ((k : Int) + 1)) (q3.getD i ⟨#[]⟩) al.length⟩ := ⟨by simp [e0], hinv, hrep, by dsimp only; rw [List.length_append, List.length_map]; omega, by dsimp only; omega, by dsimp only; rw [wt]; omega⟩
    repeat' ((conv => whnf); first | (refine vcall_out (l :=  [0, 3, 4, 5, 6]) (c1 ) ⟨rfl, rfl, rfl, rfl, (by (repeat' (first | exact trivial | exact GB_wf | exact fun _ _ => rfl | constructor)); first | done | fail), (by (repeat' (first | exact trivial | exact GB_fits rfl | constructor)); first | done | fail)⟩ ?_) | (refine vcallD_out (l :=  [0, 3, 4, 5, 6]) (c1 ) ⟨rfl, rfl, rfl, rfl, (by (repeat' (first | exact trivial | exact GB_wf | exact fun _ _ => rfl | constructor)); first | done | fail), (by (repeat' (first | exact trivial | exact GB_fits rfl | constructor)); first | done | fail)⟩ ?_) | (refine br_dec (fun h => ?_) (fun h => ?_) <;> try (exfalso; (try dsimp only at h); omega)) | (refine br_ndec (fun h => ?_) (fun h => ?_) <;> try (exfalso; (try dsimp only at h); omega)) | refine br_seq (fun h => ?_) (fun h => ?_) | refine br_nseq (fun h => ?_) (fun h => ?_) | refine br_not (fun h => ?_) (fun h => ?_) | refine br_intro (fun h => ?_) (fun h => ?_) | refine cond_intro rfl ?_ | (refine cond_intro ⟨rfl, ?_⟩ ?_; (first | omega | (dsimp only; omega) | decide)) | (refine cond_intro ?_ ?_; (first | omega | (dsimp only; omega) | decide | (simp only [Nat.add_zero, Int.toNat_natCast, *]; omega))))
    all_goals (conv => whnf)
    all_goals first
      | (exfalso; simp only [Nat.add_zero, Int.toNat_natCast] at *; omega)
      | (refine hN _ hok _ ⟨[0, 1, 2, 3, 4, 5, 9, 11], [], ?_⟩
         show Weak 3 _ _ ⟨ivE _ _ _ _ _ _, ivH _ _ _ _, 8⟩
         unfold ivE ivH
         dsimp only
         rw [hadd, ← ek]
         exact ⟨rfl, ⟨rfl, rfl, rfl, rfl, rfl, rfl, rfl, congrArg (fun z => some (SV.int .i64 z)) (i64_succ (by omega)), trivial⟩, ⟨rfl, rfl, rfl, rfl, rfl, rfl, rfl, trivial⟩⟩)
      | trace_state
end Go.Proofs.Ytpconbdoackcfaa
