/- The law on delivery: without faults every text arrives once, in the order of sending. -/
import Derived.Test.YtpconbdoackcfaaLkD
import Derived.Test.YtpconbdoackcfaaLkP
namespace Go.Proofs.Ytpconbdoackcfaa
open Go.RowKit Go.Sy
attribute [local irreducible] vcall vloop vcallD retP sortI
set_option maxRecDepth 100000
set_option linter.unusedVariables false
set_option linter.unusedSimpArgs false

abbrev dvL (la nw : Int) (k : Nat) (W : Wy) : Lk := ⟨4, la, fa0, nw, (k : Int), W⟩
theorem dv_lost (la nw : Int) (k : Nat) (W : Wy) (t x y : Int) : (dvL la nw k W).F.lost t x y (dvL la nw k W).F.n = false := rfl
theorem dv_sdW (la nw : Int) (k : Nat) (W : Wy) (t x y : Int) (s : ByteArray) : (dvL la nw k W).sdW t x y s = W.put (IntKind.i64.wrap (t + la)) x y (IntKind.i64.wrap ((k : Int) + 1)) s := rfl
theorem dv_sdE (la nw : Int) (k : Nat) (W : Wy) (t x y : Int) (s : ByteArray) (h1 : (0 ≤ x ∧ x < 4) ∧ (0 ≤ y ∧ y < 4)) (h2 : x ≠ y) (h3 : s.size ≤ 4000) (h4 : nw ≤ t) (h5 : t ≤ 1099511627776) (h6 : W.sum + 1 ≤ 256) : (dvL la nw k W).sdE t x y s = 0 := by
  have e : (dvL la nw k W).tn t x y = 1 := rfl
  unfold Lk.sdE
  rw [if_neg (by rintro (h | h); exact h h1; exact h2 h), if_neg (by omega), if_neg (by show ¬ (t < nw ∨ _); omega), e, if_neg (by show ¬ (256 < W.sum + ((1 : Nat) : Int)); omega)]
theorem dv_sdE4 (la nw : Int) (k : Nat) (W : Wy) (t x : Int) (s : ByteArray) : (dvL la nw k W).sdE t x x s = 4 := by
  unfold Lk.sdE
  rw [if_pos (.inr rfl)]

/-- Where the law stands: what was sent, how much of it was received, the clocks, the table. -/
structure Dv where
  A : List Av
  k : Nat
  g : Nat
  now : Int
  nw : Int
  W : Wy
structure DOk (n0 : Int) (i : Nat) (d : Dv) : Prop where
  lk : d.A.length = d.k
  la : d.k ≤ i
  lg : d.g ≤ d.k
  rep : Rep d.W (d.A.drop d.g)
  srt : d.A.Pairwise (fun a b => a.t ≤ b.t)
  top : ∀ a, a ∈ d.A → a.t ≤ d.now + n0 + 1
  cl : 0 ≤ d.nw ∧ d.nw ≤ d.now ∧ d.now ≤ 255 * (i : Int)
theorem take_le : ∀ (Q : List Av) (u : Int), Q.Pairwise (fun a b => a.t ≤ b.t) → Q.filter (fun a => decide (a.t ≤ u)) = Q.take (Q.filter (fun a => decide (a.t ≤ u))).length ∧ Q.filter (fun a => decide (u < a.t)) = Q.drop (Q.filter (fun a => decide (a.t ≤ u))).length
  | [], u, _ => ⟨rfl, rfl⟩
  | a :: Q, u, h => by
    obtain ⟨h1, h2⟩ := List.pairwise_cons.1 h
    obtain ⟨i1, i2⟩ := take_le Q u h2
    by_cases e : a.t ≤ u
    · have e' : ¬ u < a.t := by omega
      simp only [List.filter_cons, decide_eq_true e, decide_eq_false e', if_true, Bool.false_eq_true, if_false, List.length_cons, List.take_succ_cons, List.drop_succ_cons]
      exact ⟨by rw [← i1], i2⟩
    · have e' : u < a.t := by omega
      have hn : Q.filter (fun a => decide (a.t ≤ u)) = [] := List.filter_eq_nil_iff.2 fun b hb => by have := h1 b hb; simp; omega
      simp only [List.filter_cons, decide_eq_false e, decide_eq_true e', if_true, Bool.false_eq_true, if_false, hn, List.length_nil, List.take_zero, List.drop_zero]
      refine ⟨by trivial, ?_⟩
      rw [hn] at i2
      rw [i2]; rfl
abbrev dvA (l1 : Nat) (q0 q1 q2 : List Int) (q3 : List ByteArray) : HB := .one true (.cols l1 [.sc (.ints .u8 q0), .sc (.ints .u8 q1), .sc (.ints .u8 q2), .sc (.strs q3)])
abbrev dvH (AH : HB) (la : Int) (d : Dv) : Heap := [(1, some AH), (2, some (.one false (.cells [.int .i64 4, .int .i64 la, .sl 3 0 0 0, .int .i64 d.nw, .int .i64 (d.k : Int), .map 4 0]))), (3, some (faB false fa0)), (4, some (wyM false 5 d.W)), (5, some (wyF false d.W)), (6, some (.one false (arB d.k (arOf d.A)))), (7, some (.one false (arB d.g (arOf (d.A.take d.g)))))]
abbrev dvE (n0 : Int) (l1 i : Nat) (d : Dv) : Env := [(0, .int .u8 n0), (1, .sl 1 0 0 l1), (5, .ptr 2 0 0 0), (7, .int .i64 d.now), (8, .int .i64 (d.k : Int)), (9, .sl 6 0 0 d.k), (10, .sl 7 0 0 d.g), (11, .int .i64 i)]
abbrev dvLa (n0 : Int) : Int := IntKind.i64.wrap (IntKind.i64.wrap n0 + 1)
set_option maxHeartbeats 1000000 in
theorem dv_round (n0 : Int) (hn0 : 0 ≤ n0 ∧ n0 ≤ 255) (l1 : Nat) (q0 q1 q2 : List Int) (q3 : List ByteArray) (h200 : l1 ≤ 200) (i : Nat) (hi : i < l1) (b0 : 0 ≤ q0.getD i 0 ∧ q0.getD i 0 ≤ 255) (b1 : 0 ≤ q1.getD i 0 ∧ q1.getD i 0 ≤ 255) (b2 : 0 ≤ q2.getD i 0 ∧ q2.getD i 0 ≤ 255) (d : Dv) (hd : DOk n0 i d) (K : Exit → VS → Prop)
    (hK : ∀ v, retK T 2 [.tmp 4] (isOut (.bool true) [] 2) .ret v → K .ret v)
    (hN : ∀ d', DOk n0 (i + 1) d' → ∀ v, (∃ l u, upK u v (fun v => Weak 2 l v ⟨dvE n0 l1 (i + 1) d', dvH (dvA l1 q0 q1 q2 q3) (dvLa n0) d', 8⟩)) → K .normal v) :
    vcode Try.prog T 2 (lpc Try.f3 0) ⟨dvE n0 l1 i d, dvH (dvA l1 q0 q1 q2 q3) (dvLa n0) d, 8⟩ K := by
  have aw := lk_awake
  obtain ⟨A, k, g, now, nw, W⟩ := d
  obtain ⟨e1, e2, e3, e4, e5, e6, e7⟩ := hd
  dsimp only at e1 e2 e3 e4 e5 e6 e7
  have hQ : (A.drop g).length ≤ 200 := by rw [List.length_drop]; omega
  have w0 : IntKind.i64.wrap n0 = n0 := w64_in (by omega) (by omega)
  have w1 : IntKind.i64.wrap (q0.getD i 0) = q0.getD i 0 := w64_in (by omega) (by omega)
  have wt : IntKind.i64.wrap (now + IntKind.i64.wrap (q0.getD i 0)) = now + q0.getD i 0 := by rw [w1]; exact w64_in (by omega) (by omega)
  have wla : dvLa n0 = n0 + 1 := by unfold dvLa; rw [w0]; exact w64_in (by omega) (by omega)
  have m1 : 0 ≤ (q1.getD i 0).tmod 4 ∧ (q1.getD i 0).tmod 4 < 4 := by rw [Int.tmod_eq_emod_of_nonneg b1.1]; omega
  have m2 : 0 ≤ (q2.getD i 0).tmod 4 ∧ (q2.getD i 0).tmod 4 < 4 := by rw [Int.tmod_eq_emod_of_nonneg b2.1]; omega
  have wx : IntKind.i64.wrap ((q1.getD i 0).tmod 4) = (q1.getD i 0).tmod 4 := w64_in (by omega) (by omega)
  have wy : IntKind.i64.wrap ((q2.getD i 0).tmod 4) = (q2.getD i 0).tmod 4 := w64_in (by omega) (by omega)
  by_cases hs : (q3.getD i ⟨#[]⟩).size ≤ 100
  case neg =>
    repeat' ((conv => whnf); first | (refine vcall_pure (aw) rfl rfl rfl ?_) | (refine vcallD_pure (aw) rfl rfl rfl ?_) | (refine br_dec (fun h => ?_) (fun h => ?_) <;> try (exfalso; (try dsimp only at h); omega)) | (refine br_ndec (fun h => ?_) (fun h => ?_) <;> try (exfalso; (try dsimp only at h); omega)) | refine br_seq (fun h => ?_) (fun h => ?_) | refine br_nseq (fun h => ?_) (fun h => ?_) | refine br_not (fun h => ?_) (fun h => ?_) | refine br_intro (fun h => ?_) (fun h => ?_) | refine cond_intro rfl ?_ | (refine cond_intro ⟨rfl, ?_⟩ ?_; (first | omega | (dsimp only; omega) | decide)) | (refine cond_intro ?_ ?_; (first | omega | (dsimp only; omega) | decide | (simp only [Nat.add_zero, Int.toNat_natCast, *]; omega))))
    all_goals (conv => whnf)
    all_goals first
      | (refine hK _ ?_; (conv => whnf); exact ret_out (l := [0, 1]) rfl rfl trivial allRw_nil)
      | (exfalso; simp only [Nat.add_zero, Int.toNat_natCast] at *; omega)
  by_cases hxy : (q1.getD i 0).tmod 4 = (q2.getD i 0).tmod 4
  · have c1 := lk_Send_err (dvL (dvLa n0) nw k W) (IntKind.i64.wrap (now + IntKind.i64.wrap (q0.getD i 0))) (IntKind.i64.wrap ((q1.getD i 0).tmod 4)) (IntKind.i64.wrap ((q2.getD i 0).tmod 4)) (q3.getD i ⟨#[]⟩) (show 0 ≤ 1000 by decide) (e4.ok (by omega)) (by rw [hxy, dv_sdE4]; decide)
    rw [show (dvL (dvLa n0) nw k W).sdE (IntKind.i64.wrap (now + IntKind.i64.wrap (q0.getD i 0))) (IntKind.i64.wrap ((q1.getD i 0).tmod 4)) (IntKind.i64.wrap ((q2.getD i 0).tmod 4)) (q3.getD i ⟨#[]⟩) = 4 by rw [hxy, dv_sdE4]] at c1
    have hok : DOk n0 (i + 1) ⟨A, k, g, now + q0.getD i 0, nw, W⟩ := ⟨e1, by dsimp only; omega, e3, e4, e5, fun a ha => by have := e6 a ha; dsimp only; omega, by dsimp only; omega⟩
    repeat' ((conv => whnf); first | (refine vcall_out (l :=  [0, 2, 3, 4, 5]) (c1 ) ⟨rfl, rfl, rfl, rfl, (by (repeat' (first | exact trivial | exact GB_wf | exact fun _ _ => rfl | constructor)); first | done | fail), (by (repeat' (first | exact trivial | exact GB_fits rfl | constructor)); first | done | fail)⟩ ?_) | (refine vcallD_out (l :=  [0, 2, 3, 4, 5]) (c1 ) ⟨rfl, rfl, rfl, rfl, (by (repeat' (first | exact trivial | exact GB_wf | exact fun _ _ => rfl | constructor)); first | done | fail), (by (repeat' (first | exact trivial | exact GB_fits rfl | constructor)); first | done | fail)⟩ ?_) | (refine br_dec (fun h => ?_) (fun h => ?_) <;> try (exfalso; (try dsimp only at h); omega)) | (refine br_ndec (fun h => ?_) (fun h => ?_) <;> try (exfalso; (try dsimp only at h); omega)) | refine br_seq (fun h => ?_) (fun h => ?_) | refine br_nseq (fun h => ?_) (fun h => ?_) | refine br_not (fun h => ?_) (fun h => ?_) | refine br_intro (fun h => ?_) (fun h => ?_) | refine cond_intro rfl ?_ | (refine cond_intro ⟨rfl, ?_⟩ ?_; (first | omega | (dsimp only; omega) | decide)) | (refine cond_intro ?_ ?_; (first | omega | (dsimp only; omega) | decide | (simp only [Nat.add_zero, Int.toNat_natCast, *]; omega))))
    all_goals (conv => whnf)
    all_goals first
      | (exfalso; simp only [Nat.add_zero, Int.toNat_natCast] at *; omega)
      | exact hN _ hok _ ⟨[0, 1, 2, 3, 4, 5, 6, 7], [], ⟨rfl, ⟨rfl, rfl, rfl, congrArg (fun z => some (SV.int .i64 z)) wt, rfl, rfl, rfl, congrArg (fun z => some (SV.int .i64 z)) (i64_succ (by omega)), trivial⟩, ⟨rfl, rfl, rfl, rfl, rfl, rfl, rfl, trivial⟩⟩⟩
  · have c1 := lk_Send_ok (dvL (dvLa n0) nw k W) (IntKind.i64.wrap (now + IntKind.i64.wrap (q0.getD i 0))) (IntKind.i64.wrap ((q1.getD i 0).tmod 4)) (IntKind.i64.wrap ((q2.getD i 0).tmod 4)) (q3.getD i ⟨#[]⟩) (show 0 ≤ 999 by decide) (e4.ok (by omega)) (dv_sdE _ _ _ _ _ _ _ _ (by rw [wx, wy]; exact ⟨m1, m2⟩) (by rw [wx, wy]; exact hxy) (by omega) (by rw [wt]; omega) (by rw [wt]; omega) (by rw [e4.sum (by omega)]; omega)) (dv_lost _ _ _ _ _ _ _)
    have ela : IntKind.i64.wrap (IntKind.i64.wrap (now + IntKind.i64.wrap (q0.getD i 0)) + dvLa n0) = IntKind.i64.wrap (IntKind.i64.wrap (IntKind.i64.wrap (now + IntKind.i64.wrap (q0.getD i 0)) + IntKind.i64.wrap n0) + 1) := by
      rw [wt, wla, w0, w64_in (n := now + q0.getD i 0 + (n0 + 1)) (by omega) (by omega), w64_in (n := now + q0.getD i 0 + n0) (by omega) (by omega), w64_in (by omega) (by omega)]
      omega
    have eat : IntKind.i64.wrap (IntKind.i64.wrap (IntKind.i64.wrap (now + IntKind.i64.wrap (q0.getD i 0)) + IntKind.i64.wrap n0) + 1) = now + q0.getD i 0 + n0 + 1 := by
      rw [wt, w0, w64_in (n := now + q0.getD i 0 + n0) (by omega) (by omega), w64_in (by omega) (by omega)]
    rw [dv_sdW, ela] at c1
    have ek : IntKind.i64.wrap ((k : Int) + 1) = ((k + 1 : Nat) : Int) := i64_succ (by omega)
    obtain ⟨a, ha⟩ : ∃ a : Av, a = ⟨IntKind.i64.wrap (IntKind.i64.wrap (IntKind.i64.wrap (now + IntKind.i64.wrap (q0.getD i 0)) + IntKind.i64.wrap n0) + 1), IntKind.i64.wrap ((q1.getD i 0).tmod 4), IntKind.i64.wrap ((q2.getD i 0).tmod 4), IntKind.i64.wrap ((k : Int) + 1), q3.getD i ⟨#[]⟩⟩ := ⟨_, rfl⟩
    have hat : a.t = now + q0.getD i 0 + n0 + 1 := by rw [ha]; exact eat
    have rep1 := rep_put e4 a
    have hdr : (A ++ [a]).drop g = A.drop g ++ [a] := List.drop_append_of_le_length (by omega)
    have srt1 : (A ++ [a]).Pairwise (fun a b => a.t ≤ b.t) := by
      rw [List.pairwise_append]
      refine ⟨e5, by simp, fun x hx y hy => ?_⟩
      simp at hy; subst hy
      have := e6 x hx
      omega
    have top1 : ∀ b, b ∈ A ++ [a] → b.t ≤ now + q0.getD i 0 + n0 + 1 := by
      intro b hb
      rw [List.mem_append, List.mem_singleton] at hb
      rcases hb with hb | rfl
      · have := e6 b hb; omega
      · omega
    have hadd : arOf (A ++ [a]) = (arOf A).add (IntKind.i64.wrap (IntKind.i64.wrap (IntKind.i64.wrap (now + IntKind.i64.wrap (q0.getD i 0)) + IntKind.i64.wrap n0) + 1)) (IntKind.i64.wrap ((q1.getD i 0).tmod 4)) (IntKind.i64.wrap ((q2.getD i 0).tmod 4)) (IntKind.i64.wrap ((k : Int) + 1)) (q3.getD i ⟨#[]⟩) := by rw [← arOf_add, ha]
    have hp1 : W.put (IntKind.i64.wrap (IntKind.i64.wrap (IntKind.i64.wrap (now + IntKind.i64.wrap (q0.getD i 0)) + IntKind.i64.wrap n0) + 1)) (IntKind.i64.wrap ((q1.getD i 0).tmod 4)) (IntKind.i64.wrap ((q2.getD i 0).tmod 4)) (IntKind.i64.wrap ((k : Int) + 1)) (q3.getD i ⟨#[]⟩) = W.put a.t a.f a.o a.k a.x := by rw [ha]
    rw [hp1] at c1
    generalize W.put a.t a.f a.o a.k a.x = W1 at *
    have hl1 : (A.drop g ++ [a]).length ≤ 300 := by rw [List.length_append]; simp; omega
    by_cases h3 : (i : Int).tmod 3 = 0
    · have c2 := lk_Receive ⟨4, dvLa n0, fa0, IntKind.i64.wrap (now + IntKind.i64.wrap (q0.getD i 0)), IntKind.i64.wrap ((k : Int) + 1), W1⟩ (IntKind.i64.wrap (now + IntKind.i64.wrap (q0.getD i 0))) (rep1.ok (by omega)) rep1.nd (by have := rep1.n_le; dsimp only; omega)
      have erw : Lk.rnw ⟨4, dvLa n0, fa0, IntKind.i64.wrap (now + IntKind.i64.wrap (q0.getD i 0)), IntKind.i64.wrap ((k : Int) + 1), W1⟩ (IntKind.i64.wrap (now + IntKind.i64.wrap (q0.getD i 0))) = IntKind.i64.wrap (now + IntKind.i64.wrap (q0.getD i 0)) := by
        unfold Lk.rnw
        dsimp only
        rw [wt]; omega
      unfold rvO at c2
      rw [erw] at c2
      dsimp only at c2
      have sQ : (A.drop g ++ [a]).Pairwise (fun a b => a.t ≤ b.t) := by rw [← hdr]; exact srt1.drop
      obtain ⟨r1, r2, r3⟩ := rep_recv rep1 (IntKind.i64.wrap (now + IntKind.i64.wrap (q0.getD i 0)))
      rw [recv_sorted rep1 sQ] at r2 r3
      obtain ⟨t1, t2⟩ := take_le _ (IntKind.i64.wrap (now + IntKind.i64.wrap (q0.getD i 0))) sQ
      rw [t2] at r1
      rw [r2, r3] at c2
      generalize W1.dels (W1.due (IntKind.i64.wrap (now + IntKind.i64.wrap (q0.getD i 0)))) (W1.due (IntKind.i64.wrap (now + IntKind.i64.wrap (q0.getD i 0)))).length = W2 at *
      generalize hP : (A.drop g ++ [a]).filter (fun a => decide (a.t ≤ IntKind.i64.wrap (now + IntKind.i64.wrap (q0.getD i 0)))) = P at *
      have hPl : P.length ≤ (A.drop g ++ [a]).length := by rw [t1, List.length_take]; exact Nat.min_le_right _ _
      have hPl2 : g + P.length ≤ k + 1 := by rw [List.length_append, List.length_drop, List.length_singleton] at hPl; omega
      have htk : (A ++ [a]).take (g + P.length) = A.take g ++ P := by
        rw [List.take_add, hdr, ← t1, List.take_append_of_le_length (by omega)]
      have hcat : arOf ((A ++ [a]).take (g + P.length)) = (arOf (A.take g)).cat P.length (arOf P) := by rw [htk, arOf_cat]
      have hok : DOk n0 (i + 1) ⟨A ++ [a], k + 1, g + P.length, now + q0.getD i 0, IntKind.i64.wrap (now + IntKind.i64.wrap (q0.getD i 0)), W2⟩ := ⟨by simp [e1], by dsimp only; omega, by dsimp only; omega, by dsimp only; rw [← List.drop_drop, hdr]; exact r1, srt1, top1, by dsimp only; rw [wt]; omega⟩
      repeat' ((conv => whnf); first | (refine vcall_out (l :=  [0, 2, 3, 4, 5]) (c1 ) ⟨rfl, rfl, rfl, rfl, (by (repeat' (first | exact trivial | exact GB_wf | exact fun _ _ => rfl | constructor)); first | done | fail), (by (repeat' (first | exact trivial | exact GB_fits rfl | constructor)); first | done | fail)⟩ ?_) | (refine vcallD_out (l :=  [0, 2, 3, 4, 5]) (c1 ) ⟨rfl, rfl, rfl, rfl, (by (repeat' (first | exact trivial | exact GB_wf | exact fun _ _ => rfl | constructor)); first | done | fail), (by (repeat' (first | exact trivial | exact GB_fits rfl | constructor)); first | done | fail)⟩ ?_) | (refine vcall_out (l :=  [0, 2, 3, 4, 9]) (c2 ) ⟨rfl, rfl, rfl, rfl, (by (repeat' (first | exact trivial | exact GB_wf | exact fun _ _ => rfl | constructor)); first | done | fail), (by (repeat' (first | exact trivial | exact GB_fits rfl | constructor)); first | done | fail)⟩ ?_) | (refine vcallD_out (l :=  [0, 2, 3, 4, 9]) (c2 ) ⟨rfl, rfl, rfl, rfl, (by (repeat' (first | exact trivial | exact GB_wf | exact fun _ _ => rfl | constructor)); first | done | fail), (by (repeat' (first | exact trivial | exact GB_fits rfl | constructor)); first | done | fail)⟩ ?_) | (refine br_dec (fun h => ?_) (fun h => ?_) <;> try (exfalso; (try dsimp only at h); omega)) | (refine br_ndec (fun h => ?_) (fun h => ?_) <;> try (exfalso; (try dsimp only at h); omega)) | refine br_seq (fun h => ?_) (fun h => ?_) | refine br_nseq (fun h => ?_) (fun h => ?_) | refine br_not (fun h => ?_) (fun h => ?_) | refine br_intro (fun h => ?_) (fun h => ?_) | refine cond_intro rfl ?_ | (refine cond_intro ⟨rfl, ?_⟩ ?_; (first | omega | (dsimp only; omega) | decide)) | (refine cond_intro ?_ ?_; (first | omega | (dsimp only; omega) | decide | (simp only [Nat.add_zero, Int.toNat_natCast, *]; omega))))
      all_goals (conv => whnf)
      all_goals first
        | (exfalso; simp only [Nat.add_zero, Int.toNat_natCast] at *; omega)
        | (refine hN _ hok _ ⟨[0, 1, 2, 3, 4, 12, 11, 14], [], ?_⟩
           show Weak 2 _ _ ⟨dvE _ _ _ _, dvH _ _ _, 8⟩
           unfold dvE dvH
           dsimp only
           rw [hcat, hadd, ← ek]
           exact ⟨rfl, ⟨rfl, rfl, rfl, congrArg (fun z => some (SV.int .i64 z)) wt, rfl, rfl, rfl, congrArg (fun z => some (SV.int .i64 z)) (i64_succ (by omega)), trivial⟩, ⟨rfl, rfl, rfl, rfl, rfl, rfl, rfl, trivial⟩⟩)
        | trace_state
    · have hok : DOk n0 (i + 1) ⟨A ++ [a], k + 1, g, now + q0.getD i 0, IntKind.i64.wrap (now + IntKind.i64.wrap (q0.getD i 0)), W1⟩ := ⟨by simp [e1], by dsimp only; omega, by dsimp only; omega, by dsimp only; rw [hdr]; exact rep1, srt1, top1, by dsimp only; rw [wt]; omega⟩
      have htk : (A ++ [a]).take g = A.take g := List.take_append_of_le_length (by omega)
      repeat' ((conv => whnf); first | (refine vcall_out (l :=  [0, 2, 3, 4, 5]) (c1 ) ⟨rfl, rfl, rfl, rfl, (by (repeat' (first | exact trivial | exact GB_wf | exact fun _ _ => rfl | constructor)); first | done | fail), (by (repeat' (first | exact trivial | exact GB_fits rfl | constructor)); first | done | fail)⟩ ?_) | (refine vcallD_out (l :=  [0, 2, 3, 4, 5]) (c1 ) ⟨rfl, rfl, rfl, rfl, (by (repeat' (first | exact trivial | exact GB_wf | exact fun _ _ => rfl | constructor)); first | done | fail), (by (repeat' (first | exact trivial | exact GB_fits rfl | constructor)); first | done | fail)⟩ ?_) | (refine br_dec (fun h => ?_) (fun h => ?_) <;> try (exfalso; (try dsimp only at h); omega)) | (refine br_ndec (fun h => ?_) (fun h => ?_) <;> try (exfalso; (try dsimp only at h); omega)) | refine br_seq (fun h => ?_) (fun h => ?_) | refine br_nseq (fun h => ?_) (fun h => ?_) | refine br_not (fun h => ?_) (fun h => ?_) | refine br_intro (fun h => ?_) (fun h => ?_) | refine cond_intro rfl ?_ | (refine cond_intro ⟨rfl, ?_⟩ ?_; (first | omega | (dsimp only; omega) | decide)) | (refine cond_intro ?_ ?_; (first | omega | (dsimp only; omega) | decide | (simp only [Nat.add_zero, Int.toNat_natCast, *]; omega))))
      all_goals (conv => whnf)
      all_goals first
        | (exfalso; simp only [Nat.add_zero, Int.toNat_natCast] at *; omega)
        | (refine hN _ hok _ ⟨[0, 1, 2, 3, 4, 9, 11, 7], [], ?_⟩
           show Weak 2 _ _ ⟨dvE _ _ _ _, dvH _ _ _, 8⟩
           unfold dvE dvH
           dsimp only
           rw [htk, hadd, ← ek]
           exact ⟨rfl, ⟨rfl, rfl, rfl, congrArg (fun z => some (SV.int .i64 z)) wt, rfl, rfl, rfl, congrArg (fun z => some (SV.int .i64 z)) (i64_succ (by omega)), trivial⟩, ⟨rfl, rfl, rfl, rfl, rfl, rfl, rfl, trivial⟩⟩)
end Go.Proofs.Ytpconbdoackcfaa
