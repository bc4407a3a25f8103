/- The law on fallbacks: what is chosen is never down, and what follows goes through the later places. -/
import Derived.Test.YtkmbnniikncaiaaRtP
import Derived.Test.YtkmbnniikncaiaaRtA
namespace Go.Proofs.Ytkmbnniikncaiaa
open Go.RowKit Go.Sy
attribute [local irreducible] vcall vloop vcallD retP
set_option maxRecDepth 100000
set_option linter.unusedVariables false
set_option linter.unusedSimpArgs false

theorem fdTo_lt {L : Rg} {s : ByteArray} {i : Nat} : ∀ n, fdTo L s n = some i → i < n
  | 0, h => by cases h
  | n + 1, h => by
    simp only [fdTo] at h
    split at h
    · cases h; omega
    · have := fdTo_lt n h; omega
abbrev mkR (L : Rg) (m : Nat) (bi bp : List ByteArray) (f : Int) (d : Rt) : Rt := ⟨L, m, bi, bp, f, d.n, d.ks, d.vs, d.bs, d.ck⟩
theorem smB_true {L : Rg} {m : Nat} {bi bp : List ByteArray} (h : smB L m bi bp = true) : L.n ≤ 70 ∧ m ≤ 30 := by
  unfold smB at h
  simp only [Bool.and_eq_true, decide_eq_true_eq] at h
  exact h.1
theorem ch_iss {r : Rt} {s : ByteArray} (h : chE r s = 0) : 0 ≤ isX r.L (optS r.L.s (fdR r.L s)) r.L.n := by
  unfold chE at h
  by_cases h1 : panE s ≠ 0
  · rw [if_pos h1] at h; exact absurd h h1
  · rw [if_neg h1] at h
    cases hf : fdR r.L s with
    | none => rw [hf] at h; exact absurd h (by decide)
    | some i =>
      unfold fdR at hf
      split at hf
      · exact isX_find (fdTo_lt _ hf) rfl
      · cases hf

/-- Where the law stands: the step, the place, the party and the mode. -/
structure FS where
  st : Nat
  pl : Nat
  p : ByteArray
  md : Int
def FOk (r : Rt) (a : ByteArray) (x : FS) : Prop :=
  (x.md = 1 ∧ x.p = a ∧ x.st = 0 ∧ x.pl = 0 ∧ r.dn a = false) ∨
  (x.md = 2 ∧ x.st ≤ x.pl + 1 ∧ ∃ j, x.pl ≤ j ∧ j < r.m ∧ upB r a j ∧ x.p = r.bp.getD j ⟨#[]⟩ ∧ ∀ j', x.pl ≤ j' → j' < j → ¬ upB r a j') ∨
  (x.md = 3 ∧ x.st ≤ x.pl + 1 ∧ x.p = ⟨#[]⟩ ∧ ∀ j, x.pl ≤ j → j < r.m → ¬ upB r a j)
theorem FOk_next {r : Rt} {a : ByteArray} {st b : Nat} (hs : st ≤ b + 1) (hb : b ≤ r.m) : FOk r a ⟨st, b, fsP r a (paN r.bi a b), fsM r a (paN r.bi a b)⟩ := by
  rcases fs_next r a hb with ⟨h1, h2, h3⟩ | ⟨j, h1, h2, h3, h4, h5, h6⟩
  · exact .inr (.inr ⟨h1, hs, h2, h3⟩)
  · exact .inr (.inl ⟨h5, hs, j, h1, h2, h3, h4, h6⟩)
theorem FOk_first (r : Rt) (a : ByteArray) : FOk r a ⟨0, 0, ptX r a, mdX r a⟩ := by
  unfold ptX mdX
  cases h : r.dn a with
  | false => rw [if_pos rfl, if_pos rfl]; exact .inl ⟨rfl, rfl, rfl, rfl, h⟩
  | true => rw [if_neg (by decide), if_neg (by decide)]; exact FOk_next (b := 0) (by omega) (Nat.zero_le _)

abbrev lwH (L : Rg) (m : Nat) (bi bp : List ByteArray) (f : Int) (n2 : Nat) (q2 : List ByteArray) (d : Rt) : Heap := [(1, some (rgB L)), (2, some (bkB m bi bp)), (3, some (.one true (.cols n2 [.sc (.strs q2)]))), (4, some (.one false (.cells [.sl 1 0 0 L.n, .sl 2 0 0 m, .int .i64 f]))), (5, some (.one false (.cells [.sl 6 0 0 L.n, .sl 7 0 0 m, .int .i64 f, .map 8 0]))), (6, some (rgW L)), (7, some (bkW m bi bp)), (8, some (.one false (.obj (.map false false d.n [.strs d.ks] [.sc (.ints .i64 d.vs)] d.bs d.ck))))]

abbrev fbS (L : Rg) (m : Nat) (bi bp : List ByteArray) (f : Int) (i : Nat) (q2 : List ByteArray) (d : Rt) (a b : ByteArray) (x : FS) : VS := ⟨[(3, .ptr 4 0 0 0), (7, .ptr 5 0 0 0), (10, .ptr 9 0 0 0), (12, .str a), (13, .str b), (14, .int .i64 x.pl), (15, .int .i64 x.st)], (9, some (.one false (.cells [.str a, .str b, .str x.p, .int .i64 x.md]))) :: lwH L m bi bp f i q2 d, 10⟩
abbrev fbB : VS → (Exit → VS → Prop) → Prop := vcode Try.prog T 4 (lpc Try.f3 1)
def fbK (L : Rg) (m : Nat) (bi bp : List ByteArray) (f : Int) (i : Nat) (q2 : List ByteArray) (d : Rt) (a b : ByteArray) (K : Exit → VS → Prop) (x : FS) : Exit → VS → Prop := lpK 4 (fbS L m bi bp f i q2 d a b) (fun x => FOk (mkR L m bi bp f d) a x ∧ x.pl ≤ m) (fun x => 40 - x.st) K x
set_option maxHeartbeats 1000000 in
theorem fb_c1 (L : Rg) (m : Nat) (bi bp : List ByteArray) (f : Int) (i : Nat) (q2 : List ByteArray) (d : Rt) (a b : ByteArray) (hn : L.n ≤ 70) (hm : m ≤ 30) (hu : bkU m bi bp) (hiss : 0 ≤ isX L a L.n) (st pl : Nat) (p : ByteArray) (md : Int) (hpl : pl ≤ m) (e1 : md = 1) (e2 : p = a) (e3 : st = 0) (e4 : pl = 0) (e5 : (mkR L m bi bp f d).dn a = false) (K : Exit → VS → Prop) (hK : ∀ v, retK T 4 [.tmp 6] (isOut (.bool true) [] 4) .ret v → K .ret v) : fbB (fbS L m bi bp f i q2 d a b ⟨st, pl, p, md⟩) (fbK L m bi bp f i q2 d a b K ⟨st, pl, p, md⟩) := by
  have aw := rt_awake

  subst e1 e3 e4
  subst e2
  have ca := rt_After (mkR L m bi bp f d) p b p 1 (by dsimp only; omega) (by dsimp only; omega)
  have g1 : afE (mkR L m bi bp f d) p p 1 = 0 := if_pos ⟨hiss, .inl ⟨rfl, rfl⟩⟩
  have g2 : afI (mkR L m bi bp f d) p p 1 = paN bi p 0 := if_pos rfl
  have hn := FOk_next (r := mkR L m bi bp f d) (a := p) (st := 1) (b := 0) (by omega) (Nat.zero_le _)
  unfold afS at ca
  rw [if_pos g1, g1, g2] at ca
  dsimp only at hn
  generalize fsP (mkR L m bi bp f d) p (paN bi p 0) = px at *
  generalize fsM (mkR L m bi bp f d) p (paN bi p 0) = mx at *
  repeat' ((conv => whnf); first | (refine vcall_out (l :=  [0, 5, 6, 7, 8]) (ca ) ⟨rfl, rfl, rfl, rfl, (by (repeat' (first | exact trivial | exact GB_wf | constructor)); first | done | fail), (by (repeat' (first | exact trivial | exact GB_fits rfl | constructor)); first | done | fail)⟩ ?_) | (refine vcallD_out (l :=  [0, 5, 6, 7, 8]) (ca ) ⟨rfl, rfl, rfl, rfl, (by (repeat' (first | exact trivial | exact GB_wf | constructor)); first | done | fail), (by (repeat' (first | exact trivial | exact GB_fits rfl | constructor)); first | done | fail)⟩ ?_) | (refine br_dec (fun h => ?_) (fun h => ?_) <;> try (exfalso; (try dsimp only at h); omega)) | (refine br_ndec (fun h => ?_) (fun h => ?_) <;> try (exfalso; (try dsimp only at h); omega)) | refine br_seq (fun h => ?_) (fun h => ?_) | refine br_nseq (fun h => ?_) (fun h => ?_) | refine br_not (fun h => ?_) (fun h => ?_) | refine br_intro (fun h => ?_) (fun h => ?_) | refine cond_intro rfl ?_ | (refine cond_intro ⟨rfl, ?_⟩ ?_; (first | omega | (dsimp only; omega) | decide)) | (refine cond_intro ?_ ?_; (first | omega | (dsimp only; omega) | decide | (simp only [Nat.add_zero, Int.toNat_natCast, *]; omega))))
  all_goals (conv => whnf)
  all_goals first
    | exact ⟨⟨1, 0, px, mx⟩, [0, 1, 2, 3, 4, 5, 6, 7, 8, 9], [], ⟨hn, Nat.zero_le _⟩, by dsimp only; omega, ⟨rfl, ⟨rfl, rfl, rfl, rfl, rfl, rfl, rfl, trivial⟩, ⟨rfl, rfl, rfl, rfl, rfl, rfl, rfl, rfl, rfl, trivial⟩⟩⟩
    | (exfalso; omega)
    | (exfalso; exact absurd rfl h)
set_option maxHeartbeats 1000000 in
theorem fb_c2 (L : Rg) (m : Nat) (bi bp : List ByteArray) (f : Int) (i : Nat) (q2 : List ByteArray) (d : Rt) (a b : ByteArray) (hn : L.n ≤ 70) (hm : m ≤ 30) (hu : bkU m bi bp) (hiss : 0 ≤ isX L a L.n) (st pl : Nat) (p : ByteArray) (md : Int) (hpl : pl ≤ m) (e1 : md = 2) (e2 : st ≤ pl + 1) (j : Nat) (e3 : pl ≤ j) (e4 : j < m) (ej : upB (mkR L m bi bp f d) a j) (e5 : p = bp.getD j ⟨#[]⟩) (e7 : ∀ j', pl ≤ j' → j' < j → ¬ upB (mkR L m bi bp f d) a j') (K : Exit → VS → Prop) (hK : ∀ v, retK T 4 [.tmp 6] (isOut (.bool true) [] 4) .ret v → K .ret v) : fbB (fbS L m bi bp f i q2 d a b ⟨st, pl, p, md⟩) (fbK L m bi bp f i q2 d a b K ⟨st, pl, p, md⟩) := by
  have aw := rt_awake

  subst e1
  have hpe : p = bp.getD j ⟨#[]⟩ := e5
  have hst : stX (paL bi bp a m) p (paN bi a m) = (paN bi a j : Int) := by rw [hpe]; exact st_place hu e4 ej.1
  have ca := rt_After (mkR L m bi bp f d) a b p 2 (by dsimp only; omega) (by dsimp only; omega)
  have g1 : afE (mkR L m bi bp f d) a p 2 = 0 := if_pos ⟨hiss, .inr ⟨rfl, by dsimp only; rw [hst]; omega⟩⟩
  have g2 : afI (mkR L m bi bp f d) a p 2 = paN bi a (j + 1) := by
    unfold afI
    rw [if_neg (by decide)]
    dsimp only
    rw [hst, Int.toNat_natCast, paN_step_yes ej.1]
  have hn := FOk_next (r := mkR L m bi bp f d) (a := a) (st := st + 1) (b := j + 1) (by omega) (by dsimp only; omega)
  unfold afS at ca
  rw [if_pos g1, g1, g2] at ca
  dsimp only at hn
  generalize fsP (mkR L m bi bp f d) a (paN bi a (j + 1)) = px at *
  generalize fsM (mkR L m bi bp f d) a (paN bi a (j + 1)) = mx at *
  repeat' ((conv => whnf); first | (refine br_nseq (fun h => absurd rfl h) (fun h => ?_)) | (refine br_dec (fun h => ?_) (fun h => ?_) <;> try (exfalso; (try dsimp only at h); omega)) | (refine br_ndec (fun h => ?_) (fun h => ?_) <;> try (exfalso; (try dsimp only at h); omega)) | refine br_seq (fun h => ?_) (fun h => ?_) | refine br_nseq (fun h => ?_) (fun h => ?_) | refine br_not (fun h => ?_) (fun h => ?_) | refine br_intro (fun h => ?_) (fun h => ?_) | refine cond_intro rfl ?_ | (refine cond_intro ⟨rfl, ?_⟩ ?_; (first | omega | (dsimp only; omega) | decide)) | (refine cond_intro ?_ ?_; (first | omega | (dsimp only; omega) | decide | (simp only [Nat.add_zero, Int.toNat_natCast, *]; omega))))
  all_goals (conv => whnf)
  refine vloop_of (fun k : Nat => ⟨[(3, .ptr 4 0 0 0), (7, .ptr 5 0 0 0), (10, .ptr 9 0 0 0), (12, .str a), (13, .str b), (14, .int .i64 k), (15, .int .i64 st)], (9, some (.one false (.cells [.str a, .str b, .str p, .int .i64 2]))) :: lwH L m bi bp f i q2 d, 10⟩) (fun k => pl ≤ k ∧ k ≤ j) (fun k => j - k) pl [0, 1, 2, 3, 4, 5, 6, 7, 8, 9] [] ⟨rfl, ⟨rfl, rfl, rfl, rfl, rfl, rfl, rfl, trivial⟩, ⟨rfl, rfl, rfl, rfl, rfl, rfl, rfl, rfl, rfl, trivial⟩⟩ ⟨Nat.le_refl _, e3⟩ ?_
  rintro k ⟨hk1, hk2⟩
  have cdk := rt_Down (mkR L m bi bp f d) (bp.getD k ⟨#[]⟩)
  by_cases hkj : k < j
  · have hnu := e7 k hk1 hkj
    by_cases hq : bi.getD k ⟨#[]⟩ = a
    · have hdk : (mkR L m bi bp f d).dn (bp.getD k ⟨#[]⟩) = true := by
        cases e : (mkR L m bi bp f d).dn (bp.getD k ⟨#[]⟩) with
        | true => rfl
        | false => exact absurd ⟨hq, e⟩ hnu
      rw [hdk] at cdk
      repeat' ((conv => whnf); first | (refine br_nseq (fun h => absurd hq h) (fun h => ?_)) | (refine vcall_out (l :=  [0, 5, 6, 7, 8]) (cdk ) ⟨rfl, rfl, rfl, rfl, (by (repeat' (first | exact trivial | exact GB_wf | constructor)); first | done | fail), (by (repeat' (first | exact trivial | exact GB_fits rfl | constructor)); first | done | fail)⟩ ?_) | (refine vcallD_out (l :=  [0, 5, 6, 7, 8]) (cdk ) ⟨rfl, rfl, rfl, rfl, (by (repeat' (first | exact trivial | exact GB_wf | constructor)); first | done | fail), (by (repeat' (first | exact trivial | exact GB_fits rfl | constructor)); first | done | fail)⟩ ?_) | (refine br_dec (fun h => ?_) (fun h => ?_) <;> try (exfalso; (try dsimp only at h); omega)) | (refine br_ndec (fun h => ?_) (fun h => ?_) <;> try (exfalso; (try dsimp only at h); omega)) | refine br_seq (fun h => ?_) (fun h => ?_) | refine br_nseq (fun h => ?_) (fun h => ?_) | refine br_not (fun h => ?_) (fun h => ?_) | refine br_intro (fun h => ?_) (fun h => ?_) | refine cond_intro rfl ?_ | (refine cond_intro ⟨rfl, ?_⟩ ?_; (first | omega | (dsimp only; omega) | decide)) | (refine cond_intro ?_ ?_; (first | omega | (dsimp only; omega) | decide | (simp only [Nat.add_zero, Int.toNat_natCast, *]; omega))))
      all_goals (conv => whnf)
      all_goals first
        | exact ⟨k + 1, [0, 1, 2, 3, 4, 5, 6, 7, 8, 9], [], ⟨by omega, by omega⟩, by omega, ⟨rfl, ⟨rfl, rfl, rfl, rfl, rfl, congrArg (fun z => some (SV.int .i64 z)) (i64_succ (by omega)), rfl, trivial⟩, ⟨rfl, rfl, rfl, rfl, rfl, rfl, rfl, rfl, rfl, trivial⟩⟩⟩
        | (exfalso; omega)
    · repeat' ((conv => whnf); first | (refine br_nseq (fun h => ?_) (fun h => absurd h hq)) | (refine br_dec (fun h => ?_) (fun h => ?_) <;> try (exfalso; (try dsimp only at h); omega)) | (refine br_ndec (fun h => ?_) (fun h => ?_) <;> try (exfalso; (try dsimp only at h); omega)) | refine br_seq (fun h => ?_) (fun h => ?_) | refine br_nseq (fun h => ?_) (fun h => ?_) | refine br_not (fun h => ?_) (fun h => ?_) | refine br_intro (fun h => ?_) (fun h => ?_) | refine cond_intro rfl ?_ | (refine cond_intro ⟨rfl, ?_⟩ ?_; (first | omega | (dsimp only; omega) | decide)) | (refine cond_intro ?_ ?_; (first | omega | (dsimp only; omega) | decide | (simp only [Nat.add_zero, Int.toNat_natCast, *]; omega))))
      all_goals (conv => whnf)
      all_goals first
        | exact ⟨k + 1, [0, 1, 2, 3, 4, 5, 6, 7, 8, 9], [], ⟨by omega, by omega⟩, by omega, ⟨rfl, ⟨rfl, rfl, rfl, rfl, rfl, congrArg (fun z => some (SV.int .i64 z)) (i64_succ (by omega)), rfl, trivial⟩, ⟨rfl, rfl, rfl, rfl, rfl, rfl, rfl, rfl, rfl, trivial⟩⟩⟩
        | (exfalso; omega)
  · obtain rfl : k = j := by omega
    obtain ⟨hq, hdk⟩ := ej
    have hdk' : (mkR L m bi bp f d).dn (bp.getD k ⟨#[]⟩) = false := hdk
    rw [hdk'] at cdk
    dsimp only at hq e4
    repeat' ((conv => whnf); first | (refine br_nseq (fun h => absurd hq h) (fun h => ?_)) | (refine br_nseq (fun h => absurd hpe h) (fun h => ?_)) | (refine vcall_out (l :=  [0, 5, 6, 7, 8]) (cdk ) ⟨rfl, rfl, rfl, rfl, (by (repeat' (first | exact trivial | exact GB_wf | constructor)); first | done | fail), (by (repeat' (first | exact trivial | exact GB_fits rfl | constructor)); first | done | fail)⟩ ?_) | (refine vcallD_out (l :=  [0, 5, 6, 7, 8]) (cdk ) ⟨rfl, rfl, rfl, rfl, (by (repeat' (first | exact trivial | exact GB_wf | constructor)); first | done | fail), (by (repeat' (first | exact trivial | exact GB_fits rfl | constructor)); first | done | fail)⟩ ?_) | (refine vcall_out (l :=  [0, 5, 6, 7, 8]) (ca ) ⟨rfl, rfl, rfl, rfl, (by (repeat' (first | exact trivial | exact GB_wf | constructor)); first | done | fail), (by (repeat' (first | exact trivial | exact GB_fits rfl | constructor)); first | done | fail)⟩ ?_) | (refine vcallD_out (l :=  [0, 5, 6, 7, 8]) (ca ) ⟨rfl, rfl, rfl, rfl, (by (repeat' (first | exact trivial | exact GB_wf | constructor)); first | done | fail), (by (repeat' (first | exact trivial | exact GB_fits rfl | constructor)); first | done | fail)⟩ ?_) | (refine br_dec (fun h => ?_) (fun h => ?_) <;> try (exfalso; (try dsimp only at h); omega)) | (refine br_ndec (fun h => ?_) (fun h => ?_) <;> try (exfalso; (try dsimp only at h); omega)) | refine br_seq (fun h => ?_) (fun h => ?_) | refine br_nseq (fun h => ?_) (fun h => ?_) | refine br_not (fun h => ?_) (fun h => ?_) | refine br_intro (fun h => ?_) (fun h => ?_) | refine cond_intro rfl ?_ | (refine cond_intro ⟨rfl, ?_⟩ ?_; (first | omega | (dsimp only; omega) | decide)) | (refine cond_intro ?_ ?_; (first | omega | (dsimp only; omega) | decide | (simp only [Nat.add_zero, Int.toNat_natCast, *]; omega))))
    all_goals (conv => whnf)
    all_goals first
      | exact ⟨⟨st + 1, k + 1, px, mx⟩, [0, 1, 2, 3, 4, 5, 6, 7, 8, 9], [], ⟨hn, by dsimp only; omega⟩, by dsimp only; omega, ⟨rfl, ⟨rfl, rfl, rfl, rfl, rfl, congrArg (fun z => some (SV.int .i64 z)) (i64_succ (by omega)), congrArg (fun z => some (SV.int .i64 z)) (i64_succ (by omega)), trivial⟩, ⟨rfl, rfl, rfl, rfl, rfl, rfl, rfl, rfl, rfl, trivial⟩⟩⟩
      | (exfalso; omega)
set_option maxHeartbeats 1000000 in
theorem fb_c3 (L : Rg) (m : Nat) (bi bp : List ByteArray) (f : Int) (i : Nat) (q2 : List ByteArray) (d : Rt) (a b : ByteArray) (hn : L.n ≤ 70) (hm : m ≤ 30) (hu : bkU m bi bp) (hiss : 0 ≤ isX L a L.n) (st pl : Nat) (p : ByteArray) (md : Int) (hpl : pl ≤ m) (e1 : md = 3) (e2 : st ≤ pl + 1) (e3 : p = ⟨#[]⟩) (e4 : ∀ j, pl ≤ j → j < m → ¬ upB (mkR L m bi bp f d) a j) (K : Exit → VS → Prop) (hK : ∀ v, retK T 4 [.tmp 6] (isOut (.bool true) [] 4) .ret v → K .ret v) : fbB (fbS L m bi bp f i q2 d a b ⟨st, pl, p, md⟩) (fbK L m bi bp f i q2 d a b K ⟨st, pl, p, md⟩) := by
  have aw := rt_awake

  subst e1 e3
  have ca := rt_After (mkR L m bi bp f d) a b ⟨#[]⟩ 3 (by dsimp only; omega) (by dsimp only; omega)
  have g1 : afE (mkR L m bi bp f d) a ⟨#[]⟩ 3 = 6 := if_neg (fun h => by rcases h.2 with h | h <;> omega)
  unfold afS at ca
  rw [g1, if_neg (by decide)] at ca
  repeat' ((conv => whnf); first | (refine br_nseq (fun h => absurd rfl h) (fun h => ?_)) | (refine br_dec (fun h => ?_) (fun h => ?_) <;> try (exfalso; (try dsimp only at h); omega)) | (refine br_ndec (fun h => ?_) (fun h => ?_) <;> try (exfalso; (try dsimp only at h); omega)) | refine br_seq (fun h => ?_) (fun h => ?_) | refine br_nseq (fun h => ?_) (fun h => ?_) | refine br_not (fun h => ?_) (fun h => ?_) | refine br_intro (fun h => ?_) (fun h => ?_) | refine cond_intro rfl ?_ | (refine cond_intro ⟨rfl, ?_⟩ ?_; (first | omega | (dsimp only; omega) | decide)) | (refine cond_intro ?_ ?_; (first | omega | (dsimp only; omega) | decide | (simp only [Nat.add_zero, Int.toNat_natCast, *]; omega))))
  all_goals (conv => whnf)
  refine vloop_of (fun k : Nat => ⟨[(3, .ptr 4 0 0 0), (7, .ptr 5 0 0 0), (10, .ptr 9 0 0 0), (12, .str a), (13, .str b), (14, .int .i64 k), (15, .int .i64 st)], (9, some (.one false (.cells [.str a, .str b, .str ⟨#[]⟩, .int .i64 3]))) :: lwH L m bi bp f i q2 d, 10⟩) (fun k => pl ≤ k ∧ k ≤ m) (fun k => m - k) pl [0, 1, 2, 3, 4, 5, 6, 7, 8, 9] [] ⟨rfl, ⟨rfl, rfl, rfl, rfl, rfl, rfl, rfl, trivial⟩, ⟨rfl, rfl, rfl, rfl, rfl, rfl, rfl, rfl, rfl, trivial⟩⟩ ⟨Nat.le_refl _, hpl⟩ ?_
  rintro k ⟨hk1, hk2⟩
  by_cases hkm : k < m
  · have cdk := rt_Down (mkR L m bi bp f d) (bp.getD k ⟨#[]⟩)
    have hnu := e4 k hk1 hkm
    by_cases hq : bi.getD k ⟨#[]⟩ = a
    · have hdk : (mkR L m bi bp f d).dn (bp.getD k ⟨#[]⟩) = true := by
        cases e : (mkR L m bi bp f d).dn (bp.getD k ⟨#[]⟩) with
        | true => rfl
        | false => exact absurd ⟨hq, e⟩ hnu
      rw [hdk] at cdk
      repeat' ((conv => whnf); first | (refine br_seq (fun h => ?_) (fun h => absurd hq h)) | (refine vcall_out (l :=  [0, 5, 6, 7, 8]) (cdk ) ⟨rfl, rfl, rfl, rfl, (by (repeat' (first | exact trivial | exact GB_wf | constructor)); first | done | fail), (by (repeat' (first | exact trivial | exact GB_fits rfl | constructor)); first | done | fail)⟩ ?_) | (refine vcallD_out (l :=  [0, 5, 6, 7, 8]) (cdk ) ⟨rfl, rfl, rfl, rfl, (by (repeat' (first | exact trivial | exact GB_wf | constructor)); first | done | fail), (by (repeat' (first | exact trivial | exact GB_fits rfl | constructor)); first | done | fail)⟩ ?_) | (refine br_dec (fun h => ?_) (fun h => ?_) <;> try (exfalso; (try dsimp only at h); omega)) | (refine br_ndec (fun h => ?_) (fun h => ?_) <;> try (exfalso; (try dsimp only at h); omega)) | refine br_seq (fun h => ?_) (fun h => ?_) | refine br_nseq (fun h => ?_) (fun h => ?_) | refine br_not (fun h => ?_) (fun h => ?_) | refine br_intro (fun h => ?_) (fun h => ?_) | refine cond_intro rfl ?_ | (refine cond_intro ⟨rfl, ?_⟩ ?_; (first | omega | (dsimp only; omega) | decide)) | (refine cond_intro ?_ ?_; (first | omega | (dsimp only; omega) | decide | (simp only [Nat.add_zero, Int.toNat_natCast, *]; omega))))
      all_goals (conv => whnf)
      all_goals first
        | exact ⟨k + 1, [0, 1, 2, 3, 4, 5, 6, 7, 8, 9], [], ⟨by omega, by omega⟩, by omega, ⟨rfl, ⟨rfl, rfl, rfl, rfl, rfl, congrArg (fun z => some (SV.int .i64 z)) (i64_succ (by omega)), rfl, trivial⟩, ⟨rfl, rfl, rfl, rfl, rfl, rfl, rfl, rfl, rfl, trivial⟩⟩⟩
        | (exfalso; omega)
    · repeat' ((conv => whnf); first | (refine br_seq (fun h => absurd h hq) (fun h => ?_)) | (refine br_dec (fun h => ?_) (fun h => ?_) <;> try (exfalso; (try dsimp only at h); omega)) | (refine br_ndec (fun h => ?_) (fun h => ?_) <;> try (exfalso; (try dsimp only at h); omega)) | refine br_seq (fun h => ?_) (fun h => ?_) | refine br_nseq (fun h => ?_) (fun h => ?_) | refine br_not (fun h => ?_) (fun h => ?_) | refine br_intro (fun h => ?_) (fun h => ?_) | refine cond_intro rfl ?_ | (refine cond_intro ⟨rfl, ?_⟩ ?_; (first | omega | (dsimp only; omega) | decide)) | (refine cond_intro ?_ ?_; (first | omega | (dsimp only; omega) | decide | (simp only [Nat.add_zero, Int.toNat_natCast, *]; omega))))
      all_goals (conv => whnf)
      all_goals first
        | exact ⟨k + 1, [0, 1, 2, 3, 4, 5, 6, 7, 8, 9], [], ⟨by omega, by omega⟩, by omega, ⟨rfl, ⟨rfl, rfl, rfl, rfl, rfl, congrArg (fun z => some (SV.int .i64 z)) (i64_succ (by omega)), rfl, trivial⟩, ⟨rfl, rfl, rfl, rfl, rfl, rfl, rfl, rfl, rfl, trivial⟩⟩⟩
        | (exfalso; omega)
  · obtain rfl : k = m := by omega
    repeat' ((conv => whnf); first | (refine vcall_pure (aw) rfl rfl rfl ?_) | (refine vcallD_pure (aw) rfl rfl rfl ?_) | (refine vcall_out (l :=  [0, 5, 6, 7, 8]) (ca ) ⟨rfl, rfl, rfl, rfl, (by (repeat' (first | exact trivial | exact GB_wf | constructor)); first | done | fail), (by (repeat' (first | exact trivial | exact GB_fits rfl | constructor)); first | done | fail)⟩ ?_) | (refine vcallD_out (l :=  [0, 5, 6, 7, 8]) (ca ) ⟨rfl, rfl, rfl, rfl, (by (repeat' (first | exact trivial | exact GB_wf | constructor)); first | done | fail), (by (repeat' (first | exact trivial | exact GB_fits rfl | constructor)); first | done | fail)⟩ ?_) | (refine br_dec (fun h => ?_) (fun h => ?_) <;> try (exfalso; (try dsimp only at h); omega)) | (refine br_ndec (fun h => ?_) (fun h => ?_) <;> try (exfalso; (try dsimp only at h); omega)) | refine br_seq (fun h => ?_) (fun h => ?_) | refine br_nseq (fun h => ?_) (fun h => ?_) | refine br_not (fun h => ?_) (fun h => ?_) | refine br_intro (fun h => ?_) (fun h => ?_) | refine cond_intro rfl ?_ | (refine cond_intro ⟨rfl, ?_⟩ ?_; (first | omega | (dsimp only; omega) | decide)) | (refine cond_intro ?_ ?_; (first | omega | (dsimp only; omega) | decide | (simp only [Nat.add_zero, Int.toNat_natCast, *]; omega))))
    all_goals (conv => whnf)
    all_goals first
      | (refine hK _ ?_; (conv => whnf); exact ret_out (l := [0, 1, 2, 3]) rfl rfl trivial allRw_nil)
      | (exfalso; omega)
      | (exfalso; exact absurd rfl h)
theorem fb_loop (L : Rg) (m : Nat) (bi bp : List ByteArray) (f : Int) (i : Nat) (q2 : List ByteArray) (d : Rt) (a b p0 : ByteArray) (m0 : Int) (hn : L.n ≤ 70) (hm : m ≤ 30) (hu : bkU m bi bp) (hiss : 0 ≤ isX L a L.n) (hok : FOk (mkR L m bi bp f d) a ⟨0, 0, p0, m0⟩) (vs : VS) (K : Exit → VS → Prop)
    (hw : Weak 4 [0, 1, 2, 3, 4, 5, 6, 7, 8, 9] vs (fbS L m bi bp f i q2 d a b ⟨0, 0, p0, m0⟩))
    (hK : ∀ v, retK T 4 [.tmp 6] (isOut (.bool true) [] 4) .ret v → K .ret v) : vloop 4 (vcode Try.prog T 4 (lpc Try.f3 1)) vs K := by
  refine vloop_lp (fbS L m bi bp f i q2 d a b) (fun x => FOk (mkR L m bi bp f d) a x ∧ x.pl ≤ m) (fun x => 40 - x.st) ⟨0, 0, p0, m0⟩ _ [] hw ⟨hok, Nat.zero_le _⟩ ?_
  rintro ⟨st, pl, p, md⟩ ⟨hx, hpl⟩
  rcases hx with ⟨e1, e2, e3, e4, e5⟩ | ⟨e1, e2, j, e3, e4, ej, e5, e7⟩ | ⟨e1, e2, e3, e4⟩
  · exact fb_c1 L m bi bp f i q2 d a b hn hm hu hiss st pl p md hpl e1 e2 e3 e4 e5 K hK
  · exact fb_c2 L m bi bp f i q2 d a b hn hm hu hiss st pl p md hpl e1 e2 j e3 e4 ej e5 e7 K hK
  · exact fb_c3 L m bi bp f i q2 d a b hn hm hu hiss st pl p md hpl e1 e2 e3 e4 K hK
set_option maxHeartbeats 1000000 in
theorem fb_core (L : Rg) (m : Nat) (bi bp : List ByteArray) (f : Int) (s1 : ByteArray) (n2 : Nat) (q2 : List ByteArray) (h1 : L.lo.length = L.n) (h2 : L.hi.length = L.n) (h3 : L.is.length = L.n) (h4 : L.pr.length = L.n) (h5 : bi.length = m) (h6 : bp.length = m) :
    FC Try.prog 4 3 [.agg [.sl 1 0 0 L.n, .sl 2 0 0 m, .int .i64 f], .str s1, .sl 3 0 0 n2] [(1, some (rgB L)), (2, some (bkB m bi bp)), (3, some (.one true (.cols n2 [.sc (.strs q2)])))] (isOut (.bool true) [] 4) := by
  have aw := rt_awake
  have cs := law_small L m bi bp f
  cases hsm : smB L m bi bp with
  | false =>
    rw [hsm] at cs
    refine fc_of mixed T_ok Try.func3 rfl (by kernel_rfl) (by kernel_rfl) (by kernel_rfl) ?_
    repeat' ((conv => whnf); first | (refine vcall_pure (aw) rfl rfl rfl ?_) | (refine vcallD_pure (aw) rfl rfl rfl ?_) | (refine vcall_out (l :=  [0, 1, 2]) (cs ) ⟨rfl, rfl, rfl, rfl, (by (repeat' (first | exact trivial | exact GB_wf | constructor)); first | done | fail), (by (repeat' (first | exact trivial | exact GB_fits rfl | constructor)); first | done | fail)⟩ ?_) | (refine vcallD_out (l :=  [0, 1, 2]) (cs ) ⟨rfl, rfl, rfl, rfl, (by (repeat' (first | exact trivial | exact GB_wf | constructor)); first | done | fail), (by (repeat' (first | exact trivial | exact GB_fits rfl | constructor)); first | done | fail)⟩ ?_) | (refine br_dec (fun h => ?_) (fun h => ?_) <;> try (exfalso; (try dsimp only at h); omega)) | (refine br_ndec (fun h => ?_) (fun h => ?_) <;> try (exfalso; (try dsimp only at h); omega)) | refine br_seq (fun h => ?_) (fun h => ?_) | refine br_nseq (fun h => ?_) (fun h => ?_) | refine br_not (fun h => ?_) (fun h => ?_) | refine br_intro (fun h => ?_) (fun h => ?_) | refine cond_intro rfl ?_ | (refine cond_intro ⟨rfl, ?_⟩ ?_; (first | omega | (dsimp only; omega) | decide)) | (refine cond_intro ?_ ?_; (first | omega | (dsimp only; omega) | decide | (simp only [Nat.add_zero, Int.toNat_natCast, *]; omega))))
    all_goals (conv => whnf)
    all_goals exact ret_out (l := [0, 1, 2, 3]) rfl rfl trivial allRw_nil
  | true =>
    rw [hsm] at cs
    obtain ⟨hn, hm⟩ := smB_true hsm
    by_cases hE : nwE L m bi bp f = 0
    case neg =>
      have ce := rt_New_err L m bi bp f (by omega) (by omega) hE
      generalize nwE L m bi bp f = e at *
      refine fc_of mixed T_ok Try.func3 rfl (by kernel_rfl) (by kernel_rfl) (by kernel_rfl) ?_
      repeat' ((conv => whnf); first | (refine vcall_pure (aw) rfl rfl rfl ?_) | (refine vcallD_pure (aw) rfl rfl rfl ?_) | (refine vcall_out (l :=  [0, 1, 2]) (cs ) ⟨rfl, rfl, rfl, rfl, (by (repeat' (first | exact trivial | exact GB_wf | constructor)); first | done | fail), (by (repeat' (first | exact trivial | exact GB_fits rfl | constructor)); first | done | fail)⟩ ?_) | (refine vcallD_out (l :=  [0, 1, 2]) (cs ) ⟨rfl, rfl, rfl, rfl, (by (repeat' (first | exact trivial | exact GB_wf | constructor)); first | done | fail), (by (repeat' (first | exact trivial | exact GB_fits rfl | constructor)); first | done | fail)⟩ ?_) | (refine vcall_out (l :=  [0, 1, 2]) (ce ) ⟨rfl, rfl, rfl, rfl, (by (repeat' (first | exact trivial | exact GB_wf | constructor)); first | done | fail), (by (repeat' (first | exact trivial | exact GB_fits rfl | constructor)); first | done | fail)⟩ ?_) | (refine vcallD_out (l :=  [0, 1, 2]) (ce ) ⟨rfl, rfl, rfl, rfl, (by (repeat' (first | exact trivial | exact GB_wf | constructor)); first | done | fail), (by (repeat' (first | exact trivial | exact GB_fits rfl | constructor)); first | done | fail)⟩ ?_) | (refine br_dec (fun h => ?_) (fun h => ?_) <;> try (exfalso; (try dsimp only at h); omega)) | (refine br_ndec (fun h => ?_) (fun h => ?_) <;> try (exfalso; (try dsimp only at h); omega)) | refine br_seq (fun h => ?_) (fun h => ?_) | refine br_nseq (fun h => ?_) (fun h => ?_) | refine br_not (fun h => ?_) (fun h => ?_) | refine br_intro (fun h => ?_) (fun h => ?_) | refine cond_intro rfl ?_ | (refine cond_intro ⟨rfl, ?_⟩ ?_; (first | omega | (dsimp only; omega) | decide)) | (refine cond_intro ?_ ?_; (first | omega | (dsimp only; omega) | decide | (simp only [Nat.add_zero, Int.toNat_natCast, *]; omega))))
      all_goals (conv => whnf)
      all_goals first
        | exact ret_out (l := [0, 1, 2, 3]) rfl rfl trivial allRw_nil
        | (exfalso; omega)
    have cn := rt_New_ok L m bi bp f (by omega) (by omega) hE h1 h2 h3 h4 h5 h6
    obtain ⟨hx, hbe, hf1, hf2⟩ := nwE_zero hE
    have hu : bkU m bi bp := fun k hk => (beK_zero (beA_zero m hbe hk)).2.2.2.2
    generalize nwR L m bi bp f = d0 at *
    by_cases hl2 : n2 ≤ 200 ∧ s1.size ≤ 100
    case neg =>
      by_cases hl3 : n2 ≤ 200
      · refine fc_of mixed T_ok Try.func3 rfl (by kernel_rfl) (by kernel_rfl) (by kernel_rfl) ?_
        repeat' ((conv => whnf); first | (refine vcall_pure (aw) rfl rfl rfl ?_) | (refine vcallD_pure (aw) rfl rfl rfl ?_) | (refine vcall_out (l :=  [0, 1, 2]) (cs ) ⟨rfl, rfl, rfl, rfl, (by (repeat' (first | exact trivial | exact GB_wf | constructor)); first | done | fail), (by (repeat' (first | exact trivial | exact GB_fits rfl | constructor)); first | done | fail)⟩ ?_) | (refine vcallD_out (l :=  [0, 1, 2]) (cs ) ⟨rfl, rfl, rfl, rfl, (by (repeat' (first | exact trivial | exact GB_wf | constructor)); first | done | fail), (by (repeat' (first | exact trivial | exact GB_fits rfl | constructor)); first | done | fail)⟩ ?_) | (refine br_dec (fun h => ?_) (fun h => ?_) <;> try (exfalso; (try dsimp only at h); omega)) | (refine br_ndec (fun h => ?_) (fun h => ?_) <;> try (exfalso; (try dsimp only at h); omega)) | refine br_seq (fun h => ?_) (fun h => ?_) | refine br_nseq (fun h => ?_) (fun h => ?_) | refine br_not (fun h => ?_) (fun h => ?_) | refine br_intro (fun h => ?_) (fun h => ?_) | refine cond_intro rfl ?_ | (refine cond_intro ⟨rfl, ?_⟩ ?_; (first | omega | (dsimp only; omega) | decide)) | (refine cond_intro ?_ ?_; (first | omega | (dsimp only; omega) | decide | (simp only [Nat.add_zero, Int.toNat_natCast, *]; omega))))
        all_goals (conv => whnf)
        all_goals first
          | exact ret_out (l := [0, 1, 2, 3]) rfl rfl trivial allRw_nil
          | (exfalso; omega)
      · refine fc_of mixed T_ok Try.func3 rfl (by kernel_rfl) (by kernel_rfl) (by kernel_rfl) ?_
        repeat' ((conv => whnf); first | (refine vcall_pure (aw) rfl rfl rfl ?_) | (refine vcallD_pure (aw) rfl rfl rfl ?_) | (refine vcall_out (l :=  [0, 1, 2]) (cs ) ⟨rfl, rfl, rfl, rfl, (by (repeat' (first | exact trivial | exact GB_wf | constructor)); first | done | fail), (by (repeat' (first | exact trivial | exact GB_fits rfl | constructor)); first | done | fail)⟩ ?_) | (refine vcallD_out (l :=  [0, 1, 2]) (cs ) ⟨rfl, rfl, rfl, rfl, (by (repeat' (first | exact trivial | exact GB_wf | constructor)); first | done | fail), (by (repeat' (first | exact trivial | exact GB_fits rfl | constructor)); first | done | fail)⟩ ?_) | (refine br_dec (fun h => ?_) (fun h => ?_) <;> try (exfalso; (try dsimp only at h); omega)) | (refine br_ndec (fun h => ?_) (fun h => ?_) <;> try (exfalso; (try dsimp only at h); omega)) | refine br_seq (fun h => ?_) (fun h => ?_) | refine br_nseq (fun h => ?_) (fun h => ?_) | refine br_not (fun h => ?_) (fun h => ?_) | refine br_intro (fun h => ?_) (fun h => ?_) | refine cond_intro rfl ?_ | (refine cond_intro ⟨rfl, ?_⟩ ?_; (first | omega | (dsimp only; omega) | decide)) | (refine cond_intro ?_ ?_; (first | omega | (dsimp only; omega) | decide | (simp only [Nat.add_zero, Int.toNat_natCast, *]; omega))))
        all_goals (conv => whnf)
        all_goals first
          | exact ret_out (l := [0, 1, 2, 3]) rfl rfl trivial allRw_nil
          | (exfalso; omega)
    obtain ⟨hl2, hs1⟩ := hl2
    refine fc_of mixed T_ok Try.func3 rfl (by kernel_rfl) (by kernel_rfl) (by kernel_rfl) ?_
    repeat' ((conv => whnf); first | (refine vcall_pure (aw) rfl rfl rfl ?_) | (refine vcallD_pure (aw) rfl rfl rfl ?_) | (refine vcall_out (l :=  [0, 1, 2]) (cs ) ⟨rfl, rfl, rfl, rfl, (by (repeat' (first | exact trivial | exact GB_wf | constructor)); first | done | fail), (by (repeat' (first | exact trivial | exact GB_fits rfl | constructor)); first | done | fail)⟩ ?_) | (refine vcallD_out (l :=  [0, 1, 2]) (cs ) ⟨rfl, rfl, rfl, rfl, (by (repeat' (first | exact trivial | exact GB_wf | constructor)); first | done | fail), (by (repeat' (first | exact trivial | exact GB_fits rfl | constructor)); first | done | fail)⟩ ?_) | (refine vcall_out (l :=  [0, 1, 2]) (cn ) ⟨rfl, rfl, rfl, rfl, (by (repeat' (first | exact trivial | exact GB_wf | constructor)); first | done | fail), (by (repeat' (first | exact trivial | exact GB_fits rfl | constructor)); first | done | fail)⟩ ?_) | (refine vcallD_out (l :=  [0, 1, 2]) (cn ) ⟨rfl, rfl, rfl, rfl, (by (repeat' (first | exact trivial | exact GB_wf | constructor)); first | done | fail), (by (repeat' (first | exact trivial | exact GB_fits rfl | constructor)); first | done | fail)⟩ ?_) | (refine br_dec (fun h => ?_) (fun h => ?_) <;> try (exfalso; (try dsimp only at h); omega)) | (refine br_ndec (fun h => ?_) (fun h => ?_) <;> try (exfalso; (try dsimp only at h); omega)) | refine br_seq (fun h => ?_) (fun h => ?_) | refine br_nseq (fun h => ?_) (fun h => ?_) | refine br_not (fun h => ?_) (fun h => ?_) | refine br_intro (fun h => ?_) (fun h => ?_) | refine cond_intro rfl ?_ | (refine cond_intro ⟨rfl, ?_⟩ ?_; (first | omega | (dsimp only; omega) | decide)) | (refine cond_intro ?_ ?_; (first | omega | (dsimp only; omega) | decide | (simp only [Nat.add_zero, Int.toNat_natCast, *]; omega))))
    all_goals (conv => whnf)
    refine vloop_of (fun x : Nat × Rt => ⟨[(3, .ptr 4 0 0 0), (1, .str s1), (2, .sl 3 0 0 n2), (7, .ptr 5 0 0 0), (9, .int .i64 x.1)], lwH L m bi bp f n2 q2 x.2, 9⟩) (fun x => x.1 ≤ n2) (fun x => n2 - x.1) (0, d0) [0, 1, 2, 3, 4, 5, 6, 7, 8] [] ⟨rfl, ⟨rfl, rfl, rfl, rfl, rfl, trivial⟩, ⟨rfl, rfl, rfl, rfl, rfl, rfl, rfl, rfl, trivial⟩⟩ (by dsimp only; omega) ?_
    rintro ⟨i, d⟩ hi
    dsimp only at hi
    by_cases hi2 : i < n2
    · have c1 := rt_Fail (mkR L m bi bp f d) (q2.getD i ⟨#[]⟩)
      clear cn
      repeat' ((conv => whnf); first | (refine vcall_pure (aw) rfl rfl rfl ?_) | (refine vcallD_pure (aw) rfl rfl rfl ?_) | (refine vcall_out (l :=  [0, 5, 6, 7, 8]) (c1 ) ⟨rfl, rfl, rfl, rfl, (by (repeat' (first | exact trivial | exact GB_wf | constructor)); first | done | fail), (by (repeat' (first | exact trivial | exact GB_fits rfl | constructor)); first | done | fail)⟩ ?_) | (refine vcallD_out (l :=  [0, 5, 6, 7, 8]) (c1 ) ⟨rfl, rfl, rfl, rfl, (by (repeat' (first | exact trivial | exact GB_wf | constructor)); first | done | fail), (by (repeat' (first | exact trivial | exact GB_fits rfl | constructor)); first | done | fail)⟩ ?_) | (refine br_dec (fun h => ?_) (fun h => ?_) <;> try (exfalso; (try dsimp only at h); omega)) | (refine br_ndec (fun h => ?_) (fun h => ?_) <;> try (exfalso; (try dsimp only at h); omega)) | refine br_seq (fun h => ?_) (fun h => ?_) | refine br_nseq (fun h => ?_) (fun h => ?_) | refine br_not (fun h => ?_) (fun h => ?_) | refine br_intro (fun h => ?_) (fun h => ?_) | refine cond_intro rfl ?_ | (refine cond_intro ⟨rfl, ?_⟩ ?_; (first | omega | (dsimp only; omega) | decide)) | (refine cond_intro ?_ ?_; (first | omega | (dsimp only; omega) | decide | (simp only [Nat.add_zero, Int.toNat_natCast, *]; omega))))
      all_goals (conv => whnf)
      all_goals first
        | exact ret_out (l := [0, 1, 2, 3]) rfl rfl trivial allRw_nil
        | exact ⟨(i + 1, (mkR L m bi bp f d).fl (q2.getD i ⟨#[]⟩)), [0, 1, 2, 3, 4, 5, 6, 7, 8], [], by dsimp only; omega, by dsimp only; omega, ⟨rfl, ⟨rfl, rfl, rfl, rfl, congrArg (fun z => some (SV.int .i64 z)) (i64_succ (by omega)), trivial⟩, ⟨rfl, rfl, rfl, rfl, rfl, rfl, rfl, rfl, trivial⟩⟩⟩
        | (exfalso; omega)
    · have e : i = n2 := by omega
      subst e
      clear cn hi hi2
      have cc := rt_Choose (mkR L m bi bp f d) s1 (by dsimp only; omega) (by dsimp only; omega)
      by_cases hc : chE (mkR L m bi bp f d) s1 = 0
      case neg =>
        have e2 : chS (mkR L m bi bp f d) s1 = .agg [.str ⟨#[]⟩, .str ⟨#[]⟩, .str ⟨#[]⟩, .int .i64 0] := if_neg hc
        rw [e2] at cc
        generalize chE (mkR L m bi bp f d) s1 = e at *
        repeat' ((conv => whnf); first | (refine vcall_pure (aw) rfl rfl rfl ?_) | (refine vcallD_pure (aw) rfl rfl rfl ?_) | (refine vcall_out (l :=  [0, 5, 6, 7, 8]) (cc ) ⟨rfl, rfl, rfl, rfl, (by (repeat' (first | exact trivial | exact GB_wf | constructor)); first | done | fail), (by (repeat' (first | exact trivial | exact GB_fits rfl | constructor)); first | done | fail)⟩ ?_) | (refine vcallD_out (l :=  [0, 5, 6, 7, 8]) (cc ) ⟨rfl, rfl, rfl, rfl, (by (repeat' (first | exact trivial | exact GB_wf | constructor)); first | done | fail), (by (repeat' (first | exact trivial | exact GB_fits rfl | constructor)); first | done | fail)⟩ ?_) | (refine br_dec (fun h => ?_) (fun h => ?_) <;> try (exfalso; (try dsimp only at h); omega)) | (refine br_ndec (fun h => ?_) (fun h => ?_) <;> try (exfalso; (try dsimp only at h); omega)) | refine br_seq (fun h => ?_) (fun h => ?_) | refine br_nseq (fun h => ?_) (fun h => ?_) | refine br_not (fun h => ?_) (fun h => ?_) | refine br_intro (fun h => ?_) (fun h => ?_) | refine cond_intro rfl ?_ | (refine cond_intro ⟨rfl, ?_⟩ ?_; (first | omega | (dsimp only; omega) | decide)) | (refine cond_intro ?_ ?_; (first | omega | (dsimp only; omega) | decide | (simp only [Nat.add_zero, Int.toNat_natCast, *]; omega))))
        all_goals (conv => whnf)
        all_goals first
          | exact ret_out (l := [0, 1, 2, 3]) rfl rfl trivial allRw_nil
          | (exfalso; omega)
      have hiss := ch_iss hc
      rw [show chS (mkR L m bi bp f d) s1 = .agg [.str (optS L.s (fdR L s1)), .str (optS L.p (fdR L s1)), .str (ptX (mkR L m bi bp f d) (optS L.s (fdR L s1))), .int .i64 (mdX (mkR L m bi bp f d) (optS L.s (fdR L s1)))] from if_pos hc, hc] at cc
      change 0 ≤ isX L (optS L.s (fdR L s1)) L.n at hiss
      generalize optS L.s (fdR L s1) = a at *
      generalize optS L.p (fdR L s1) = b at *
      have hok := FOk_first (mkR L m bi bp f d) a
      have hpt : mdX (mkR L m bi bp f d) a = 1 → ptX (mkR L m bi bp f d) a = a ∧ (mkR L m bi bp f d).dn a = false := by
        intro h
        rcases hok with ⟨_, e, _, _, e2⟩ | ⟨e, _⟩ | ⟨e, _⟩
        · exact ⟨e, e2⟩
        · rw [show mdX (mkR L m bi bp f d) a = 2 from e] at h; cases h
        · rw [show mdX (mkR L m bi bp f d) a = 3 from e] at h; cases h
      have hmd : mdX (mkR L m bi bp f d) a ≠ 1 → (mkR L m bi bp f d).dn a = true := by
        intro h
        cases e : (mkR L m bi bp f d).dn a with
        | true => rfl
        | false => exact absurd (by unfold mdX; rw [if_pos e]) h
      generalize ptX (mkR L m bi bp f d) a = p0 at *
      generalize mdX (mkR L m bi bp f d) a = m0 at *
      have cd := rt_Down (mkR L m bi bp f d) a
      generalize hda : (mkR L m bi bp f d).dn a = da at *
      repeat' ((conv => whnf); first | (refine vcall_pure (aw) rfl rfl rfl ?_) | (refine vcallD_pure (aw) rfl rfl rfl ?_) | (refine vcall_out (l :=  [0, 5, 6, 7, 8]) (cc ) ⟨rfl, rfl, rfl, rfl, (by (repeat' (first | exact trivial | exact GB_wf | constructor)); first | done | fail), (by (repeat' (first | exact trivial | exact GB_fits rfl | constructor)); first | done | fail)⟩ ?_) | (refine vcallD_out (l :=  [0, 5, 6, 7, 8]) (cc ) ⟨rfl, rfl, rfl, rfl, (by (repeat' (first | exact trivial | exact GB_wf | constructor)); first | done | fail), (by (repeat' (first | exact trivial | exact GB_fits rfl | constructor)); first | done | fail)⟩ ?_) | (refine vcall_out (l :=  [0, 5, 6, 7, 8]) (cd ) ⟨rfl, rfl, rfl, rfl, (by (repeat' (first | exact trivial | exact GB_wf | constructor)); first | done | fail), (by (repeat' (first | exact trivial | exact GB_fits rfl | constructor)); first | done | fail)⟩ ?_) | (refine vcallD_out (l :=  [0, 5, 6, 7, 8]) (cd ) ⟨rfl, rfl, rfl, rfl, (by (repeat' (first | exact trivial | exact GB_wf | constructor)); first | done | fail), (by (repeat' (first | exact trivial | exact GB_fits rfl | constructor)); first | done | fail)⟩ ?_) | (refine br_nseq (fun h => absurd (hpt (by assumption)).1 h) (fun h => ?_)) | (refine br_dec (fun h => ?_) (fun h => ?_) <;> try (exfalso; omega)) | (refine br_ndec (fun h => ?_) (fun h => ?_) <;> try (exfalso; omega)) | (refine br_intro (fun h => absurd (h.symm.trans (hpt (by assumption)).2) (by decide)) (fun h => ?_)) | (refine br_not (fun h => absurd (h.symm.trans (hmd (by assumption))) (by decide)) (fun h => ?_)) | (refine br_dec (fun h => ?_) (fun h => ?_) <;> try (exfalso; (try dsimp only at h); omega)) | (refine br_ndec (fun h => ?_) (fun h => ?_) <;> try (exfalso; (try dsimp only at h); omega)) | refine br_seq (fun h => ?_) (fun h => ?_) | refine br_nseq (fun h => ?_) (fun h => ?_) | refine br_not (fun h => ?_) (fun h => ?_) | refine br_intro (fun h => ?_) (fun h => ?_) | refine cond_intro rfl ?_ | (refine cond_intro ⟨rfl, ?_⟩ ?_; (first | omega | (dsimp only; omega) | decide)) | (refine cond_intro ?_ ?_; (first | omega | (dsimp only; omega) | decide | (simp only [Nat.add_zero, Int.toNat_natCast, *]; omega))))
      all_goals (conv => whnf)
      all_goals exact fb_loop L m bi bp f i q2 d a b p0 m0 hn hm hu hiss hok _ _ ⟨rfl, ⟨rfl, rfl, rfl, rfl, rfl, rfl, rfl, trivial⟩, ⟨rfl, rfl, rfl, rfl, rfl, rfl, rfl, rfl, rfl, trivial⟩⟩ (fun v h => h)
theorem routeFallbacks_fc (l0_0 : Nat) (hl0_0 : l0_0 ≤ maxLen) (q0_0_0 : List ByteArray) (eq0_0_0 : q0_0_0.length = l0_0) (wq0_0_0 : ∀ x ∈ q0_0_0, x.size ≤ maxLen) (q0_0_1 : List ByteArray) (eq0_0_1 : q0_0_1.length = l0_0) (wq0_0_1 : ∀ x ∈ q0_0_1, x.size ≤ maxLen) (q0_0_2 : List ByteArray) (eq0_0_2 : q0_0_2.length = l0_0) (wq0_0_2 : ∀ x ∈ q0_0_2, x.size ≤ maxLen) (q0_0_3 : List ByteArray) (eq0_0_3 : q0_0_3.length = l0_0) (wq0_0_3 : ∀ x ∈ q0_0_3, x.size ≤ maxLen) (l0_1 : Nat) (hl0_1 : l0_1 ≤ maxLen) (q0_1_0 : List ByteArray) (eq0_1_0 : q0_1_0.length = l0_1) (wq0_1_0 : ∀ x ∈ q0_1_0, x.size ≤ maxLen) (q0_1_1 : List ByteArray) (eq0_1_1 : q0_1_1.length = l0_1) (wq0_1_1 : ∀ x ∈ q0_1_1, x.size ≤ maxLen) (x0_2 : Int) (hx0_2 : (Lit.int .i64 x0_2).wf = true) (s1 : ByteArray) (hs1 : s1.size ≤ maxLen) (l2 : Nat) (hl2 : l2 ≤ maxLen) (q2_0 : List ByteArray) (eq2_0 : q2_0.length = l2) (wq2_0 : ∀ x ∈ q2_0, x.size ≤ maxLen) :
    FC Try.prog 4 3 [.agg [.sl 1 0 0 l0_0, .sl 2 0 0 l0_1, .int .i64 x0_2], .str s1, .sl 3 0 0 l2] [(1, some (.one true (.cols l0_0 [.sc (.strs q0_0_0), .sc (.strs q0_0_1), .sc (.strs q0_0_2), .sc (.strs q0_0_3)]))), (2, some (.one true (.cols l0_1 [.sc (.strs q0_1_0), .sc (.strs q0_1_1)]))), (3, some (.one true (.cols l2 [.sc (.strs q2_0)])))] (isOut (.bool true) [] 4) :=
  fb_core ⟨l0_0, q0_0_0, q0_0_1, q0_0_2, q0_0_3⟩ l0_1 q0_1_0 q0_1_1 x0_2 s1 l2 q2_0 eq0_0_0 eq0_0_1 eq0_0_2 eq0_0_3 eq0_1_0 eq0_1_1
end Go.Proofs.Ytkmbnniikncaiaa
