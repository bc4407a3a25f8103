/- The law on recovery: a party is down exactly after so many failures in a row, and is good again. -/
import Derived.Test.YtkmbnniikncaiaaRtQ
namespace Go.Proofs.Ytkmbnniikncaiaa
open Go.RowKit Go.Sy
attribute [local irreducible] vcall vloop vcallD retP sortS
set_option maxRecDepth 100000
set_option linter.unusedVariables false
set_option linter.unusedSimpArgs false

abbrev lrH (L : Rg) (m : Nat) (bi bp : List ByteArray) (f : Int) (n2 : Nat) (q2 : List ByteArray) (d : Rt) (c : ByteArray → Int) (a b p : ByteArray) (md : Int) : Heap := (9, some (.one false (.cells [.str a, .str b, .str p, .int .i64 md]))) :: (10, some (.one false (.cols d.n [.sc (.strs (sortS d.ks))]))) :: lwH L m bi bp f n2 q2 (dOf d c)

def anyB (l : List ByteArray) (p : ByteArray) : Nat → Bool
  | 0 => false
  | k + 1 => anyB l p k || seq (l.getD k ⟨#[]⟩) p
theorem anyB_iff {l : List ByteArray} {p : ByteArray} : ∀ {n : Nat}, n ≤ l.length → (anyB l p n = true ↔ p ∈ l.take n)
  | 0, _ => by simp [anyB]
  | n + 1, h => by
    have ih := anyB_iff (l := l) (p := p) (n := n) (by omega)
    simp only [anyB, Bool.or_eq_true, seq_iff]
    rw [ih, List.take_succ_eq_append_getElem (by omega), List.mem_append, List.mem_singleton, show l.getD n ⟨#[]⟩ = l[n] by simp [List.getD, show n < l.length by omega]]
    exact or_congr_right eq_comm
theorem any_sort {d : Rt} (hw : RWf d) (p : ByteArray) : anyB (sortS d.ks) p d.n = true ↔ p ∈ d.ks := by
  rw [anyB_iff (by rw [sortS_length, hw.k]; exact Nat.le_refl _), List.take_of_length_le (by rw [sortS_length, hw.k]; exact Nat.le_refl _)]
  exact (sortS_perm d.ks).mem_iff

set_option maxHeartbeats 1000000 in
/-- The round of the failures. -/
theorem rc_fail (L : Rg) (m : Nat) (bi bp : List ByteArray) (f : Int) (s1 : ByteArray) (n2 : Nat) (q2 : List ByteArray) (d : Rt) (a b p : ByteArray) (md : Int) (hw : RWf d) (hn : d.n ≤ 1000) (h2 : n2 ≤ 100) (hf1 : 1 ≤ f) (hf2 : f ≤ 100) (i : Nat) (hi : i < n2)
    (K : Exit → VS → Prop) (hK : ∀ v, retK T 4 [.tmp 6] (isOut (.bool true) [] 4) .ret v → K .ret v) (hN : ∀ v, (∃ l u, upK u v (fun v => Weak 4 l v ⟨[(3, .ptr 4 0 0 0), (1, .str s1), (2, .sl 3 0 0 n2), (7, .ptr 5 0 0 0), (9, .ptr 9 0 0 0), (10, .int .i64 (chE (mkR L m bi bp f d) s1)), (11, .sl 10 0 0 d.n), (12, .int .i64 ((i + 1 : Nat) : Int))], lrH L m bi bp f n2 q2 d (cF q2 f (i + 1)) a b p md, 11⟩)) → K .normal v) :
    vcode Try.prog T 4 (lpc Try.f4 0) ⟨[(3, .ptr 4 0 0 0), (1, .str s1), (2, .sl 3 0 0 n2), (7, .ptr 5 0 0 0), (9, .ptr 9 0 0 0), (10, .int .i64 (chE (mkR L m bi bp f d) s1)), (11, .sl 10 0 0 d.n), (12, .int .i64 i)], lrH L m bi bp f n2 q2 d (cF q2 f i) a b p md, 11⟩ K := by
  have aw := rt_awake
  generalize chE (mkR L m bi bp f d) s1 = ce at *
  repeat' ((conv => whnf); first | (refine vcall_pure (aw) rfl rfl rfl ?_) | (refine vcallD_pure (aw) rfl rfl rfl ?_) | (refine br_dec (fun h => ?_) (fun h => ?_) <;> try (exfalso; (try dsimp only at h); omega)) | (refine br_ndec (fun h => ?_) (fun h => ?_) <;> try (exfalso; (try dsimp only at h); omega)) | refine br_seq (fun h => ?_) (fun h => ?_) | refine br_nseq (fun h => ?_) (fun h => ?_) | refine br_not (fun h => ?_) (fun h => ?_) | refine br_intro (fun h => ?_) (fun h => ?_) | refine cond_intro rfl ?_ | (refine cond_intro ⟨rfl, ?_⟩ ?_; (first | omega | (dsimp only; omega) | decide)) | (refine cond_intro ?_ ?_; (first | omega | (dsimp only; omega) | decide | (simp only [Nat.add_zero, Int.toNat_natCast, *]; omega))))
  all_goals (conv => whnf)
  · refine hK _ ?_
    (conv => whnf)
    exact ret_out (l := [0, 1, 2, 3]) rfl rfl trivial allRw_nil
  refine vloop_of (fun k : Nat => ⟨[(3, .ptr 4 0 0 0), (1, .str s1), (2, .sl 3 0 0 n2), (7, .ptr 5 0 0 0), (9, .ptr 9 0 0 0), (10, .int .i64 ce), (11, .sl 10 0 0 d.n), (12, .int .i64 i), (14, .bool false), (13, .int .i64 (cnF q2 (q2.getD i ⟨#[]⟩) k)), (15, .int .i64 k)], lrH L m bi bp f n2 q2 d (cF q2 f i) a b p md, 11⟩) (fun k => k ≤ i + 1) (fun k => i + 1 - k) 0 [0, 1, 2, 3, 4, 5, 6, 7, 8, 9, 10] [] ⟨rfl, ⟨rfl, rfl, rfl, rfl, rfl, rfl, rfl, rfl, rfl, rfl, rfl, trivial⟩, ⟨rfl, rfl, rfl, rfl, rfl, rfl, rfl, rfl, rfl, rfl, trivial⟩⟩ (Nat.zero_le _) ?_
  intro k hk
  by_cases hk2 : k < i + 1
  · have hc := cnF_le q2 (q2.getD i ⟨#[]⟩) k
    by_cases hq : q2.getD k ⟨#[]⟩ = q2.getD i ⟨#[]⟩
    · have e1 := cnF_yes (k := k) hq
      generalize cnF q2 (q2.getD i ⟨#[]⟩) k = c0 at *
      repeat' ((conv => whnf); first | (refine br_seq (fun h => ?_) (fun h => absurd hq h)) | (refine br_dec (fun h => ?_) (fun h => ?_) <;> try (exfalso; (try dsimp only at h); omega)) | (refine br_ndec (fun h => ?_) (fun h => ?_) <;> try (exfalso; (try dsimp only at h); omega)) | refine br_seq (fun h => ?_) (fun h => ?_) | refine br_nseq (fun h => ?_) (fun h => ?_) | refine br_not (fun h => ?_) (fun h => ?_) | refine br_intro (fun h => ?_) (fun h => ?_) | refine cond_intro rfl ?_ | (refine cond_intro ⟨rfl, ?_⟩ ?_; (first | omega | (dsimp only; omega) | decide)) | (refine cond_intro ?_ ?_; (first | omega | (dsimp only; omega) | decide | (simp only [Nat.add_zero, Int.toNat_natCast, *]; omega))))
      all_goals (conv => whnf)
      all_goals first
        | (refine ⟨k + 1, [0, 1, 2, 3, 4, 5, 6, 7, 8, 9, 10], [], by omega, by omega, ?_⟩; rw [e1]; exact ⟨rfl, ⟨rfl, rfl, rfl, rfl, rfl, rfl, rfl, rfl, rfl, congrArg (fun z => some (SV.int .i64 z)) (i64_succ (by omega)), congrArg (fun z => some (SV.int .i64 z)) (i64_succ (by omega)), trivial⟩, ⟨rfl, rfl, rfl, rfl, rfl, rfl, rfl, rfl, rfl, rfl, trivial⟩⟩)
        | (exfalso; omega)
    · have e1 := cnF_no (k := k) hq
      generalize cnF q2 (q2.getD i ⟨#[]⟩) k = c0 at *
      repeat' ((conv => whnf); first | (refine br_seq (fun h => absurd h hq) (fun h => ?_)) | (refine br_dec (fun h => ?_) (fun h => ?_) <;> try (exfalso; (try dsimp only at h); omega)) | (refine br_ndec (fun h => ?_) (fun h => ?_) <;> try (exfalso; (try dsimp only at h); omega)) | refine br_seq (fun h => ?_) (fun h => ?_) | refine br_nseq (fun h => ?_) (fun h => ?_) | refine br_not (fun h => ?_) (fun h => ?_) | refine br_intro (fun h => ?_) (fun h => ?_) | refine cond_intro rfl ?_ | (refine cond_intro ⟨rfl, ?_⟩ ?_; (first | omega | (dsimp only; omega) | decide)) | (refine cond_intro ?_ ?_; (first | omega | (dsimp only; omega) | decide | (simp only [Nat.add_zero, Int.toNat_natCast, *]; omega))))
      all_goals (conv => whnf)
      all_goals first
        | (refine ⟨k + 1, [0, 1, 2, 3, 4, 5, 6, 7, 8, 9, 10], [], by omega, by omega, ?_⟩; rw [e1]; exact ⟨rfl, ⟨rfl, rfl, rfl, rfl, rfl, rfl, rfl, rfl, rfl, rfl, congrArg (fun z => some (SV.int .i64 z)) (i64_succ (by omega)), trivial⟩, ⟨rfl, rfl, rfl, rfl, rfl, rfl, rfl, rfl, rfl, rfl, trivial⟩⟩)
        | (exfalso; omega)
  obtain rfl : k = i + 1 := by omega
  have hc := cnF_le q2 (q2.getD i ⟨#[]⟩) (i + 1)
  have hcF : cF q2 f (i + 1) (q2.getD i ⟨#[]⟩) = min (cnF q2 (q2.getD i ⟨#[]⟩) (i + 1) : Int) f := rfl
  generalize hcn : cnF q2 (q2.getD i ⟨#[]⟩) (i + 1) = cn at *
  repeat' ((conv => whnf); first | (refine br_dec (fun h => ?_) (fun h => ?_) <;> try (exfalso; (try dsimp only at h); omega)) | (refine br_ndec (fun h => ?_) (fun h => ?_) <;> try (exfalso; (try dsimp only at h); omega)) | refine br_seq (fun h => ?_) (fun h => ?_) | refine br_nseq (fun h => ?_) (fun h => ?_) | refine br_not (fun h => ?_) (fun h => ?_) | refine br_intro (fun h => ?_) (fun h => ?_) | refine cond_intro rfl ?_ | (refine cond_intro ⟨rfl, ?_⟩ ?_; (first | omega | (dsimp only; omega) | decide)) | (refine cond_intro ?_ ?_; (first | omega | (dsimp only; omega) | decide | (simp only [Nat.add_zero, Int.toNat_natCast, *]; omega))))
  all_goals (conv => whnf)
  refine vloop_of (fun k : Nat => ⟨[(3, .ptr 4 0 0 0), (1, .str s1), (2, .sl 3 0 0 n2), (7, .ptr 5 0 0 0), (9, .ptr 9 0 0 0), (10, .int .i64 ce), (11, .sl 10 0 0 d.n), (12, .int .i64 i), (13, .int .i64 cn), (14, .bool (anyB (sortS d.ks) (q2.getD i ⟨#[]⟩) k)), (16, .int .i64 k)], lrH L m bi bp f n2 q2 d (cF q2 f i) a b p md, 11⟩) (fun k => k ≤ d.n) (fun k => d.n - k) 0 [0, 1, 2, 3, 4, 5, 6, 7, 8, 9, 10] [] ⟨rfl, ⟨rfl, rfl, rfl, rfl, rfl, rfl, rfl, rfl, rfl, rfl, rfl, trivial⟩, ⟨rfl, rfl, rfl, rfl, rfl, rfl, rfl, rfl, rfl, rfl, trivial⟩⟩ (Nat.zero_le _) ?_
  intro k hk
  by_cases hk2 : k < d.n
  · cases ha : anyB (sortS d.ks) (q2.getD i ⟨#[]⟩) k with
    | true =>
      have e1 : anyB (sortS d.ks) (q2.getD i ⟨#[]⟩) (k + 1) = true := by simp only [anyB, ha]; rfl
      repeat' ((conv => whnf); first | (refine br_dec (fun h => ?_) (fun h => ?_) <;> try (exfalso; (try dsimp only at h); omega)) | (refine br_ndec (fun h => ?_) (fun h => ?_) <;> try (exfalso; (try dsimp only at h); omega)) | refine br_seq (fun h => ?_) (fun h => ?_) | refine br_nseq (fun h => ?_) (fun h => ?_) | refine br_not (fun h => ?_) (fun h => ?_) | refine br_intro (fun h => ?_) (fun h => ?_) | refine cond_intro rfl ?_ | (refine cond_intro ⟨rfl, ?_⟩ ?_; (first | omega | (dsimp only; omega) | decide)) | (refine cond_intro ?_ ?_; (first | omega | (dsimp only; omega) | decide | (simp only [Nat.add_zero, Int.toNat_natCast, *]; omega))))
      all_goals (conv => whnf)
      all_goals first
        | (refine ⟨k + 1, [0, 1, 2, 3, 4, 5, 6, 7, 8, 9, 10], [], by omega, by omega, ?_⟩; rw [e1]; exact ⟨rfl, ⟨rfl, rfl, rfl, rfl, rfl, rfl, rfl, rfl, rfl, rfl, congrArg (fun z => some (SV.int .i64 z)) (i64_succ (by omega)), trivial⟩, ⟨rfl, rfl, rfl, rfl, rfl, rfl, rfl, rfl, rfl, rfl, trivial⟩⟩)
        | (exfalso; omega)
    | false =>
      have e1 : anyB (sortS d.ks) (q2.getD i ⟨#[]⟩) (k + 1) = seq ((sortS d.ks).getD k ⟨#[]⟩) (q2.getD i ⟨#[]⟩) := by simp only [anyB, ha]; rfl
      repeat' ((conv => whnf); first | (refine br_dec (fun h => ?_) (fun h => ?_) <;> try (exfalso; (try dsimp only at h); omega)) | (refine br_ndec (fun h => ?_) (fun h => ?_) <;> try (exfalso; (try dsimp only at h); omega)) | refine br_seq (fun h => ?_) (fun h => ?_) | refine br_nseq (fun h => ?_) (fun h => ?_) | refine br_not (fun h => ?_) (fun h => ?_) | refine br_intro (fun h => ?_) (fun h => ?_) | refine cond_intro rfl ?_ | (refine cond_intro ⟨rfl, ?_⟩ ?_; (first | omega | (dsimp only; omega) | decide)) | (refine cond_intro ?_ ?_; (first | omega | (dsimp only; omega) | decide | (simp only [Nat.add_zero, Int.toNat_natCast, *]; omega))))
      all_goals (conv => whnf)
      all_goals first
        | (refine ⟨k + 1, [0, 1, 2, 3, 4, 5, 6, 7, 8, 9, 10], [], by omega, by omega, ?_⟩; rw [e1]; exact ⟨rfl, ⟨rfl, rfl, rfl, rfl, rfl, rfl, rfl, rfl, rfl, rfl, congrArg (fun z => some (SV.int .i64 z)) (i64_succ (by omega)), trivial⟩, ⟨rfl, rfl, rfl, rfl, rfl, rfl, rfl, rfl, rfl, rfl, trivial⟩⟩)
        | (exfalso; omega)
  obtain rfl : k = d.n := by omega
  have any := any_sort hw (q2.getD i ⟨#[]⟩)
  have c1 := rt_Fail (mkR L m bi bp f (dOf d (cF q2 f i))) (q2.getD i ⟨#[]⟩)
  have c2 := rt_Down (mkR L m bi bp f (dOf d (cF q2 f (i + 1)))) (q2.getD i ⟨#[]⟩)
  by_cases hm : q2.getD i ⟨#[]⟩ ∈ d.ks
  · rw [any.2 hm]
    rw [fl_known (r := mkR L m bi bp f d) hw hf1 hf2 (by omega) hm, kE_D (r := mkR L m bi bp f d) hw hm] at c1
    rw [dn_D (r := mkR L m bi bp f d) hw hm, hcF, show decide (f ≤ min (cn : Int) f) = decide (f ≤ (cn : Int)) from decide_eq_decide.2 (by omega)] at c2
    have hxx : ∀ x : Bool, (x == x) = true := fun x => by cases x <;> rfl
    repeat' ((conv => whnf); first | (refine vcall_out (l :=  [0, 5, 6, 7, 8]) (c1 ) ⟨rfl, rfl, rfl, rfl, (by (repeat' (first | exact trivial | exact GB_wf | constructor)); first | done | fail), (by (repeat' (first | exact trivial | exact GB_fits rfl | constructor)); first | done | fail)⟩ ?_) | (refine vcall_out (l :=  [0, 5, 6, 7, 8]) (c2 ) ⟨rfl, rfl, rfl, rfl, (by (repeat' (first | exact trivial | exact GB_wf | constructor)); first | done | fail), (by (repeat' (first | exact trivial | exact GB_fits rfl | constructor)); first | done | fail)⟩ ?_) | (refine br_not (fun h => absurd ((hxx _).symm.trans h) (by decide)) (fun h => ?_)) | (refine br_dec (fun h => ?_) (fun h => ?_) <;> try (exfalso; (try dsimp only at h); omega)) | (refine br_ndec (fun h => ?_) (fun h => ?_) <;> try (exfalso; (try dsimp only at h); omega)) | refine br_seq (fun h => ?_) (fun h => ?_) | refine br_nseq (fun h => ?_) (fun h => ?_) | refine br_not (fun h => ?_) (fun h => ?_) | refine br_intro (fun h => ?_) (fun h => ?_) | refine cond_intro rfl ?_ | (refine cond_intro ⟨rfl, ?_⟩ ?_; (first | omega | (dsimp only; omega) | decide)) | (refine cond_intro ?_ ?_; (first | omega | (dsimp only; omega) | decide | (simp only [Nat.add_zero, Int.toNat_natCast, *]; omega))))
    all_goals (conv => whnf)
    all_goals exact hN _ ⟨[0, 1, 2, 3, 4, 5, 6, 7, 8, 9, 10], [], ⟨rfl, ⟨rfl, rfl, rfl, rfl, rfl, rfl, rfl, congrArg (fun z => some (SV.int .i64 z)) (i64_succ (by omega)), trivial⟩, ⟨rfl, rfl, rfl, rfl, rfl, rfl, rfl, rfl, rfl, rfl, trivial⟩⟩⟩
  · have hf0 : anyB (sortS d.ks) (q2.getD i ⟨#[]⟩) d.n = false := by
      cases e : anyB (sortS d.ks) (q2.getD i ⟨#[]⟩) d.n with
      | false => rfl
      | true => exact absurd (any.1 e) hm
    rw [hf0]
    rw [fl_none (r := mkR L m bi bp f d) hw hm, kE_none (r := mkR L m bi bp f d) hw hm] at c1
    rw [dn_none (r := mkR L m bi bp f d) hw hm] at c2
    repeat' ((conv => whnf); first | (refine vcall_out (l :=  [0, 5, 6, 7, 8]) (c1 ) ⟨rfl, rfl, rfl, rfl, (by (repeat' (first | exact trivial | exact GB_wf | constructor)); first | done | fail), (by (repeat' (first | exact trivial | exact GB_fits rfl | constructor)); first | done | fail)⟩ ?_) | (refine vcall_out (l :=  [0, 5, 6, 7, 8]) (c2 ) ⟨rfl, rfl, rfl, rfl, (by (repeat' (first | exact trivial | exact GB_wf | constructor)); first | done | fail), (by (repeat' (first | exact trivial | exact GB_fits rfl | constructor)); first | done | fail)⟩ ?_) | (refine br_dec (fun h => ?_) (fun h => ?_) <;> try (exfalso; (try dsimp only at h); omega)) | (refine br_ndec (fun h => ?_) (fun h => ?_) <;> try (exfalso; (try dsimp only at h); omega)) | refine br_seq (fun h => ?_) (fun h => ?_) | refine br_nseq (fun h => ?_) (fun h => ?_) | refine br_not (fun h => ?_) (fun h => ?_) | refine br_intro (fun h => ?_) (fun h => ?_) | refine cond_intro rfl ?_ | (refine cond_intro ⟨rfl, ?_⟩ ?_; (first | omega | (dsimp only; omega) | decide)) | (refine cond_intro ?_ ?_; (first | omega | (dsimp only; omega) | decide | (simp only [Nat.add_zero, Int.toNat_natCast, *]; omega))))
    all_goals (conv => whnf)
    all_goals exact hN _ ⟨[0, 1, 2, 3, 4, 5, 6, 7, 8, 9, 10], [], ⟨rfl, ⟨rfl, rfl, rfl, rfl, rfl, rfl, rfl, congrArg (fun z => some (SV.int .i64 z)) (i64_succ (by omega)), trivial⟩, ⟨rfl, rfl, rfl, rfl, rfl, rfl, rfl, rfl, rfl, rfl, trivial⟩⟩⟩

set_option maxHeartbeats 1000000 in
/-- The round of the parties that answer. -/
theorem rc_good (L : Rg) (m : Nat) (bi bp : List ByteArray) (f : Int) (s1 : ByteArray) (n2 : Nat) (q2 : List ByteArray) (d : Rt) (a b p : ByteArray) (md ce : Int) (hw : RWf d) (hn : d.n ≤ 1000) (hf1 : 1 ≤ f) (c : ByteArray → Int) (i : Nat) (hi : i < d.n)
    (K : Exit → VS → Prop) (hK : ∀ v, retK T 4 [.tmp 6] (isOut (.bool true) [] 4) .ret v → K .ret v) (hN : ∀ v, (∃ l u, upK u v (fun v => Weak 4 l v ⟨[(3, .ptr 4 0 0 0), (1, .str s1), (7, .ptr 5 0 0 0), (9, .ptr 9 0 0 0), (10, .int .i64 ce), (11, .sl 10 0 0 d.n), (17, .int .i64 ((i + 1 : Nat) : Int))], lrH L m bi bp f n2 q2 d (cG (sortS d.ks) c (i + 1)) a b p md, 11⟩)) → K .normal v) :
    vcode Try.prog T 4 (lpc Try.f4 3) ⟨[(3, .ptr 4 0 0 0), (1, .str s1), (7, .ptr 5 0 0 0), (9, .ptr 9 0 0 0), (10, .int .i64 ce), (11, .sl 10 0 0 d.n), (17, .int .i64 i)], lrH L m bi bp f n2 q2 d (cG (sortS d.ks) c i) a b p md, 11⟩ K := by
  have hl : (sortS d.ks).length = d.n := by rw [sortS_length, hw.k]
  have hm : (sortS d.ks).getD i ⟨#[]⟩ ∈ d.ks := by
    rw [List.getD, List.getElem?_eq_getElem (by omega)]
    exact (sortS_perm d.ks).mem_iff.1 (List.getElem_mem (by omega))
  have c1 := rt_Good (mkR L m bi bp f (dOf d (cG (sortS d.ks) c i))) ((sortS d.ks).getD i ⟨#[]⟩)
  have c2 := rt_Down (mkR L m bi bp f (dOf d (cG (sortS d.ks) c (i + 1)))) ((sortS d.ks).getD i ⟨#[]⟩)
  rw [gd_D (r := mkR L m bi bp f d) hw (by omega) hm, kE_D (r := mkR L m bi bp f d) hw hm] at c1
  rw [dn_D (r := mkR L m bi bp f d) hw hm, cG_self (by omega), show decide (f ≤ 0) = false from decide_eq_false (by omega)] at c2
  have hlt : 0 < i → strLt ((sortS d.ks).getD (i - 1) ⟨#[]⟩) ((sortS d.ks).getD i ⟨#[]⟩) = true := fun h0 => sortS_lt hw.nd (by omega) (by rw [hw.k]; omega)
  have wk1 : 0 < i → IntKind.i64.wrap ((i : Int) - 1) = (i : Int) - 1 := fun h0 => w64_in (by omega) (by omega)
  have tk : 0 < i → (IntKind.i64.wrap ((i : Int) - 1)).toNat = i - 1 := fun h0 => by rw [wk1 h0]; omega
  repeat' ((conv => whnf); first | (refine vcall_out (l :=  [0, 5, 6, 7, 8]) (c1 ) ⟨rfl, rfl, rfl, rfl, (by (repeat' (first | exact trivial | exact GB_wf | constructor)); first | done | fail), (by (repeat' (first | exact trivial | exact GB_fits rfl | constructor)); first | done | fail)⟩ ?_) | (refine vcallD_out (l :=  [0, 5, 6, 7, 8]) (c1 ) ⟨rfl, rfl, rfl, rfl, (by (repeat' (first | exact trivial | exact GB_wf | constructor)); first | done | fail), (by (repeat' (first | exact trivial | exact GB_fits rfl | constructor)); first | done | fail)⟩ ?_) | (refine vcall_out (l :=  [0, 5, 6, 7, 8]) (c2 ) ⟨rfl, rfl, rfl, rfl, (by (repeat' (first | exact trivial | exact GB_wf | constructor)); first | done | fail), (by (repeat' (first | exact trivial | exact GB_fits rfl | constructor)); first | done | fail)⟩ ?_) | (refine vcallD_out (l :=  [0, 5, 6, 7, 8]) (c2 ) ⟨rfl, rfl, rfl, rfl, (by (repeat' (first | exact trivial | exact GB_wf | constructor)); first | done | fail), (by (repeat' (first | exact trivial | exact GB_fits rfl | constructor)); first | done | fail)⟩ ?_) | (refine cond_intro ?_ ?_; (rw [wk1 (by omega)]; omega)) | (refine br_dec (fun h => ?_) (fun h => ?_) <;> try (exfalso; (try dsimp only at h); omega)) | (refine br_ndec (fun h => ?_) (fun h => ?_) <;> try (exfalso; (try dsimp only at h); omega)) | refine br_seq (fun h => ?_) (fun h => ?_) | refine br_nseq (fun h => ?_) (fun h => ?_) | refine br_not (fun h => ?_) (fun h => ?_) | refine br_intro (fun h => ?_) (fun h => ?_) | refine cond_intro rfl ?_ | (refine cond_intro ⟨rfl, ?_⟩ ?_; (first | omega | (dsimp only; omega) | decide)) | (refine cond_intro ?_ ?_; (first | omega | (dsimp only; omega) | decide | (simp only [Nat.add_zero, Int.toNat_natCast, *]; omega))))
  all_goals (conv => whnf)
  all_goals first
    | exact hN _ ⟨[0, 1, 2, 3, 4, 5, 6, 7, 8, 9, 10], [], ⟨rfl, ⟨rfl, rfl, rfl, rfl, rfl, rfl, congrArg (fun z => some (SV.int .i64 z)) (i64_succ (by omega)), trivial⟩, ⟨rfl, rfl, rfl, rfl, rfl, rfl, rfl, rfl, rfl, rfl, trivial⟩⟩⟩
    | (exfalso; have h0 : 0 < i := by omega
       have e := hlt h0; rw [← tk h0] at e; exact absurd (e.symm.trans h) (by decide))
    | (exfalso; omega)
set_option maxHeartbeats 1000000 in
theorem rc_core (L : Rg) (m : Nat) (bi bp : List ByteArray) (f : Int) (s1 : ByteArray) (n2 : Nat) (q2 : List ByteArray) (h1 : L.lo.length = L.n) (h2 : L.hi.length = L.n) (h3 : L.is.length = L.n) (h4 : L.pr.length = L.n) (h5 : bi.length = m) (h6 : bp.length = m) :
    FC Try.prog 4 4 [.agg [.sl 1 0 0 L.n, .sl 2 0 0 m, .int .i64 f], .str s1, .sl 3 0 0 n2] [(1, some (rgB L)), (2, some (bkB m bi bp)), (3, some (.one true (.cols n2 [.sc (.strs q2)])))] (isOut (.bool true) [] 4) := by
  have aw := rt_awake
  have cs := law_small L m bi bp f
  cases hsm : smB L m bi bp with
  | false =>
    rw [hsm] at cs
    refine fc_of mixed T_ok Try.func4 rfl (by kernel_rfl) (by kernel_rfl) (by kernel_rfl) ?_
    repeat' ((conv => whnf); first | (refine vcall_pure (aw) rfl rfl rfl ?_) | (refine vcallD_pure (aw) rfl rfl rfl ?_) | (refine vcall_out (l :=  [0, 1, 2]) (cs ) ⟨rfl, rfl, rfl, rfl, (by (repeat' (first | exact trivial | exact GB_wf | constructor)); first | done | fail), (by (repeat' (first | exact trivial | exact GB_fits rfl | constructor)); first | done | fail)⟩ ?_) | (refine vcallD_out (l :=  [0, 1, 2]) (cs ) ⟨rfl, rfl, rfl, rfl, (by (repeat' (first | exact trivial | exact GB_wf | constructor)); first | done | fail), (by (repeat' (first | exact trivial | exact GB_fits rfl | constructor)); first | done | fail)⟩ ?_) | (refine br_dec (fun h => ?_) (fun h => ?_) <;> try (exfalso; (try dsimp only at h); omega)) | (refine br_ndec (fun h => ?_) (fun h => ?_) <;> try (exfalso; (try dsimp only at h); omega)) | refine br_seq (fun h => ?_) (fun h => ?_) | refine br_nseq (fun h => ?_) (fun h => ?_) | refine br_not (fun h => ?_) (fun h => ?_) | refine br_intro (fun h => ?_) (fun h => ?_) | refine cond_intro rfl ?_ | (refine cond_intro ⟨rfl, ?_⟩ ?_; (first | omega | (dsimp only; omega) | decide)) | (refine cond_intro ?_ ?_; (first | omega | (dsimp only; omega) | decide | (simp only [Nat.add_zero, Int.toNat_natCast, *]; omega))))
    all_goals (conv => whnf)
    all_goals exact ret_out (l := [0, 1, 2, 3]) rfl rfl trivial allRw_nil
  | true =>
    rw [hsm] at cs
    obtain ⟨hn, hm⟩ := smB_true hsm
    by_cases hE : nwE L m bi bp f = 0
    case neg =>
      have ce := rt_New_err L m bi bp f (by omega) (by omega) hE
      generalize nwE L m bi bp f = e at *
      refine fc_of mixed T_ok Try.func4 rfl (by kernel_rfl) (by kernel_rfl) (by kernel_rfl) ?_
      repeat' ((conv => whnf); first | (refine vcall_pure (aw) rfl rfl rfl ?_) | (refine vcallD_pure (aw) rfl rfl rfl ?_) | (refine vcall_out (l :=  [0, 1, 2]) (cs ) ⟨rfl, rfl, rfl, rfl, (by (repeat' (first | exact trivial | exact GB_wf | constructor)); first | done | fail), (by (repeat' (first | exact trivial | exact GB_fits rfl | constructor)); first | done | fail)⟩ ?_) | (refine vcallD_out (l :=  [0, 1, 2]) (cs ) ⟨rfl, rfl, rfl, rfl, (by (repeat' (first | exact trivial | exact GB_wf | constructor)); first | done | fail), (by (repeat' (first | exact trivial | exact GB_fits rfl | constructor)); first | done | fail)⟩ ?_) | (refine vcall_out (l :=  [0, 1, 2]) (ce ) ⟨rfl, rfl, rfl, rfl, (by (repeat' (first | exact trivial | exact GB_wf | constructor)); first | done | fail), (by (repeat' (first | exact trivial | exact GB_fits rfl | constructor)); first | done | fail)⟩ ?_) | (refine vcallD_out (l :=  [0, 1, 2]) (ce ) ⟨rfl, rfl, rfl, rfl, (by (repeat' (first | exact trivial | exact GB_wf | constructor)); first | done | fail), (by (repeat' (first | exact trivial | exact GB_fits rfl | constructor)); first | done | fail)⟩ ?_) | (refine br_dec (fun h => ?_) (fun h => ?_) <;> try (exfalso; (try dsimp only at h); omega)) | (refine br_ndec (fun h => ?_) (fun h => ?_) <;> try (exfalso; (try dsimp only at h); omega)) | refine br_seq (fun h => ?_) (fun h => ?_) | refine br_nseq (fun h => ?_) (fun h => ?_) | refine br_not (fun h => ?_) (fun h => ?_) | refine br_intro (fun h => ?_) (fun h => ?_) | refine cond_intro rfl ?_ | (refine cond_intro ⟨rfl, ?_⟩ ?_; (first | omega | (dsimp only; omega) | decide)) | (refine cond_intro ?_ ?_; (first | omega | (dsimp only; omega) | decide | (simp only [Nat.add_zero, Int.toNat_natCast, *]; omega))))
      all_goals (conv => whnf)
      all_goals first
        | exact ret_out (l := [0, 1, 2, 3]) rfl rfl trivial allRw_nil
        | (exfalso; omega)
    have cn := rt_New_ok L m bi bp f (by omega) (by omega) hE h1 h2 h3 h4 h5 h6
    obtain ⟨hx, hbe, hf1, hf2⟩ := nwE_zero hE
    obtain ⟨hz, hdn⟩ := rz_nwR L m bi bp f
    have hd0 := rz_D hz (c := cF q2 f 0) (fun p _ => by unfold cF; simp only [cnF]; omega)
    generalize nwR L m bi bp f = d0 at *
    rw [← hd0] at cn
    by_cases hl2 : n2 ≤ 100 ∧ s1.size ≤ 100
    case neg =>
      by_cases hl3 : n2 ≤ 100
      · refine fc_of mixed T_ok Try.func4 rfl (by kernel_rfl) (by kernel_rfl) (by kernel_rfl) ?_
        repeat' ((conv => whnf); first | (refine vcall_pure (aw) rfl rfl rfl ?_) | (refine vcallD_pure (aw) rfl rfl rfl ?_) | (refine vcall_out (l :=  [0, 1, 2]) (cs ) ⟨rfl, rfl, rfl, rfl, (by (repeat' (first | exact trivial | exact GB_wf | constructor)); first | done | fail), (by (repeat' (first | exact trivial | exact GB_fits rfl | constructor)); first | done | fail)⟩ ?_) | (refine vcallD_out (l :=  [0, 1, 2]) (cs ) ⟨rfl, rfl, rfl, rfl, (by (repeat' (first | exact trivial | exact GB_wf | constructor)); first | done | fail), (by (repeat' (first | exact trivial | exact GB_fits rfl | constructor)); first | done | fail)⟩ ?_) | (refine br_dec (fun h => ?_) (fun h => ?_) <;> try (exfalso; (try dsimp only at h); omega)) | (refine br_ndec (fun h => ?_) (fun h => ?_) <;> try (exfalso; (try dsimp only at h); omega)) | refine br_seq (fun h => ?_) (fun h => ?_) | refine br_nseq (fun h => ?_) (fun h => ?_) | refine br_not (fun h => ?_) (fun h => ?_) | refine br_intro (fun h => ?_) (fun h => ?_) | refine cond_intro rfl ?_ | (refine cond_intro ⟨rfl, ?_⟩ ?_; (first | omega | (dsimp only; omega) | decide)) | (refine cond_intro ?_ ?_; (first | omega | (dsimp only; omega) | decide | (simp only [Nat.add_zero, Int.toNat_natCast, *]; omega))))
        all_goals (conv => whnf)
        all_goals first
          | exact ret_out (l := [0, 1, 2, 3]) rfl rfl trivial allRw_nil
          | (exfalso; omega)
      · refine fc_of mixed T_ok Try.func4 rfl (by kernel_rfl) (by kernel_rfl) (by kernel_rfl) ?_
        repeat' ((conv => whnf); first | (refine vcall_pure (aw) rfl rfl rfl ?_) | (refine vcallD_pure (aw) rfl rfl rfl ?_) | (refine vcall_out (l :=  [0, 1, 2]) (cs ) ⟨rfl, rfl, rfl, rfl, (by (repeat' (first | exact trivial | exact GB_wf | constructor)); first | done | fail), (by (repeat' (first | exact trivial | exact GB_fits rfl | constructor)); first | done | fail)⟩ ?_) | (refine vcallD_out (l :=  [0, 1, 2]) (cs ) ⟨rfl, rfl, rfl, rfl, (by (repeat' (first | exact trivial | exact GB_wf | constructor)); first | done | fail), (by (repeat' (first | exact trivial | exact GB_fits rfl | constructor)); first | done | fail)⟩ ?_) | (refine br_dec (fun h => ?_) (fun h => ?_) <;> try (exfalso; (try dsimp only at h); omega)) | (refine br_ndec (fun h => ?_) (fun h => ?_) <;> try (exfalso; (try dsimp only at h); omega)) | refine br_seq (fun h => ?_) (fun h => ?_) | refine br_nseq (fun h => ?_) (fun h => ?_) | refine br_not (fun h => ?_) (fun h => ?_) | refine br_intro (fun h => ?_) (fun h => ?_) | refine cond_intro rfl ?_ | (refine cond_intro ⟨rfl, ?_⟩ ?_; (first | omega | (dsimp only; omega) | decide)) | (refine cond_intro ?_ ?_; (first | omega | (dsimp only; omega) | decide | (simp only [Nat.add_zero, Int.toNat_natCast, *]; omega))))
        all_goals (conv => whnf)
        all_goals first
          | exact ret_out (l := [0, 1, 2, 3]) rfl rfl trivial allRw_nil
          | (exfalso; omega)
    obtain ⟨hl2, hs1⟩ := hl2
    have cc := rt_Choose (mkR L m bi bp f (dOf d0 (cF q2 f 0))) s1 (by dsimp only; omega) (by dsimp only; omega)
    have cp := rt_Parties (mkR L m bi bp f (dOf d0 (cF q2 f 0))) (by dsimp only; omega) hz.k
    have cc2 := rt_Choose (mkR L m bi bp f (dOf d0 (cG (sortS d0.ks) (cF q2 f n2) d0.n))) s1 (by dsimp only; omega) (by dsimp only; omega)
    have hlz : (sortS d0.ks).length = d0.n := by rw [sortS_length, hz.k]
    have hd1 : dOf d0 (cG (sortS d0.ks) (cF q2 f n2) d0.n) = d0 := rz_D hz (fun p hp => by
      unfold cG
      rw [← hlz, List.take_length, if_pos (sidx_lt.2 ((sortS_perm d0.ks).mem_iff.2 hp))])
    have hmk : mkR L m bi bp f (dOf d0 (cG (sortS d0.ks) (cF q2 f n2) d0.n)) = mkR L m bi bp f d0 := by rw [hd1]
    have hmk0 : mkR L m bi bp f (dOf d0 (cF q2 f 0)) = mkR L m bi bp f d0 := by rw [hd0]
    have ha0 : ∃ a b p md, chS (mkR L m bi bp f d0) s1 = .agg [.str a, .str b, .str p, .int .i64 md] ∧ (chE (mkR L m bi bp f d0) s1 = 0 → md = 1 ∧ p = a) := by
      unfold chS
      by_cases hc : chE (mkR L m bi bp f d0) s1 = 0
      · rw [if_pos hc]
        have hdn0 : (mkR L m bi bp f d0).dn (optS L.s (fdR L s1)) = false := by
          unfold Rt.dn
          refine decide_eq_false fun h => ?_
          obtain ⟨h1, h2⟩ := h
          dsimp only at h1 h2
          rw [hz.v, sidx_map (sidx_lt.1 (by rw [hz.k]; exact h1))] at h2
          omega
        refine ⟨_, _, _, _, rfl, fun _ => ⟨?_, ?_⟩⟩
        · unfold mdX; exact if_pos hdn0
        · unfold ptX; exact if_pos hdn0
      · rw [if_neg hc]
        exact ⟨_, _, _, _, rfl, fun h => absurd h hc⟩
    obtain ⟨a, b, p, md, hcs, hc0⟩ := ha0
    rw [show chS (mkR L m bi bp f (dOf d0 (cF q2 f 0))) s1 = .agg [.str a, .str b, .str p, .int .i64 md] by rw [hmk0]; exact hcs, show chE (mkR L m bi bp f (dOf d0 (cF q2 f 0))) s1 = chE (mkR L m bi bp f d0) s1 by rw [hmk0]] at cc
    rw [show chS (mkR L m bi bp f (dOf d0 (cG (sortS d0.ks) (cF q2 f n2) d0.n))) s1 = .agg [.str a, .str b, .str p, .int .i64 md] by rw [hmk]; exact hcs, show chE (mkR L m bi bp f (dOf d0 (cG (sortS d0.ks) (cF q2 f n2) d0.n))) s1 = chE (mkR L m bi bp f d0) s1 by rw [hmk]] at cc2
    clear hd0 hd1 hmk hmk0 hcs
    refine fc_of mixed T_ok Try.func4 rfl (by kernel_rfl) (by kernel_rfl) (by kernel_rfl) ?_
    repeat' ((conv => whnf); first | (refine vcall_pure (aw) rfl rfl rfl ?_) | (refine vcallD_pure (aw) rfl rfl rfl ?_) | (refine vcall_out (l :=  [0, 1, 2]) (cs ) ⟨rfl, rfl, rfl, rfl, (by (repeat' (first | exact trivial | exact GB_wf | constructor)); first | done | fail), (by (repeat' (first | exact trivial | exact GB_fits rfl | constructor)); first | done | fail)⟩ ?_) | (refine vcallD_out (l :=  [0, 1, 2]) (cs ) ⟨rfl, rfl, rfl, rfl, (by (repeat' (first | exact trivial | exact GB_wf | constructor)); first | done | fail), (by (repeat' (first | exact trivial | exact GB_fits rfl | constructor)); first | done | fail)⟩ ?_) | (refine vcall_out (l :=  [0, 1, 2]) (cn ) ⟨rfl, rfl, rfl, rfl, (by (repeat' (first | exact trivial | exact GB_wf | constructor)); first | done | fail), (by (repeat' (first | exact trivial | exact GB_fits rfl | constructor)); first | done | fail)⟩ ?_) | (refine vcallD_out (l :=  [0, 1, 2]) (cn ) ⟨rfl, rfl, rfl, rfl, (by (repeat' (first | exact trivial | exact GB_wf | constructor)); first | done | fail), (by (repeat' (first | exact trivial | exact GB_fits rfl | constructor)); first | done | fail)⟩ ?_) | (refine vcall_out (l :=  [0, 5, 6, 7, 8]) (cc ) ⟨rfl, rfl, rfl, rfl, (by (repeat' (first | exact trivial | exact GB_wf | constructor)); first | done | fail), (by (repeat' (first | exact trivial | exact GB_fits rfl | constructor)); first | done | fail)⟩ ?_) | (refine vcallD_out (l :=  [0, 5, 6, 7, 8]) (cc ) ⟨rfl, rfl, rfl, rfl, (by (repeat' (first | exact trivial | exact GB_wf | constructor)); first | done | fail), (by (repeat' (first | exact trivial | exact GB_fits rfl | constructor)); first | done | fail)⟩ ?_) | (refine vcall_out (l :=  [0, 5, 6, 7, 8]) (cp ) ⟨rfl, rfl, rfl, rfl, (by (repeat' (first | exact trivial | exact GB_wf | constructor)); first | done | fail), (by (repeat' (first | exact trivial | exact GB_fits rfl | constructor)); first | done | fail)⟩ ?_) | (refine vcallD_out (l :=  [0, 5, 6, 7, 8]) (cp ) ⟨rfl, rfl, rfl, rfl, (by (repeat' (first | exact trivial | exact GB_wf | constructor)); first | done | fail), (by (repeat' (first | exact trivial | exact GB_fits rfl | constructor)); first | done | fail)⟩ ?_) | (refine br_nseq (fun h => absurd (hc0 (by assumption)).2 h) (fun h => ?_)) | (refine br_dec (fun h => ?_) (fun h => ?_) <;> try (exfalso; omega)) | (refine br_ndec (fun h => absurd (hc0 (by assumption)).1 h) (fun h => ?_)) | (refine br_dec (fun h => ?_) (fun h => ?_) <;> try (exfalso; (try dsimp only at h); omega)) | (refine br_ndec (fun h => ?_) (fun h => ?_) <;> try (exfalso; (try dsimp only at h); omega)) | refine br_seq (fun h => ?_) (fun h => ?_) | refine br_nseq (fun h => ?_) (fun h => ?_) | refine br_not (fun h => ?_) (fun h => ?_) | refine br_intro (fun h => ?_) (fun h => ?_) | refine cond_intro rfl ?_ | (refine cond_intro ⟨rfl, ?_⟩ ?_; (first | omega | (dsimp only; omega) | decide)) | (refine cond_intro ?_ ?_; (first | omega | (dsimp only; omega) | decide | (simp only [Nat.add_zero, Int.toNat_natCast, *]; omega))))
    all_goals (conv => whnf)
    all_goals refine vloop_lp (fun i : Nat => ⟨[(3, .ptr 4 0 0 0), (1, .str s1), (2, .sl 3 0 0 n2), (7, .ptr 5 0 0 0), (9, .ptr 9 0 0 0), (10, .int .i64 (chE (mkR L m bi bp f d0) s1)), (11, .sl 10 0 0 d0.n), (12, .int .i64 i)], lrH L m bi bp f n2 q2 d0 (cF q2 f i) a b p md, 11⟩) (fun i => i ≤ n2) (fun i => n2 - i) 0 [0, 1, 2, 3, 4, 5, 6, 7, 8, 9, 10] [] ⟨rfl, ⟨rfl, rfl, rfl, rfl, rfl, rfl, rfl, rfl, trivial⟩, ⟨rfl, rfl, rfl, rfl, rfl, rfl, rfl, rfl, rfl, rfl, trivial⟩⟩ (Nat.zero_le _) ?_
    all_goals (
      intro i hi
      by_cases hi2 : i < n2
      · exact rc_fail L m bi bp f s1 n2 q2 d0 a b p md hz.toRWf (by omega) hl2 hf1 hf2 i hi2 _ (fun v h => h) (fun v ⟨l, u, h⟩ => ⟨i + 1, l, u, (show i + 1 ≤ n2 by omega), (show n2 - (i + 1) < n2 - i by omega), h⟩)
      obtain rfl : i = n2 := by omega
      clear cn cc cp cs
      repeat' ((conv => whnf); first | (refine vcall_pure (aw) rfl rfl rfl ?_) | (refine vcallD_pure (aw) rfl rfl rfl ?_) | (refine br_dec (fun h => ?_) (fun h => ?_) <;> try (exfalso; (try dsimp only at h); omega)) | (refine br_ndec (fun h => ?_) (fun h => ?_) <;> try (exfalso; (try dsimp only at h); omega)) | refine br_seq (fun h => ?_) (fun h => ?_) | refine br_nseq (fun h => ?_) (fun h => ?_) | refine br_not (fun h => ?_) (fun h => ?_) | refine br_intro (fun h => ?_) (fun h => ?_) | refine cond_intro rfl ?_ | (refine cond_intro ⟨rfl, ?_⟩ ?_; (first | omega | (dsimp only; omega) | decide)) | (refine cond_intro ?_ ?_; (first | omega | (dsimp only; omega) | decide | (simp only [Nat.add_zero, Int.toNat_natCast, *]; omega))))
      all_goals (conv => whnf)
      refine vloop_lp (fun k : Nat => ⟨[(3, .ptr 4 0 0 0), (1, .str s1), (7, .ptr 5 0 0 0), (9, .ptr 9 0 0 0), (10, .int .i64 (chE (mkR L m bi bp f d0) s1)), (11, .sl 10 0 0 d0.n), (17, .int .i64 k)], lrH L m bi bp f i q2 d0 (cG (sortS d0.ks) (cF q2 f i) k) a b p md, 11⟩) (fun k => k ≤ d0.n) (fun k => d0.n - k) 0 [0, 1, 2, 3, 4, 5, 6, 7, 8, 9, 10] [] ⟨rfl, ⟨rfl, rfl, rfl, rfl, rfl, rfl, rfl, trivial⟩, ⟨rfl, rfl, rfl, rfl, rfl, rfl, rfl, rfl, rfl, rfl, trivial⟩⟩ (Nat.zero_le _) ?_
      intro k hk
      by_cases hk2 : k < d0.n
      · exact rc_good L m bi bp f s1 i q2 d0 a b p md _ hz.toRWf (by omega) hf1 (cF q2 f i) k hk2 _ (fun v h => h) (fun v ⟨l, u, h⟩ => ⟨k + 1, l, u, (show k + 1 ≤ d0.n by omega), (show d0.n - (k + 1) < d0.n - k by omega), h⟩)
      obtain rfl : k = d0.n := by omega
      have hxx : (seq a a && (seq b b && (seq p p && (decide (md = md) && true)))) = true := by simp [seq]
      repeat' ((conv => whnf); first | (refine vcall_pure (aw) rfl rfl rfl ?_) | (refine vcallD_pure (aw) rfl rfl rfl ?_) | (refine vcall_out (l :=  [0, 5, 6, 7, 8]) (cc2 ) ⟨rfl, rfl, rfl, rfl, (by (repeat' (first | exact trivial | exact GB_wf | constructor)); first | done | fail), (by (repeat' (first | exact trivial | exact GB_fits rfl | constructor)); first | done | fail)⟩ ?_) | (refine vcallD_out (l :=  [0, 5, 6, 7, 8]) (cc2 ) ⟨rfl, rfl, rfl, rfl, (by (repeat' (first | exact trivial | exact GB_wf | constructor)); first | done | fail), (by (repeat' (first | exact trivial | exact GB_fits rfl | constructor)); first | done | fail)⟩ ?_) | (refine br_intro (fun h => ?_) (fun h => absurd (hxx.symm.trans h) (by decide))) | (refine br_dec (fun h => ?_) (fun h => ?_) <;> try (exfalso; (try dsimp only at h); omega)) | (refine br_ndec (fun h => ?_) (fun h => ?_) <;> try (exfalso; (try dsimp only at h); omega)) | refine br_seq (fun h => ?_) (fun h => ?_) | refine br_nseq (fun h => ?_) (fun h => ?_) | refine br_not (fun h => ?_) (fun h => ?_) | refine br_intro (fun h => ?_) (fun h => ?_) | refine cond_intro rfl ?_ | (refine cond_intro ⟨rfl, ?_⟩ ?_; (first | omega | (dsimp only; omega) | decide)) | (refine cond_intro ?_ ?_; (first | omega | (dsimp only; omega) | decide | (simp only [Nat.add_zero, Int.toNat_natCast, *]; omega))))
      all_goals (conv => whnf)
      all_goals exact ret_out (l := [0, 1, 2, 3]) rfl rfl trivial allRw_nil)
theorem routeRecovers_fc (l0_0 : Nat) (hl0_0 : l0_0 ≤ maxLen) (q0_0_0 : List ByteArray) (eq0_0_0 : q0_0_0.length = l0_0) (wq0_0_0 : ∀ x ∈ q0_0_0, x.size ≤ maxLen) (q0_0_1 : List ByteArray) (eq0_0_1 : q0_0_1.length = l0_0) (wq0_0_1 : ∀ x ∈ q0_0_1, x.size ≤ maxLen) (q0_0_2 : List ByteArray) (eq0_0_2 : q0_0_2.length = l0_0) (wq0_0_2 : ∀ x ∈ q0_0_2, x.size ≤ maxLen) (q0_0_3 : List ByteArray) (eq0_0_3 : q0_0_3.length = l0_0) (wq0_0_3 : ∀ x ∈ q0_0_3, x.size ≤ maxLen) (l0_1 : Nat) (hl0_1 : l0_1 ≤ maxLen) (q0_1_0 : List ByteArray) (eq0_1_0 : q0_1_0.length = l0_1) (wq0_1_0 : ∀ x ∈ q0_1_0, x.size ≤ maxLen) (q0_1_1 : List ByteArray) (eq0_1_1 : q0_1_1.length = l0_1) (wq0_1_1 : ∀ x ∈ q0_1_1, x.size ≤ maxLen) (x0_2 : Int) (hx0_2 : (Lit.int .i64 x0_2).wf = true) (s1 : ByteArray) (hs1 : s1.size ≤ maxLen) (l2 : Nat) (hl2 : l2 ≤ maxLen) (q2_0 : List ByteArray) (eq2_0 : q2_0.length = l2) (wq2_0 : ∀ x ∈ q2_0, x.size ≤ maxLen) :
    FC Try.prog 4 4 [.agg [.sl 1 0 0 l0_0, .sl 2 0 0 l0_1, .int .i64 x0_2], .str s1, .sl 3 0 0 l2] [(1, some (.one true (.cols l0_0 [.sc (.strs q0_0_0), .sc (.strs q0_0_1), .sc (.strs q0_0_2), .sc (.strs q0_0_3)]))), (2, some (.one true (.cols l0_1 [.sc (.strs q0_1_0), .sc (.strs q0_1_1)]))), (3, some (.one true (.cols l2 [.sc (.strs q2_0)])))] (isOut (.bool true) [] 4) :=
  rc_core ⟨l0_0, q0_0_0, q0_0_1, q0_0_2, q0_0_3⟩ l0_1 q0_1_0 q0_1_1 x0_2 s1 l2 q2_0 eq0_0_0 eq0_0_1 eq0_0_2 eq0_0_3 eq0_1_0 eq0_1_1
end Go.Proofs.Ytkmbnniikncaiaa
