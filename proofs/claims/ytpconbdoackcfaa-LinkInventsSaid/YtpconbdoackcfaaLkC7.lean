/- Contracts of package link: receiving. -/
import Derived.Test.YtpconbdoackcfaaLkC6
import Derived.Test.YtpconbdoackcfaaYIdx
import Derived.Test.YtpconbdoackcfaaLay
namespace Go.Proofs.Ytpconbdoackcfaa
open Go.RowKit Go.Sy
attribute [local irreducible] vcall vloop vcallD retP sortI
set_option maxRecDepth 100000
set_option linter.unusedVariables false
set_option linter.unusedSimpArgs false

theorem int_Sort (n : Nat) (l : List Int) (hn : n < 4611686018427387904) : FC Try.prog 2 28 [.sl 1 0 0 n] [(1, some (.one false (.cols n [.sc (.ints .i64 l)])))] (isOut (.tup []) [(1, some (.one false (.cols n [.sc (.ints .i64 (sortI l))])))] 2) :=
  fc_sortI ⟨fun blk off cap ss W hH hblk hsz => AnyM.slices_Sort_int Try.sortI blk off cap ss W hH hblk hsz, fun p cap W => AnyM.slices_Sort_int_none Try.sortI p cap W⟩ (bodied_of Try.func28 (by kernel_rfl) (by kernel_rfl)) n l hn

theorem lk_ReceiveN (u : Int) : Pure Try.prog 9 [.nptr, .int .i64 u] .nsl := by
  refine fc_of mixed T_ok Try.func9 rfl (by kernel_rfl) (by kernel_rfl) (by kernel_rfl) ?_
  repeat' ((conv => whnf); first | (refine br_dec (fun h => ?_) (fun h => ?_) <;> try (exfalso; (try dsimp only at h); omega)) | (refine br_ndec (fun h => ?_) (fun h => ?_) <;> try (exfalso; (try dsimp only at h); omega)) | refine br_seq (fun h => ?_) (fun h => ?_) | refine br_nseq (fun h => ?_) (fun h => ?_) | refine br_not (fun h => ?_) (fun h => ?_) | refine br_intro (fun h => ?_) (fun h => ?_) | refine cond_intro rfl ?_ | (refine cond_intro ⟨rfl, ?_⟩ ?_; (first | omega | (dsimp only; omega) | decide)) | (refine cond_intro ?_ ?_; (first | omega | (dsimp only; omega) | decide | (simp only [Nat.add_zero, Int.toNat_natCast, *]; omega))))
  all_goals (conv => whnf)
  all_goals exact ret_pure rfl
/-- The times up to one, of the rows that were visited. -/
def tiL (ks : List Int) (u : Int) (sn : List Nat) : List Int := (sn.reverse.map (fun i => ks.getD i 0)).filter (fun t => decide (t ≤ u))
theorem tiL_yes {ks : List Int} {u : Int} {i : Nat} {sn : List Nat} (h : ks.getD i 0 ≤ u) : tiL ks u (i :: sn) = tiL ks u sn ++ [ks.getD i 0] := by
  unfold tiL
  rw [List.reverse_cons, List.map_append, List.filter_append]
  simp only [List.map_cons, List.map_nil, List.filter_cons, List.filter_nil, decide_eq_true h, if_true]
theorem tiL_no {ks : List Int} {u : Int} {i : Nat} {sn : List Nat} (h : ¬ ks.getD i 0 ≤ u) : tiL ks u (i :: sn) = tiL ks u sn := by
  unfold tiL
  rw [List.reverse_cons, List.map_append, List.filter_append]
  simp only [List.map_cons, List.map_nil, List.filter_cons, List.filter_nil, decide_eq_false h, Bool.false_eq_true, if_false, List.append_nil]
theorem tiL_len (ks : List Int) (u : Int) (sn : List Nat) : (tiL ks u sn).length ≤ sn.length := by
  unfold tiL
  refine Nat.le_trans (List.length_filter_le _ _) ?_
  simp
/-- The times that arrive, in order. -/
def Wy.due (W : Wy) (u : Int) : List Int := sortI (W.ks.filter (fun t => decide (t ≤ u)))
theorem due_eq {W : Wy} {u : Int} {sn : List Nat} (hk : W.ks.length = W.n) (hd : sn.Nodup) (hl : ∀ i ∈ sn, i < W.n) (ha : ∀ i, i < W.n → i ∈ sn) : sortI (tiL W.ks u sn) = W.due u := by
  unfold Wy.due tiL
  refine sortI_congr (List.Perm.filter _ ?_)
  have := ((List.reverse_perm sn).trans (perm_range hd hl ha)).map (fun i => W.ks.getD i 0)
  rwa [← hk, map_range_getD] at this

def Ar.cat (a : Ar) (n : Nat) (r : Ar) : Ar := ⟨a.t ++ seg 0 n r.t, a.f ++ seg 0 n r.f, a.o ++ seg 0 n r.o, a.k ++ seg 0 n r.k, a.x ++ seg 0 n r.x⟩
def Wy.del (W : Wy) (t : Int) : Wy := ⟨if iidx W.ks t < W.n then W.n - 1 else W.n, W.ks.eraseIdx (iidx W.ks t), W.ns.eraseIdx (iidx W.ks t), W.rs.eraseIdx (iidx W.ks t), W.bs.eraseIdx (iidx W.ks t), W.ck⟩
def Wy.dels (W : Wy) (S : List Int) : Nat → Wy
  | 0 => W
  | k + 1 => (W.dels S k).del (S.getD k 0)
/-- How many have arrived, and which. -/
def Wy.gn (W : Wy) (S : List Int) : Nat → Nat
  | 0 => 0
  | k + 1 => W.gn S k + (W.dels S k).ns.getD (iidx (W.dels S k).ks (S.getD k 0)) 0
def Wy.got (W : Wy) (S : List Int) : Nat → Ar
  | 0 => ar0
  | k + 1 => (W.got S k).cat ((W.dels S k).ns.getD (iidx (W.dels S k).ks (S.getD k 0)) 0) ((W.dels S k).rs.getD (iidx (W.dels S k).ks (S.getD k 0)) ar0)
theorem del_fam (W : Wy) (ro : Bool) (t : Int) : wyF ro (W.del t) = .fam ro (fun q => q < (if iidx W.ks t < W.n then W.n - 1 else W.n)) (fun q => arB (W.ns.getD (if q < iidx W.ks t then q else q + 1) 0) (W.rs.getD (if q < iidx W.ks t then q else q + 1) ar0)) := by
  unfold wyF Wy.del
  dsimp only
  congr 1
  funext q
  rw [eraseIdx_getD, eraseIdx_getD]
abbrev rvH (L : Lk) (S : List Int) (c : Nat) (W : Wy) (gn : Nat) (g : Ar) : Heap := [(1, some (lkC false L)), (2, some (faB true L.F)), (3, some (wyM false 6 W)), (6, some (wyF false W)), (5, some (.one false (.cols c [.sc (.ints .i64 S)]))), (7, some (.one false (arB gn g)))]
set_option maxHeartbeats 1000000 in
/-- A round of the times that arrive. -/
theorem rv_round (L : Lk) (u : Int) (S : List Int) (c : Nat) (hc : c ≤ 100000) (W : Wy) (h1 : W.ns.length = W.n) (i : Nat) (hi : i < c) (hin : iidx W.ks (S.getD i 0) < W.n) (gn : Nat) (g : Ar) (hg : gn ≤ 100000) (hg2 : W.ns.getD (iidx W.ks (S.getD i 0)) 0 ≤ 100000) (K : Exit → VS → Prop)
    (hN : ∀ v, (∃ l us, upK us v (fun v => Weak 5 l v ⟨[(0, .ptr 1 0 0 0), (1, .int .i64 u), (30, .sl 5 0 0 c), (31, .int .i64 c), (32, .int .i64 ((i + 1 : Nat) : Int)), (7, .sl 7 0 0 (gn + W.ns.getD (iidx W.ks (S.getD i 0)) 0))], rvH L S c (W.del (S.getD i 0)) (gn + W.ns.getD (iidx W.ks (S.getD i 0)) 0) (g.cat (W.ns.getD (iidx W.ks (S.getD i 0)) 0) (W.rs.getD (iidx W.ks (S.getD i 0)) ar0)), 8⟩)) → K .normal v) :
    vcode Try.prog T 5 (lpc Try.f9 1) ⟨[(0, .ptr 1 0 0 0), (1, .int .i64 u), (30, .sl 5 0 0 c), (31, .int .i64 c), (32, .int .i64 i), (7, .sl 7 0 0 gn)], rvH L S c W gn g, 8⟩ K := by
  have efam := del_fam W false (S.getD i 0)
  have hfd : foundS false W.n [.own 6 W.ns] (iidx W.ks (S.getD ((i : Int).toNat + 0) 0)) = .sl 6 (iidx W.ks (S.getD i 0)) 0 (W.ns.getD (iidx W.ks (S.getD i 0)) 0) := by
    show (bif decide (iidx W.ks (S.getD i 0) < W.n) then SV.sl 6 (iidx W.ks (S.getD i 0)) 0 (W.ns.getD (iidx W.ks (S.getD i 0)) 0) else .nsl) = _
    rw [decide_eq_true hin]; rfl
  repeat' ((conv => whnf); first | (rw [hfd]) | (refine br_dec (fun h => ?_) (fun h => ?_) <;> try (exfalso; (try dsimp only at h); omega)) | (refine br_ndec (fun h => ?_) (fun h => ?_) <;> try (exfalso; (try dsimp only at h); omega)) | refine br_seq (fun h => ?_) (fun h => ?_) | refine br_nseq (fun h => ?_) (fun h => ?_) | refine br_not (fun h => ?_) (fun h => ?_) | refine br_intro (fun h => ?_) (fun h => ?_) | refine cond_intro rfl ?_ | (refine cond_intro ⟨rfl, ?_⟩ ?_; (first | omega | (dsimp only; omega) | decide)) | (refine cond_intro ?_ ?_; (first | omega | (dsimp only; omega) | decide | (simp only [Nat.add_zero, Int.toNat_natCast, *]; omega))))
  all_goals (conv => whnf)
  all_goals first
    | (exfalso; omega)
    | (refine hN _ ⟨[0, 1, 2, 3, 4, 5, 9, 8], [.relab (fun h' q => if h' = 9 ∧ q < (if iidx W.ks (S.getD i 0) < W.n then W.n - 1 else W.n) then some (6, if q < iidx W.ks (S.getD i 0) then q else q + 1) else none) (fun _ => 0) [(3, some (wyM false 9 (W.del (S.getD i 0)))), (9, some (wyF false (W.del (S.getD i 0))))] [6] 1], ⟨by rw [efam]; exact relab_map_del' (f := fun q => arB (W.ns.getD q 0) (W.rs.getD q ar0)) (m := if iidx W.ks (S.getD i 0) < W.n then W.n - 1 else W.n) (n := 9) (bh := 3) (h := 6) (i := iidx W.ks (S.getD i 0)) (ns := W.ns) (dom := fun q => q < W.n) rfl (by decide) (by omega) (by rw [if_pos hin]; omega) rfl (fun q hq hne => (show q < W.n by omega)) (by decide), ?_⟩⟩
       exact ⟨rfl, ⟨rfl, rfl, rfl, rfl, congrArg (fun z => some (SV.int .i64 z)) (i64_succ (by omega)), rfl, trivial⟩, ⟨rfl, rfl, rfl, rfl, rfl, rfl, trivial⟩⟩)
theorem dels_ok {W : Wy} (h1 : W.ns.length = W.n) (h2 : W.rs.length = W.n) (h3 : W.ks.length = W.n) (hd : W.ks.Nodup) (S : List Int) (hS : S.Nodup) (hm : ∀ t, t ∈ S → t ∈ W.ks) : ∀ k, k ≤ S.length → (W.dels S k).ns.length = (W.dels S k).n ∧ (W.dels S k).rs.length = (W.dels S k).n ∧ (W.dels S k).ks.length = (W.dels S k).n ∧ (W.dels S k).ks.Nodup ∧ ∀ t, t ∈ (W.dels S k).ks ↔ t ∈ W.ks ∧ ¬ t ∈ S.take k
  | 0, _ => ⟨h1, h2, h3, hd, fun t => by simp [Wy.dels]⟩
  | k + 1, hk => by
    obtain ⟨a1, a2, a3, a4, a5⟩ := dels_ok h1 h2 h3 hd S hS hm k (by omega)
    have hlt : k < S.length := by omega
    have eg : S.getD k 0 = S[k] := by simp [List.getD, hlt]
    have hin : S.getD k 0 ∈ (W.dels S k).ks := by
      rw [a5, eg]
      refine ⟨hm _ (List.getElem_mem hlt), fun h => ?_⟩
      obtain ⟨j, hj, e⟩ := List.getElem_of_mem h
      simp only [List.length_take] at hj
      rw [List.getElem_take] at e
      have := (List.getElem_inj hS).1 e
      omega
    have hi := iidx_lt.2 hin
    rw [a3] at hi
    simp only [Wy.dels, Wy.del]
    refine ⟨?_, ?_, ?_, erase_nodup a4 _, fun t => ?_⟩
    · rw [List.length_eraseIdx, if_pos hi, if_pos (by omega), a1]
    · rw [List.length_eraseIdx, if_pos hi, if_pos (by omega), a2]
    · rw [List.length_eraseIdx, if_pos hi, if_pos (by omega), a3]
    · rw [erase_mem a4, a5, List.take_succ_eq_append_getElem hlt, List.mem_append, List.mem_singleton, eg]
      exact ⟨fun h => ⟨h.1.1, fun x => x.elim h.1.2 h.2⟩, fun h => ⟨⟨h.1, fun x => h.2 (.inl x)⟩, fun x => h.2 (.inr x)⟩⟩
theorem sum_erase : ∀ (l : List Nat) (i : Nat), ((l.eraseIdx i).map (fun (n : Nat) => (n : Int))).sum + ((l.getD i 0 : Nat) : Int) = (l.map (fun (n : Nat) => (n : Int))).sum
  | [], i => by simp
  | a :: l, 0 => by simp only [List.eraseIdx_cons_zero, List.getD_cons_zero, List.map_cons, List.sum_cons]; omega
  | a :: l, i + 1 => by
    have := sum_erase l i
    simp only [List.eraseIdx_cons_succ, List.getD_cons_succ, List.map_cons, List.sum_cons]
    omega
theorem dels_sum (W : Wy) (S : List Int) : ∀ k, ((W.dels S k).ns.map (fun (n : Nat) => (n : Int))).sum + (W.gn S k : Int) = (W.ns.map (fun (n : Nat) => (n : Int))).sum
  | 0 => by simp [Wy.dels, Wy.gn]
  | k + 1 => by
    have := dels_sum W S k
    have := sum_erase (W.dels S k).ns (iidx (W.dels S k).ks (S.getD k 0))
    simp only [Wy.dels, Wy.del, Wy.gn]
    omega
end Go.Proofs.Ytpconbdoackcfaa
