/- Contracts of package link: receiving, and the next arrival. -/
import Derived.Test.YtpconbdoackcfaaLkC7
namespace Go.Proofs.Ytpconbdoackcfaa
open Go.RowKit Go.Sy
attribute [local irreducible] vcall vloop vcallD retP sortI
set_option maxRecDepth 100000
set_option linter.unusedVariables false
set_option linter.unusedSimpArgs false

/-- The clock behind a Receive. -/
def Lk.rnw (L : Lk) (u : Int) : Int := max L.nw (min u 1099511627776)
abbrev rvO (L : Lk) (u : Int) : Heap := [(1, some (lkC false { L with nw := L.rnw u })), (3, some (wyM false 5 (L.W.dels (L.W.due u) (L.W.due u).length))), (5, some (wyF false (L.W.dels (L.W.due u) (L.W.due u).length))), (6, some (.one false (arB (L.W.gn (L.W.due u) (L.W.due u).length) (L.W.got (L.W.due u) (L.W.due u).length))))]
set_option maxHeartbeats 1000000 in
theorem lk_Receive (L : Lk) (u : Int) (hw : L.W.Ok) (hd : L.W.ks.Nodup) (hn : L.W.n ≤ 10000) : FC Try.prog 5 9 [.ptr 1 0 0 0, .int .i64 u] (lkH L) (isOut (.sl 6 0 0 (L.W.gn (L.W.due u) (L.W.due u).length)) (rvO L u) 7) := by
  have hSn : (L.W.due u).Nodup := (sortI_perm _).symm.nodup (hd.filter _)
  have hSm : ∀ t, t ∈ L.W.due u → t ∈ L.W.ks := fun t ht => (List.mem_filter.1 ((sortI_perm _).mem_iff.1 ht)).1
  have hdk := dels_ok hw.nl hw.rl hw.kl hd (L.W.due u) hSn hSm
  have hds := dels_sum L.W (L.W.due u)
  have hlim := hw.lim
  unfold rvO
  refine fc_of mixed T_ok Try.func9 rfl (by kernel_rfl) (by kernel_rfl) (by kernel_rfl) ?_
  repeat' ((conv => whnf); first | (refine br_dec (fun h => ?_) (fun h => ?_) <;> try (exfalso; (try dsimp only at h); omega)) | (refine br_ndec (fun h => ?_) (fun h => ?_) <;> try (exfalso; (try dsimp only at h); omega)) | refine br_seq (fun h => ?_) (fun h => ?_) | refine br_nseq (fun h => ?_) (fun h => ?_) | refine br_not (fun h => ?_) (fun h => ?_) | refine br_intro (fun h => ?_) (fun h => ?_) | refine cond_intro rfl ?_ | (refine cond_intro ⟨rfl, ?_⟩ ?_; (first | omega | (dsimp only; omega) | decide)) | (refine cond_intro ?_ ?_; (first | omega | (dsimp only; omega) | decide | (simp only [Nat.add_zero, Int.toNat_natCast, *]; omega))))
  all_goals (conv => whnf)
  refine vloop_of (fun sn : List Nat => ⟨[(0, .ptr 1 0 0 0), (1, .int .i64 u), (16, .ptr 5 0 0 0), (5, .sl 6 0 0 (tiL L.W.ks u sn).length)], (5, some (.one false (.obj (.iter 3 0 L.W.bs L.W.ck sn)))) :: (6, some (.one false (.cols (tiL L.W.ks u sn).length [.sc (.ints .i64 (tiL L.W.ks u sn))]))) :: lkH L, 7⟩) (fun sn => sn.Nodup ∧ ∀ i ∈ sn, i < L.W.n) (fun sn => L.W.n - sn.length) [] [0, 1, 2, 3, 4, 5, 6] [.slot 5 [.sc (.ints .i64 [])]] ⟨rfl, ⟨rfl, rfl, rfl, rfl, trivial⟩, ⟨rfl, rfl, rfl, rfl, rfl, rfl, trivial⟩⟩ ⟨List.nodup_nil, by simp⟩ ?_
  rintro sn ⟨hnd, hb⟩
  have hsl := nodup_len _ sn hnd hb
  have htl := tiL_len L.W.ks u sn
  have cs := int_Sort (tiL L.W.ks u sn).length (tiL L.W.ks u sn) (by omega)
  repeat' ((conv => whnf); first | (refine ⟨⟨rfl, rfl⟩, fun i hi hni => ?_, fun hall => ?_⟩) | (refine vcall_out (l :=  [0, 6]) (cs ) ⟨rfl, rfl, rfl, rfl, (by (repeat' (first | exact trivial | exact GB_wf | exact fun _ _ => rfl | constructor)); first | done | fail), (by (repeat' (first | exact trivial | exact GB_fits rfl | constructor)); first | done | fail)⟩ ?_) | (refine br_dec (fun h => ?_) (fun h => ?_) <;> try (exfalso; (try dsimp only at h); omega)) | (refine br_ndec (fun h => ?_) (fun h => ?_) <;> try (exfalso; (try dsimp only at h); omega)) | refine br_seq (fun h => ?_) (fun h => ?_) | refine br_nseq (fun h => ?_) (fun h => ?_) | refine br_not (fun h => ?_) (fun h => ?_) | refine br_intro (fun h => ?_) (fun h => ?_) | refine cond_intro rfl ?_ | (refine cond_intro ⟨rfl, ?_⟩ ?_; (first | omega | (dsimp only; omega) | decide)) | (refine cond_intro ?_ ?_; (first | omega | (dsimp only; omega) | decide | (simp only [Nat.add_zero, Int.toNat_natCast, *]; omega))))
  all_goals (conv => whnf)
  · have hlt := nodup_cons_lt hnd hb hi hni
    refine ⟨i :: sn, [0, 1, 2, 3, 4, 5, 8], [], ⟨List.nodup_cons.2 ⟨hni, hnd⟩, fun x hx => ?_⟩, by simp only [List.length_cons]; omega, ?_⟩
    · rcases List.mem_cons.1 hx with rfl | hx
      · exact hi
      · exact hb x hx
    · rw [tiL_yes h, List.length_append]
      exact ⟨rfl, ⟨rfl, rfl, rfl, rfl, trivial⟩, ⟨rfl, rfl, rfl, rfl, rfl, rfl, trivial⟩⟩
  · have hlt := nodup_cons_lt hnd hb hi hni
    refine ⟨i :: sn, [0, 1, 2, 3, 4, 5, 6], [], ⟨List.nodup_cons.2 ⟨hni, hnd⟩, fun x hx => ?_⟩, by simp only [List.length_cons]; omega, ?_⟩
    · rcases List.mem_cons.1 hx with rfl | hx
      · exact hi
      · exact hb x hx
    · rw [tiL_no h]
      exact ⟨rfl, ⟨rfl, rfl, rfl, rfl, trivial⟩, ⟨rfl, rfl, rfl, rfl, rfl, rfl, trivial⟩⟩
  · have ed := due_eq (u := u) hw.kl hnd hb hall
    have el : (tiL L.W.ks u sn).length = (L.W.due u).length := by rw [← ed, sortI_length]
    have hcb : (L.W.due u).length ≤ 10000 := by omega
    rw [ed, el]
    clear el ed cs htl
    generalize L.W.due u = S at *
    refine vloop_lp (fun k : Nat => ⟨[(0, .ptr 1 0 0 0), (1, .int .i64 u), (30, .sl 5 0 0 S.length), (31, .int .i64 S.length), (32, .int .i64 k), (7, .sl 7 0 0 (L.W.gn S k))], rvH L S S.length (L.W.dels S k) (L.W.gn S k) (L.W.got S k), 8⟩) (fun k => k ≤ S.length) (fun k => S.length - k) 0 [0, 1, 2, 3, 4, 6, 4, 7] [.slot 7 [.sc (.ints .i64 []), .sc (.ints .i64 []), .sc (.ints .i64 []), .sc (.ints .i64 []), .sc (.strs [])]] ⟨rfl, ⟨rfl, rfl, rfl, rfl, rfl, rfl, trivial⟩, ⟨rfl, rfl, rfl, rfl, rfl, rfl, trivial⟩⟩ (Nat.zero_le _) ?_
    intro k hk
    by_cases hk2 : k < S.length
    · obtain ⟨a1, a2, a3, a4, a5⟩ := hdk k hk
      have s1 := hds k
      have s0 := sum_nonneg (L.W.dels S k).ns
      have s2 := sum_ge (L.W.dels S k).ns (iidx (L.W.dels S k).ks (S.getD k 0))
      have hin : iidx (L.W.dels S k).ks (S.getD k 0) < (L.W.dels S k).n := by
        have hlt : k < S.length := by omega
        have eg : S.getD k 0 = S[k] := by simp [List.getD, hlt]
        rw [← a3]
        refine iidx_lt.2 ?_
        rw [a5, eg]
        refine ⟨hSm _ (List.getElem_mem hlt), fun h => ?_⟩
        obtain ⟨j, hj, e⟩ := List.getElem_of_mem h
        simp only [List.length_take] at hj
        rw [List.getElem_take] at e
        have := (List.getElem_inj hSn).1 e
        omega
      exact rv_round L u S S.length (by omega) (L.W.dels S k) a1 k hk2 hin (L.W.gn S k) (L.W.got S k) (by omega) (by omega) _ (fun v ⟨l, us, h⟩ => ⟨k + 1, l, us, (show k + 1 ≤ S.length by omega), (show S.length - (k + 1) < S.length - k by omega), h⟩)
    · have hkk : k = S.length := by omega
      rw [hkk]
      generalize L.W.dels S S.length = W at *
      generalize L.W.gn S S.length = gn at *
      generalize L.W.got S S.length = gt at *
      repeat' ((conv => whnf); first | (refine br_dec (fun h => ?_) (fun h => ?_) <;> try (exfalso; (try dsimp only at h); omega)) | (refine br_ndec (fun h => ?_) (fun h => ?_) <;> try (exfalso; (try dsimp only at h); omega)) | refine br_seq (fun h => ?_) (fun h => ?_) | refine br_nseq (fun h => ?_) (fun h => ?_) | refine br_not (fun h => ?_) (fun h => ?_) | refine br_intro (fun h => ?_) (fun h => ?_) | refine cond_intro rfl ?_ | (refine cond_intro ⟨rfl, ?_⟩ ?_; (first | omega | (dsimp only; omega) | decide)) | (refine cond_intro ?_ ?_; (first | omega | (dsimp only; omega) | decide | (simp only [Nat.add_zero, Int.toNat_natCast, *]; omega))))
      all_goals (conv => whnf)
      all_goals first
        | exact ret_out (l := [0, 1, 2, 3, 4, 6, 7]) rfl rfl ⟨rfl, rfl, rfl, rfl, trivial⟩ (allRw_cons (allRw_cons (allRw_fam (allRw_cons allRw_nil))))
        | (exfalso; omega)

/-- What is found of the least time, when some rows were visited. -/
def nxI (ks : List Int) (sn : List Nat) (x : Int) : Prop := (sn = [] → x = 0) ∧ (sn ≠ [] → (∃ i, i ∈ sn ∧ ks.getD i 0 = x) ∧ ∀ i, i ∈ sn → x ≤ ks.getD i 0)
def lmin : List Int → Int
  | [] => 0
  | [a] => a
  | a :: b :: l => min a (lmin (b :: l))
theorem lmin_ok : ∀ (l : List Int), l ≠ [] → lmin l ∈ l ∧ ∀ y, y ∈ l → lmin l ≤ y
  | [], h => absurd rfl h
  | [a], _ => by simp [lmin]
  | a :: b :: l, _ => by
    obtain ⟨h1, h2⟩ := lmin_ok (b :: l) (by simp)
    simp only [lmin]
    refine ⟨?_, fun y hy => ?_⟩
    · by_cases h : a ≤ lmin (b :: l)
      · rw [Int.min_eq_left h]; simp
      · rw [Int.min_eq_right (by omega)]; exact List.mem_cons_of_mem _ h1
    · rcases List.mem_cons.1 hy with rfl | hy
      · omega
      · have := h2 y hy; omega
theorem lk_Next (L : Lk) (hk : L.W.ks.length = L.W.n) : FC Try.prog 5 10 [.ptr 1 0 0 0] (lkR L) (isOut (.tup [.int .i64 (lmin L.W.ks), .bool (decide (0 < L.W.n))]) [] 5) := by
  refine fc_of mixed T_ok Try.func10 rfl (by kernel_rfl) (by kernel_rfl) (by kernel_rfl) ?_
  repeat' ((conv => whnf); first | (refine br_dec (fun h => ?_) (fun h => ?_) <;> try (exfalso; (try dsimp only at h); omega)) | (refine br_ndec (fun h => ?_) (fun h => ?_) <;> try (exfalso; (try dsimp only at h); omega)) | refine br_seq (fun h => ?_) (fun h => ?_) | refine br_nseq (fun h => ?_) (fun h => ?_) | refine br_not (fun h => ?_) (fun h => ?_) | refine br_intro (fun h => ?_) (fun h => ?_) | refine cond_intro rfl ?_ | (refine cond_intro ⟨rfl, ?_⟩ ?_; (first | omega | (dsimp only; omega) | decide)) | (refine cond_intro ?_ ?_; (first | omega | (dsimp only; omega) | decide | (simp only [Nat.add_zero, Int.toNat_natCast, *]; omega))))
  all_goals (conv => whnf)
  refine vloop_of (fun x : List Nat × Int => ⟨[(13, .ptr 5 0 0 0), (4, .int .i64 x.2), (5, .bool (decide (x.1 ≠ [])))], (5, some (.one false (.obj (.iter 3 0 L.W.bs L.W.ck x.1)))) :: lkR L, 6⟩) (fun x => (x.1.Nodup ∧ ∀ i ∈ x.1, i < L.W.n) ∧ nxI L.W.ks x.1 x.2) (fun x => L.W.n - x.1.length) ([], 0) [0, 1, 2, 3, 4, 5] [] ⟨rfl, ⟨rfl, rfl, rfl, trivial⟩, ⟨rfl, rfl, rfl, rfl, trivial⟩⟩ ⟨⟨List.nodup_nil, by simp⟩, fun _ => rfl, fun h => absurd rfl h⟩ ?_
  rintro ⟨sn, x⟩ ⟨⟨hd, hb⟩, hx⟩
  dsimp only at hd hb hx
  have fin : ∀ i, i < L.W.n → ¬ i ∈ sn → ((i :: sn).Nodup ∧ ∀ j ∈ i :: sn, j < L.W.n) := fun i hi hni => ⟨List.nodup_cons.2 ⟨hni, hd⟩, fun j hj => by rcases List.mem_cons.1 hj with rfl | hj; exact hi; exact hb j hj⟩
  repeat' ((conv => whnf); first | (refine ⟨⟨rfl, rfl⟩, fun i hi hni => ?_, fun hall => ?_⟩) | (refine br_dec (fun h => ?_) (fun h => ?_) <;> try (exfalso; (try dsimp only at h); omega)) | (refine br_ndec (fun h => ?_) (fun h => ?_) <;> try (exfalso; (try dsimp only at h); omega)) | refine br_seq (fun h => ?_) (fun h => ?_) | refine br_nseq (fun h => ?_) (fun h => ?_) | refine br_not (fun h => ?_) (fun h => ?_) | refine br_intro (fun h => ?_) (fun h => ?_) | refine cond_intro rfl ?_ | (refine cond_intro ⟨rfl, ?_⟩ ?_; (first | omega | (dsimp only; omega) | decide)) | (refine cond_intro ?_ ?_; (first | omega | (dsimp only; omega) | decide | (simp only [Nat.add_zero, Int.toNat_natCast, *]; omega))))
  all_goals (conv => whnf)
  · refine ⟨(i :: sn, L.W.ks.getD i 0), [0, 1, 2, 3, 4, 5], [], ⟨fin i hi hni, fun e => absurd e (by simp), fun _ => ⟨⟨i, by simp, rfl⟩, fun j hj => ?_⟩⟩, by have := nodup_cons_lt hd hb hi hni; simp only [List.length_cons]; omega, ⟨rfl, ⟨rfl, rfl, rfl, trivial⟩, ⟨rfl, rfl, rfl, rfl, trivial⟩⟩⟩
    have e : sn = [] := Classical.not_not.1 h
    subst e
    simp at hj; subst hj; exact Int.le_refl _
  · rename_i hne
    refine ⟨(i :: sn, L.W.ks.getD i 0), [0, 1, 2, 3, 4, 5], [], ⟨fin i hi hni, fun e => absurd e (by simp), fun _ => ⟨⟨i, by simp, rfl⟩, fun j hj => ?_⟩⟩, by have := nodup_cons_lt hd hb hi hni; simp only [List.length_cons]; omega, ⟨rfl, ⟨rfl, rfl, rfl, trivial⟩, ⟨rfl, rfl, rfl, rfl, trivial⟩⟩⟩
    rcases List.mem_cons.1 hj with rfl | hj
    · exact Int.le_refl _
    · have := (hx.2 hne).2 j hj
      dsimp only at h
      omega
  · rename_i hne
    obtain ⟨⟨i0, m1, m2⟩, m3⟩ := hx.2 hne
    refine ⟨(i :: sn, x), [0, 1, 2, 3, 4, 5], [], ⟨fin i hi hni, fun e => absurd e (by simp), fun _ => ⟨⟨i0, List.mem_cons_of_mem _ m1, m2⟩, fun j hj => ?_⟩⟩, by have := nodup_cons_lt hd hb hi hni; simp only [List.length_cons]; omega, ⟨rfl, ⟨rfl, rfl, congrArg (fun z => some (SV.bool z)) ?_, trivial⟩, ⟨rfl, rfl, rfl, rfl, trivial⟩⟩⟩
    · rcases List.mem_cons.1 hj with rfl | hj
      · dsimp only at h ⊢; omega
      · exact m3 j hj
    · show decide (sn ≠ []) = decide (i :: sn ≠ [])
      exact decide_eq_decide.2 ⟨fun _ => by simp, fun _ => hne⟩
  · have e1 : x = lmin L.W.ks ∧ decide (sn ≠ []) = decide (0 < L.W.n) := by
      cases sn with
      | nil =>
        have : L.W.n = 0 := by
          rcases Nat.eq_zero_or_pos L.W.n with h | h
          · exact h
          · exact absurd (hall 0 h) (by simp)
        have hk0 : L.W.ks = [] := List.eq_nil_of_length_eq_zero (by omega)
        rw [hx.1 rfl, hk0, this]
        exact ⟨rfl, rfl⟩
      | cons a r =>
        have hpos : 0 < L.W.n := by have := hb a (by simp); omega
        have hne : L.W.ks ≠ [] := by intro e; rw [e] at hk; simp at hk; omega
        obtain ⟨h1, h2⟩ := lmin_ok L.W.ks hne
        obtain ⟨⟨i0, m1, m2⟩, m3⟩ := hx.2 (by simp)
        have hi0 := hb i0 m1
        have hx1 : x ∈ L.W.ks := by
          rw [← m2, List.getD, List.getElem?_eq_getElem (by omega)]
          exact List.getElem_mem (by omega)
        obtain ⟨j, hj, ej⟩ := List.getElem_of_mem h1
        have h3 := m3 j (hall j (by omega))
        rw [List.getD, List.getElem?_eq_getElem hj] at h3
        simp only [Option.getD_some] at h3
        have h4 := h2 x hx1
        exact ⟨by omega, decide_eq_decide.2 ⟨fun _ => hpos, fun _ => by simp⟩⟩
    show retP 5 _ (.tup [.int .i64 x, .bool (decide (sn ≠ []))]) _
    rw [e1.1, e1.2]
    exact ret_out (l := [0, 1, 2, 3, 4]) rfl rfl trivial allRw_nil
end Go.Proofs.Ytpconbdoackcfaa
