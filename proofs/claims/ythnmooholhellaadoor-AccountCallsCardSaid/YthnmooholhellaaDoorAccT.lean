/- Contracts of the reference's accounts. -/
import Derived.Test.YthnmooholhellaaDoorAccQ
namespace Go.Proofs.YthnmooholhellaaDoor
open Go.RowKit Go.Sy
attribute [local irreducible] vcall vloop vcallD retP
set_option maxRecDepth 100000
set_option linter.unusedVariables false
set_option linter.unusedSimpArgs false

abbrev rX (ro : Bool) (cur : ByteArray) (b l : Int) (n : Nat) (I : List ByteArray) (V : List Int) : Heap := [(1, some (.one ro (.cells [.str cur, .int .i64 b, .int .i64 l, .sl 2 0 0 n, .sl 3 0 0 n]))), (2, some (.one ro (.cols n [.sc (.strs I)]))), (3, some (.one ro (.cols n [.sc (.ints .i64 V)])))]
abbrev rR (cur : ByteArray) (a : Acc) : Heap := rX true cur a.bal a.lim a.n (sortS a.ks) a.am
abbrev rH (cur : ByteArray) (a : Acc) : Heap := rX false cur a.bal a.lim a.n (sortS a.ks) a.am
abbrev rY (cur : ByteArray) (b l : Int) (n : Nat) (I : List ByteArray) (V : List Int) : Heap := [(1, some (.one false (.cells [.str cur, .int .i64 b, .int .i64 l, .sl 4 0 0 n, .sl 5 0 0 n]))), (4, some (.one false (.cols n [.sc (.strs I)]))), (5, some (.one false (.cols n [.sc (.ints .i64 V)])))]
/-- An outcome: the two lists may be new ones. -/
abbrev rO (cur : ByteArray) (a : Acc) : Heap := rY cur a.bal a.lim a.n (sortS a.ks) a.am
theorem rwO (cur : ByteArray) (b l : Int) (n : Nat) (I : List ByteArray) (V : List Int) : allRw (rY cur b l n I V) := allRw_cons (allRw_cons (allRw_cons allRw_nil))
theorem rw3 (cur : ByteArray) (b l : Int) (n : Nat) (I : List ByteArray) (V : List Int) : allRw (rX false cur b l n I V) := allRw_cons (allRw_cons (allRw_cons allRw_nil))

theorem r_isId (s : ByteArray) (hs : s.size ≤ 9223372036854775807) : Pure Tryd.prog 57 [.str s] (.bool (idB s)) := by
  refine fc_of mixed T_ok Tryd.func57 rfl (by kernel_rfl) (by kernel_rfl) (by kernel_rfl) ?_
  (conv => whnf)
  refine vloop_of (fun k : Nat => ⟨[(0, .str s), (3, .int .i64 k)], [], 1⟩) (fun k => k ≤ s.size ∧ ∀ i, i < k → idC (byteAt s (i : Int))) (fun k => s.size - k) 0 [0] [] ⟨rfl, ⟨rfl, rfl, trivial⟩, trivial⟩ ⟨by omega, fun i hi => by omega⟩ ?_
  rintro k ⟨hk, hc⟩
  repeat' ((conv => whnf); first | (refine br_dec (fun h => ?_) (fun h => ?_) <;> try (exfalso; omega)) | (refine br_ndec (fun h => ?_) (fun h => ?_) <;> try (exfalso; omega)) | refine br_seq (fun h => ?_) (fun h => ?_) | refine br_nseq (fun h => ?_) (fun h => ?_) | refine br_not (fun h => ?_) (fun h => ?_) | refine br_intro (fun h => ?_) (fun h => ?_) | refine cond_intro rfl ?_ | (refine cond_intro ⟨rfl, ?_⟩ ?_; (first | omega | (dsimp only; omega) | decide)) | (refine cond_intro ?_ ?_; (first | omega | (dsimp only; omega) | decide | (simp only [Nat.add_zero, Int.toNat_natCast, *]; omega))))
  all_goals (conv => whnf)
  all_goals first
    | exact ret_pure (by rw [idB_no (k := k) (by omega) (by unfold idC; omega)]; rfl)
    | exact ⟨k + 1, [0], [], ⟨by omega, to_succ hc (by unfold idC; omega)⟩, by omega, ⟨rfl, ⟨rfl, congrArg (fun z => some (SV.int .i64 z)) (i64_succ' (by omega)), trivial⟩, trivial⟩⟩
    | skip
  all_goals have e : k = s.size := by omega
  all_goals rw [e] at hc
  all_goals refine ret_pure ?_
  all_goals rw [idB_all hc]
  · rw [decide_eq_true (show 1 ≤ s.size by omega)]
    show _ = SV.bool (true && decide (s.size ≤ 16))
    rw [Bool.true_and]
    exact congrArg SV.bool (decide_eq_decide.2 (by omega))
  · rw [decide_eq_false (show ¬ 1 ≤ s.size by omega)]
    rfl
theorem r_amount (n : Int) : Pure Tryd.prog 54 [.int .i64 n] (.bool (amB n)) := by
  refine fc_of mixed T_ok Tryd.func54 rfl (by kernel_rfl) (by kernel_rfl) (by kernel_rfl) ?_
  repeat' ((conv => whnf); first | (refine br_dec (fun h => ?_) (fun h => ?_) <;> try (exfalso; omega)) | (refine br_ndec (fun h => ?_) (fun h => ?_) <;> try (exfalso; omega)) | refine br_seq (fun h => ?_) (fun h => ?_) | refine br_nseq (fun h => ?_) (fun h => ?_) | refine br_not (fun h => ?_) (fun h => ?_) | refine br_intro (fun h => ?_) (fun h => ?_) | refine cond_intro rfl ?_ | (refine cond_intro ⟨rfl, ?_⟩ ?_; (first | omega | (dsimp only; omega) | decide)) | (refine cond_intro ?_ ?_; (first | omega | (dsimp only; omega) | decide | (simp only [Nat.add_zero, Int.toNat_natCast, *]; omega))))
  all_goals (conv => whnf)
  · refine ret_pure (congrArg SV.bool ?_)
    by_cases hh : n ≤ 999999999999
    · rw [amB_iff.2 ⟨h, hh⟩]; exact decide_eq_true hh
    · rw [amB_no.2 (fun x => hh x.2)]; exact decide_eq_false hh
  · refine ret_pure (congrArg SV.bool ?_)
    rw [amB_no.2 (fun x => h x.1)]

def ixR (n : Nat) (I : List ByteArray) (id : ByteArray) : Int := if sidx I id < n then (sidx I id : Int) else -1
theorem r_index (cur : ByteArray) (b l : Int) (n : Nat) (I : List ByteArray) (V : List Int) (id : ByteArray) (hI : I.length = n) (hn : n ≤ 100000) : FC Tryd.prog 4 49 [.ptr 1 0 0 0, .str id] (rX true cur b l n I V) (isOut (.int .i64 (ixR n I id)) [] 4) := by
  refine fc_of mixed T_ok Tryd.func49 rfl (by kernel_rfl) (by kernel_rfl) (by kernel_rfl) ?_
  (conv => whnf)
  refine vloop_of (fun k : Nat => ⟨[(0, .ptr 1 0 0 0), (1, .str id), (5, .int .i64 k)], rX true cur b l n I V, 4⟩) (fun k => k ≤ n ∧ k ≤ sidx I id) (fun k => n - k) 0 [0, 1, 2, 3] [] ⟨rfl, ⟨rfl, rfl, rfl, trivial⟩, ⟨rfl, rfl, rfl, trivial⟩⟩ ⟨by omega, by omega⟩ ?_
  rintro k ⟨hk, hc⟩
  have nx : k < n → I.getD k ⟨#[]⟩ = id → sidx I id = k := by
    intro h1 h2
    rcases Nat.lt_or_ge k (sidx I id) with h3 | h3
    · exfalso
      have hk2 : k < I.length := by omega
      have : ∀ (l : List ByteArray) (i : Nat), i < sidx l id → l[i]? ≠ some id := by
        intro l
        induction l with
        | nil => intro i hi; simp [sidx] at hi
        | cons y l ih =>
          intro i hi
          simp only [sidx, seq] at hi
          by_cases e : y = id
          · rw [decide_eq_true e] at hi; simp at hi
          · rw [decide_eq_false e] at hi
            cases i with
            | zero => simpa using e
            | succ i => simp only [List.getElem?_cons_succ]; exact ih i (by simpa using hi)
      refine this I k h3 ?_
      rw [List.getElem?_eq_getElem hk2]
      rw [List.getD, List.getElem?_eq_getElem hk2] at h2
      exact congrArg some h2
    · omega
  have ny : k < n → I.getD k ⟨#[]⟩ ≠ id → k + 1 ≤ sidx I id := by
    intro h1 h2
    rcases Nat.lt_or_ge k (sidx I id) with h3 | h3
    · omega
    · exfalso
      have e : sidx I id = k := by omega
      have := sidx_get (l := I) (s := id) (by omega)
      rw [e] at this
      exact h2 (by rw [List.getD, this]; rfl)
  repeat' ((conv => whnf); first | (refine br_dec (fun h => ?_) (fun h => ?_) <;> try (exfalso; omega)) | (refine br_ndec (fun h => ?_) (fun h => ?_) <;> try (exfalso; omega)) | refine br_seq (fun h => ?_) (fun h => ?_) | refine br_nseq (fun h => ?_) (fun h => ?_) | refine br_not (fun h => ?_) (fun h => ?_) | refine br_intro (fun h => ?_) (fun h => ?_) | refine cond_intro rfl ?_ | (refine cond_intro ⟨rfl, ?_⟩ ?_; (first | omega | (dsimp only; omega) | decide)) | (refine cond_intro ?_ ?_; (first | omega | (dsimp only; omega) | decide | (simp only [Nat.add_zero, Int.toNat_natCast, *]; omega))))
  all_goals (conv => whnf)
  · have e : ixR n I id = (k : Int) := by
      have := nx (by omega) h
      unfold ixR; rw [this, if_pos (by omega)]
    rw [e]; exact ret_out (l := [0, 1, 2, 3]) rfl rfl trivial allRw_nil
  · exact ⟨k + 1, [0, 1, 2, 3], [], ⟨by omega, ny (by omega) h⟩, by omega, ⟨rfl, ⟨rfl, rfl, congrArg (fun z => some (SV.int .i64 z)) (i64_succ' (by omega)), trivial⟩, ⟨rfl, rfl, rfl, trivial⟩⟩⟩
  · have e : ixR n I id = -1 := by unfold ixR; rw [if_neg (by omega)]
    rw [e]; exact ret_out (l := [0, 1, 2, 3]) rfl rfl trivial allRw_nil

theorem r_Open (cur : ByteArray) (a : Acc) (ho : a.Ok) (id : ByteArray) : FC Tryd.prog 4 27 [.ptr 1 0 0 0, .str id] (rR cur a) (isOut (.tup [.int .i64 (a.get id), .bool (a.has id)]) [] 4) := by
  have hn := ho.n64
  have hk := ho.k
  have c := r_index cur a.bal a.lim a.n (sortS a.ks) a.am id (by rw [sortS_length, ho.k]) (by omega)
  by_cases hi : sidx a.ks id < a.n
  · have hi' := (sort_ix ho id).2 hi
    have e : ixR a.n (sortS a.ks) id = (sidx (sortS a.ks) id : Int) := by unfold ixR; rw [if_pos hi']
    rw [e] at c
    have h2 : a.has id = true := decide_eq_true hi
    rw [h2, ← am_get ho hi]
    generalize sidx (sortS a.ks) id = i at *
    refine fc_of mixed T_ok Tryd.func27 rfl (by kernel_rfl) (by kernel_rfl) (by kernel_rfl) ?_
    repeat' ((conv => whnf); first | (refine vcall_out (l :=  [0, 1, 2, 3]) (c ) ⟨rfl, rfl, rfl, rfl, (by (repeat' (first | exact trivial | exact GB_wf | constructor)); first | done | fail), (by (repeat' (first | exact trivial | exact GB_fits rfl | constructor)); first | done | fail)⟩ ?_) | (refine br_dec (fun h => ?_) (fun h => ?_) <;> try (exfalso; omega)) | (refine br_ndec (fun h => ?_) (fun h => ?_) <;> try (exfalso; omega)) | refine br_seq (fun h => ?_) (fun h => ?_) | refine br_nseq (fun h => ?_) (fun h => ?_) | refine br_not (fun h => ?_) (fun h => ?_) | refine br_intro (fun h => ?_) (fun h => ?_) | refine cond_intro rfl ?_ | (refine cond_intro ⟨rfl, ?_⟩ ?_; (first | omega | (dsimp only; omega) | decide)) | (refine cond_intro ?_ ?_; (first | omega | (dsimp only; omega) | decide | (simp only [Nat.add_zero, Int.toNat_natCast, *]; omega))))
    all_goals (conv => whnf)
    all_goals exact ret_out (l := [0, 1, 2, 3]) rfl rfl trivial allRw_nil
  · have hi' := fun x => hi ((sort_ix ho id).1 x)
    have e : ixR a.n (sortS a.ks) id = -1 := by unfold ixR; rw [if_neg hi']
    rw [e] at c
    have h2 : a.has id = false := decide_eq_false hi
    rw [h2, getD_sidx_none ho (fun hm => hi (by rw [← ho.k]; exact sidx_lt.2 hm))]
    refine fc_of mixed T_ok Tryd.func27 rfl (by kernel_rfl) (by kernel_rfl) (by kernel_rfl) ?_
    repeat' ((conv => whnf); first | (refine vcall_out (l :=  [0, 1, 2, 3]) (c ) ⟨rfl, rfl, rfl, rfl, (by (repeat' (first | exact trivial | exact GB_wf | constructor)); first | done | fail), (by (repeat' (first | exact trivial | exact GB_fits rfl | constructor)); first | done | fail)⟩ ?_) | (refine br_dec (fun h => ?_) (fun h => ?_) <;> try (exfalso; omega)) | (refine br_ndec (fun h => ?_) (fun h => ?_) <;> try (exfalso; omega)) | refine br_seq (fun h => ?_) (fun h => ?_) | refine br_nseq (fun h => ?_) (fun h => ?_) | refine br_not (fun h => ?_) (fun h => ?_) | refine br_intro (fun h => ?_) (fun h => ?_) | refine cond_intro rfl ?_ | (refine cond_intro ⟨rfl, ?_⟩ ?_; (first | omega | (dsimp only; omega) | decide)) | (refine cond_intro ?_ ?_; (first | omega | (dsimp only; omega) | decide | (simp only [Nat.add_zero, Int.toNat_natCast, *]; omega))))
    all_goals (conv => whnf)
    all_goals exact ret_out (l := [0, 1, 2, 3]) rfl rfl trivial allRw_nil
theorem r_Held (cur : ByteArray) (a : Acc) (ho : a.Ok) : FC Tryd.prog 4 29 [.ptr 1 0 0 0] (rR cur a) (isOut (.int .i64 a.held) [] 4) := by
  have hn := ho.n64
  have hl := am_length ho
  have hs : a.held = IntKind.i64.wrap (a.am.take a.n).sum := by rw [List.take_of_length_le (by omega), am_sum ho]; rfl
  rw [hs]
  dsimp only [rR]
  generalize a.am = V at *
  refine fc_of mixed T_ok Tryd.func29 rfl (by kernel_rfl) (by kernel_rfl) (by kernel_rfl) ?_
  (conv => whnf)
  refine vloop_of (fun k : Nat => ⟨[(0, .ptr 1 0 0 0), (3, .int .i64 (IntKind.i64.wrap (V.take k).sum)), (4, .int .i64 k)], rX true cur a.bal a.lim a.n (sortS a.ks) V, 4⟩) (fun k => k ≤ a.n) (fun k => a.n - k) 0 [0, 1, 2, 3] [] ⟨rfl, ⟨rfl, rfl, rfl, trivial⟩, ⟨rfl, rfl, rfl, trivial⟩⟩ (by omega) ?_
  intro k hk
  repeat' ((conv => whnf); first | (refine br_dec (fun h => ?_) (fun h => ?_) <;> try (exfalso; omega)) | (refine br_ndec (fun h => ?_) (fun h => ?_) <;> try (exfalso; omega)) | refine br_seq (fun h => ?_) (fun h => ?_) | refine br_nseq (fun h => ?_) (fun h => ?_) | refine br_not (fun h => ?_) (fun h => ?_) | refine br_intro (fun h => ?_) (fun h => ?_) | refine cond_intro rfl ?_ | (refine cond_intro ⟨rfl, ?_⟩ ?_; (first | omega | (dsimp only; omega) | decide)) | (refine cond_intro ?_ ?_; (first | omega | (dsimp only; omega) | decide | (simp only [Nat.add_zero, Int.toNat_natCast, *]; omega))))
  all_goals (conv => whnf)
  · refine ⟨k + 1, [0, 1, 2, 3], [], by omega, by omega, ⟨rfl, ⟨rfl, ?_, congrArg (fun z => some (SV.int .i64 z)) (i64_succ' (by omega)), trivial⟩, ⟨rfl, rfl, rfl, trivial⟩⟩⟩
    refine congrArg (fun z => some (SV.int .i64 z)) ?_
    have hk' : k < V.length := by omega
    show IntKind.i64.wrap (IntKind.i64.wrap (V.take k).sum + V.getD (k + 0) 0) = _
    rw [wrap_add, List.take_succ_eq_append_getElem hk', List.sum_append, Nat.add_zero]
    simp [List.getD, hk']
  · have e : k = a.n := by omega
    subst e
    exact ret_out (l := [0, 1, 2, 3]) rfl rfl trivial allRw_nil
attribute [local irreducible] Acc.held
theorem r_Balance (cur : ByteArray) (a : Acc) : FC Tryd.prog 4 28 [.ptr 1 0 0 0] (rR cur a) (isOut (.int .i64 a.bal) [] 4) := by
  refine fc_of mixed T_ok Tryd.func28 rfl (by kernel_rfl) (by kernel_rfl) (by kernel_rfl) ?_
  repeat' ((conv => whnf); first | (refine br_dec (fun h => ?_) (fun h => ?_) <;> try (exfalso; omega)) | (refine br_ndec (fun h => ?_) (fun h => ?_) <;> try (exfalso; omega)) | refine br_seq (fun h => ?_) (fun h => ?_) | refine br_nseq (fun h => ?_) (fun h => ?_) | refine br_not (fun h => ?_) (fun h => ?_) | refine br_intro (fun h => ?_) (fun h => ?_) | refine cond_intro rfl ?_ | (refine cond_intro ⟨rfl, ?_⟩ ?_; (first | omega | (dsimp only; omega) | decide)) | (refine cond_intro ?_ ?_; (first | omega | (dsimp only; omega) | decide | (simp only [Nat.add_zero, Int.toNat_natCast, *]; omega))))
  all_goals (conv => whnf)
  all_goals exact ret_out (l := [0, 1, 2, 3]) rfl rfl trivial allRw_nil
theorem r_Available (cur : ByteArray) (a : Acc) (ho : a.Ok) : FC Tryd.prog 4 30 [.ptr 1 0 0 0] (rR cur a) (isOut (.int .i64 a.avail) [] 4) := by
  have c := r_Held cur a ho
  refine fc_of mixed T_ok Tryd.func30 rfl (by kernel_rfl) (by kernel_rfl) (by kernel_rfl) ?_
  repeat' ((conv => whnf); first | (refine vcall_out (l :=  [0, 1, 2, 3]) (c ) ⟨rfl, rfl, rfl, rfl, (by (repeat' (first | exact trivial | exact GB_wf | constructor)); first | done | fail), (by (repeat' (first | exact trivial | exact GB_fits rfl | constructor)); first | done | fail)⟩ ?_) | (refine vcallD_out (l :=  [0, 1, 2, 3]) (c ) ⟨rfl, rfl, rfl, rfl, (by (repeat' (first | exact trivial | exact GB_wf | constructor)); first | done | fail), (by (repeat' (first | exact trivial | exact GB_fits rfl | constructor)); first | done | fail)⟩ ?_) | (refine br_dec (fun h => ?_) (fun h => ?_) <;> try (exfalso; omega)) | (refine br_ndec (fun h => ?_) (fun h => ?_) <;> try (exfalso; omega)) | refine br_seq (fun h => ?_) (fun h => ?_) | refine br_nseq (fun h => ?_) (fun h => ?_) | refine br_not (fun h => ?_) (fun h => ?_) | refine br_intro (fun h => ?_) (fun h => ?_) | refine cond_intro rfl ?_ | (refine cond_intro ⟨rfl, ?_⟩ ?_; (first | omega | (dsimp only; omega) | decide)) | (refine cond_intro ?_ ?_; (first | omega | (dsimp only; omega) | decide | (simp only [Nat.add_zero, Int.toNat_natCast, *]; omega))))
  all_goals (conv => whnf)
  all_goals exact ret_out (l := [0, 1, 2, 3]) rfl rfl trivial allRw_nil
theorem r_Holds (cur : ByteArray) (a : Acc) (ho : a.Ok) : FC Tryd.prog 4 31 [.ptr 1 0 0 0] (rR cur a) (isOut (.sl 4 0 0 a.n) [(4, some (.one false (.cols a.n [.sc (.strs (sortS a.ks))])))] 5) := by
  have hn := ho.n64
  have hl : (sortS a.ks).length = a.n := by rw [sortS_length, ho.k]
  have e1 : ([] : List ByteArray) ++ seg 0 a.n (sortS a.ks) = sortS a.ks := by
    unfold seg; rw [List.drop_zero, List.take_of_length_le (by omega)]; rfl
  refine fc_of mixed T_ok Tryd.func31 rfl (by kernel_rfl) (by kernel_rfl) (by kernel_rfl) ?_
  repeat' ((conv => whnf); first | (refine br_dec (fun h => ?_) (fun h => ?_) <;> try (exfalso; omega)) | (refine br_ndec (fun h => ?_) (fun h => ?_) <;> try (exfalso; omega)) | refine br_seq (fun h => ?_) (fun h => ?_) | refine br_nseq (fun h => ?_) (fun h => ?_) | refine br_not (fun h => ?_) (fun h => ?_) | refine br_intro (fun h => ?_) (fun h => ?_) | refine cond_intro rfl ?_ | (refine cond_intro ⟨rfl, ?_⟩ ?_; (first | omega | (dsimp only; omega) | decide)) | (refine cond_intro ?_ ?_; (first | omega | (dsimp only; omega) | decide | (simp only [Nat.add_zero, Int.toNat_natCast, *]; omega))))
  all_goals (conv => whnf)
  refine ret_out (l := [0, 1, 2, 3, 5]) rfl ?_ ⟨?_, trivial⟩ (allRw_cons allRw_nil)
  · show SV.sl 5 0 0 (0 + a.n) = SV.sl 5 0 0 a.n
    rw [Nat.zero_add]
  · show some (HB.one false (Blk.cols (0 + a.n) [BCol.sc (Col.strs ([] ++ seg 0 a.n (sortS a.ks)))])) = some (HB.one false (Blk.cols a.n [BCol.sc (Col.strs (sortS a.ks))]))
    rw [Nat.zero_add, e1]

structure PS where
  i : Nat
  c : Nat
  A : List ByteArray
  V : List Int
  d : Bool
theorem pI_cons (id x : ByteArray) (d : Bool) (r : List ByteArray) : pI id d (x :: r) = (if d = false ∧ strLt id x = true then [id] else []) ++ ((if x = id then [] else [x]) ++ pI id (d || strLt id x) r) := rfl
theorem pV_cons (id x : ByteArray) (m : Int) (d : Bool) (r : List ByteArray) (v : Int) (w : List Int) : pV id m d (x :: r) (v :: w) = (if d = false ∧ strLt id x = true then [m] else []) ++ ((if x = id then [] else [v]) ++ pV id m (d || strLt id x) r w) := rfl
theorem pV_nil (id : ByteArray) (m : Int) (d : Bool) (w : List Int) : pV id m d [] w = if d = true then [] else [m] := by cases d <;> rfl
theorem drop_getD {α : Type} {l : List α} {i : Nat} (h : i < l.length) (d : α) : l.drop i = l.getD i d :: l.drop (i + 1) := by
  rw [List.drop_eq_getElem_cons h]; simp [List.getD, h]

theorem r_put0 (cur : ByteArray) (b l : Int) (n : Nat) (I : List ByteArray) (V : List Int) (id : ByteArray) (m : Int) (hI : I.length = n) (hV : V.length = n) (hn : n ≤ 1000) (TI : List ByteArray) (TV : List Int) (n' : Nat) (hTI : pI id (decide (m = 0)) I = TI) (hTV : pV id m (decide (m = 0)) I V = TV) (hn' : TI.length = n') :
    FC Tryd.prog 4 56 [.ptr 1 0 0 0, .str id, .int .i64 m] (rX false cur b l n I V) (isOut (.tup []) (rY cur b l n' TI TV) 6) := by
  refine fc_of mixed T_ok Tryd.func56 rfl (by kernel_rfl) (by kernel_rfl) (by kernel_rfl) ?_
  (conv => whnf)
  refine vloop_of (fun s : PS => ⟨[(0, .ptr 1 0 0 0), (1, .str id), (2, .int .i64 m), (6, .sl 4 0 0 s.c), (7, .sl 5 0 0 s.c), (8, .bool s.d), (9, .int .i64 s.i)], (4, some (.one false (.cols s.c [.sc (.strs s.A)]))) :: (5, some (.one false (.cols s.c [.sc (.ints .i64 s.V)]))) :: rX false cur b l n I V, 6⟩) (fun s => s.i ≤ n ∧ s.c ≤ s.i + (bif s.d then 1 else 0) ∧ s.A.length = s.c ∧ s.A ++ pI id s.d (I.drop s.i) = TI ∧ s.V ++ pV id m s.d (I.drop s.i) (V.drop s.i) = TV) (fun s => n - s.i) ⟨0, 0, [], [], decide (m = 0)⟩ [0, 1, 2, 3, 4, 5] [.slot 6 [.sc (.strs [])], .slot 7 [.sc (.ints .i64 [])]] ⟨rfl, ⟨rfl, rfl, rfl, rfl, rfl, rfl, rfl, trivial⟩, ⟨rfl, rfl, rfl, rfl, rfl, trivial⟩⟩ ⟨by dsimp only; omega, Nat.zero_le _, rfl, hTI, hTV⟩ ?_
  rintro ⟨i, c, A, W, d⟩ ⟨hi, hc, hA, h1, h2⟩
  dsimp only at hi hc hA h1 h2 ⊢
  by_cases hin : i < n
  · have x1 := drop_getD (l := I) (i := i) (by omega) ⟨#[]⟩
    have x2 := drop_getD (l := V) (i := i) (by omega) 0
    rw [x1, pI_cons] at h1
    rw [x1, x2, pV_cons] at h2
    cases d
    · simp only [cond_false, Nat.add_zero] at hc
      repeat' ((conv => whnf); first | (refine br_dec (fun h => ?_) (fun h => ?_) <;> try (exfalso; omega)) | (refine br_ndec (fun h => ?_) (fun h => ?_) <;> try (exfalso; omega)) | refine br_seq (fun h => ?_) (fun h => ?_) | refine br_nseq (fun h => ?_) (fun h => ?_) | refine br_not (fun h => ?_) (fun h => ?_) | refine br_intro (fun h => ?_) (fun h => ?_) | refine cond_intro rfl ?_ | (refine cond_intro ⟨rfl, ?_⟩ ?_; (first | omega | (dsimp only; omega) | decide)) | (refine cond_intro ?_ ?_; (first | omega | (dsimp only; omega) | decide | (simp only [Nat.add_zero, Int.toNat_natCast, *]; omega))))
      all_goals (conv => whnf)
      · rename_i q1 q2
        have e1 : strLt id (I.getD i ⟨#[]⟩) = true := q2
        have e2 : ¬ I.getD i ⟨#[]⟩ = id := h
        refine ⟨⟨i + 1, c + 1 + 1, (A ++ [id]) ++ [I.getD i ⟨#[]⟩], (W ++ [m]) ++ [V.getD i 0], true⟩, [0, 1, 2, 3, 11, 13], [], ⟨by dsimp only; omega, by simp only [cond_true, cond_false]; omega, by simp [hA], ?_, ?_⟩, by dsimp only; omega, ⟨rfl, ⟨rfl, rfl, rfl, rfl, rfl, rfl, congrArg (fun z => some (SV.int .i64 z)) (i64_succ' (by omega)), trivial⟩, ⟨rfl, rfl, rfl, rfl, rfl, trivial⟩⟩⟩
        · dsimp only; rw [← h1, if_neg e2, e1]; simp
        · dsimp only; rw [← h2, if_neg e2, e1]; simp
      · rename_i q1 q2
        have e1 : strLt id (I.getD i ⟨#[]⟩) = true := q2
        have e2 : I.getD i ⟨#[]⟩ = id := h
        refine ⟨⟨i + 1, c + 1, A ++ [id], W ++ [m], true⟩, [0, 1, 2, 3, 7, 9], [], ⟨by dsimp only; omega, by simp only [cond_true, cond_false]; omega, by simp [hA], ?_, ?_⟩, by dsimp only; omega, ⟨rfl, ⟨rfl, rfl, rfl, rfl, rfl, rfl, congrArg (fun z => some (SV.int .i64 z)) (i64_succ' (by omega)), trivial⟩, ⟨rfl, rfl, rfl, rfl, rfl, trivial⟩⟩⟩
        · dsimp only; rw [← h1, if_pos e2, e1]; simp
        · dsimp only; rw [← h2, if_pos e2, e1]; simp
      · rename_i q1 q2
        have e1 : strLt id (I.getD i ⟨#[]⟩) = false := q2
        have e2 : ¬ I.getD i ⟨#[]⟩ = id := h
        refine ⟨⟨i + 1, c + 1, A ++ [I.getD i ⟨#[]⟩], W ++ [V.getD i 0], false⟩, [0, 1, 2, 3, 7, 9], [], ⟨by dsimp only; omega, by simp only [cond_true, cond_false]; omega, by simp [hA], ?_, ?_⟩, by dsimp only; omega, ⟨rfl, ⟨rfl, rfl, rfl, rfl, rfl, rfl, congrArg (fun z => some (SV.int .i64 z)) (i64_succ' (by omega)), trivial⟩, ⟨rfl, rfl, rfl, rfl, rfl, trivial⟩⟩⟩
        · dsimp only; rw [← h1, if_neg e2, e1]; simp
        · dsimp only; rw [← h2, if_neg e2, e1]; simp
      · rename_i q1 q2
        have e1 : strLt id (I.getD i ⟨#[]⟩) = false := q2
        have e2 : I.getD i ⟨#[]⟩ = id := h
        refine ⟨⟨i + 1, c, A, W, false⟩, [0, 1, 2, 3, 4, 5], [], ⟨by dsimp only; omega, by simp only [cond_true, cond_false]; omega, by simp [hA], ?_, ?_⟩, by dsimp only; omega, ⟨rfl, ⟨rfl, rfl, rfl, rfl, rfl, rfl, congrArg (fun z => some (SV.int .i64 z)) (i64_succ' (by omega)), trivial⟩, ⟨rfl, rfl, rfl, rfl, rfl, trivial⟩⟩⟩
        · dsimp only; rw [← h1, if_pos e2, e1]; simp
        · dsimp only; rw [← h2, if_pos e2, e1]; simp
    · simp only [cond_true] at hc
      repeat' ((conv => whnf); first | (refine br_dec (fun h => ?_) (fun h => ?_) <;> try (exfalso; omega)) | (refine br_ndec (fun h => ?_) (fun h => ?_) <;> try (exfalso; omega)) | refine br_seq (fun h => ?_) (fun h => ?_) | refine br_nseq (fun h => ?_) (fun h => ?_) | refine br_not (fun h => ?_) (fun h => ?_) | refine br_intro (fun h => ?_) (fun h => ?_) | refine cond_intro rfl ?_ | (refine cond_intro ⟨rfl, ?_⟩ ?_; (first | omega | (dsimp only; omega) | decide)) | (refine cond_intro ?_ ?_; (first | omega | (dsimp only; omega) | decide | (simp only [Nat.add_zero, Int.toNat_natCast, *]; omega))))
      all_goals (conv => whnf)
      · skip
        have e2 : ¬ I.getD i ⟨#[]⟩ = id := h
        refine ⟨⟨i + 1, c + 1, A ++ [I.getD i ⟨#[]⟩], W ++ [V.getD i 0], true⟩, [0, 1, 2, 3, 7, 9], [], ⟨by dsimp only; omega, by simp only [cond_true, cond_false]; omega, by simp [hA], ?_, ?_⟩, by dsimp only; omega, ⟨rfl, ⟨rfl, rfl, rfl, rfl, rfl, rfl, congrArg (fun z => some (SV.int .i64 z)) (i64_succ' (by omega)), trivial⟩, ⟨rfl, rfl, rfl, rfl, rfl, trivial⟩⟩⟩
        · dsimp only; rw [← h1, if_neg e2]; simp
        · dsimp only; rw [← h2, if_neg e2]; simp
      · skip
        have e2 : I.getD i ⟨#[]⟩ = id := h
        refine ⟨⟨i + 1, c, A, W, true⟩, [0, 1, 2, 3, 4, 5], [], ⟨by dsimp only; omega, by simp only [cond_true, cond_false]; omega, by simp [hA], ?_, ?_⟩, by dsimp only; omega, ⟨rfl, ⟨rfl, rfl, rfl, rfl, rfl, rfl, congrArg (fun z => some (SV.int .i64 z)) (i64_succ' (by omega)), trivial⟩, ⟨rfl, rfl, rfl, rfl, rfl, trivial⟩⟩⟩
        · dsimp only; rw [← h1, if_pos e2]; simp
        · dsimp only; rw [← h2, if_pos e2]; simp
  · obtain rfl : i = n := by omega
    rw [List.drop_of_length_le (by omega)] at h1 h2
    rw [pV_nil] at h2
    cases d
    · simp only [cond_false, Nat.add_zero] at hc
      repeat' ((conv => whnf); first | (refine br_dec (fun h => ?_) (fun h => ?_) <;> try (exfalso; omega)) | (refine br_ndec (fun h => ?_) (fun h => ?_) <;> try (exfalso; omega)) | refine br_seq (fun h => ?_) (fun h => ?_) | refine br_nseq (fun h => ?_) (fun h => ?_) | refine br_not (fun h => ?_) (fun h => ?_) | refine br_intro (fun h => ?_) (fun h => ?_) | refine cond_intro rfl ?_ | (refine cond_intro ⟨rfl, ?_⟩ ?_; (first | omega | (dsimp only; omega) | decide)) | (refine cond_intro ?_ ?_; (first | omega | (dsimp only; omega) | decide | (simp only [Nat.add_zero, Int.toNat_natCast, *]; omega))))
      all_goals (conv => whnf)
      obtain rfl : TI = A ++ [id] := h1.symm
      obtain rfl : TV = W ++ [m] := h2.symm
      obtain rfl : n' = c + 1 := by rw [← hn', List.length_append, hA]; rfl
      exact ret_out (l := [0, 1, 2, 3, 7, 9]) rfl rfl ⟨rfl, rfl, rfl, trivial⟩ (rwO _ _ _ _ _ _)
    · simp only [cond_true] at hc
      repeat' ((conv => whnf); first | (refine br_dec (fun h => ?_) (fun h => ?_) <;> try (exfalso; omega)) | (refine br_ndec (fun h => ?_) (fun h => ?_) <;> try (exfalso; omega)) | refine br_seq (fun h => ?_) (fun h => ?_) | refine br_nseq (fun h => ?_) (fun h => ?_) | refine br_not (fun h => ?_) (fun h => ?_) | refine br_intro (fun h => ?_) (fun h => ?_) | refine cond_intro rfl ?_ | (refine cond_intro ⟨rfl, ?_⟩ ?_; (first | omega | (dsimp only; omega) | decide)) | (refine cond_intro ?_ ?_; (first | omega | (dsimp only; omega) | decide | (simp only [Nat.add_zero, Int.toNat_natCast, *]; omega))))
      all_goals (conv => whnf)
      obtain rfl : TI = A := by rw [← h1]; simp [pI]
      obtain rfl : TV = W := by rw [← h2]; simp
      obtain rfl : n' = c := by rw [← hn', hA]
      exact ret_out (l := [0, 1, 2, 3, 4, 5]) rfl rfl ⟨rfl, rfl, rfl, trivial⟩ (rwO _ _ _ _ _ _)

theorem r_put (cur : ByteArray) (a : Acc) (ho : a.Ok) (id : ByteArray) (m : Int) : FC Tryd.prog 4 56 [.ptr 1 0 0 0, .str id, .int .i64 m] (rH cur a) (isOut (.tup []) (rO cur (a.set id m)) 6) := by
  have hn := ho.n64
  obtain ⟨hb, hl⟩ := set_bal a id m
  have h := r_put0 cur a.bal a.lim a.n (sortS a.ks) a.am id m (by rw [sortS_length, ho.k]) (am_length ho) (by omega) _ _ (a.set id m).n (sort_set ho) (am_set ho) (by rw [sortS_length, set_n ho])
  have e : rO cur (a.set id m) = rY cur a.bal a.lim (a.set id m).n (sortS (a.set id m).ks) (a.set id m).am := by rw [← hb, ← hl]
  rw [e]
  exact h
theorem ro {cur : ByteArray} {a : Acc} {r r0 : SV} {vs : VS} {p q : Nat} (hr : r = r0) (hh : weakHeap (rho [0, 1, 2, 3, p, q] vs.next) (rO cur a) vs.heap) (hi : (allLt [0, 1, 2, 3, p, q] vs.next && injH (rho [0, 1, 2, 3, p, q] vs.next) (rO cur a) (rO cur a)) = true) (hr0 : SV.ren (rho [0, 1, 2, 3, p, q] vs.next) r0 = r0 := by rfl) : retP 4 (isOut r0 (rO cur a) 6) r vs := by
  subst hr
  refine ret_out (l := [0, 1, 2, 3, p, q]) ?_ hr0.symm hh (rwO _ _ _ _ _ _)
  rw [Bool.and_eq_true] at hi
  rw [hi.1, hi.2]
  rfl
attribute [local irreducible] Acc.avail Acc.set Acc.am
def Acc.frE (a : Acc) (id : ByteArray) : Int := a.newE id
theorem r_fresh (cur : ByteArray) (a : Acc) (ho : a.Ok) (id : ByteArray) (hs : id.size ≤ 9223372036854775807) : FC Tryd.prog 4 55 [.ptr 1 0 0 0, .str id] (rR cur a) (isOut (.int .i64 (a.newE id)) [] 4) := by
  have hn := ho.n64
  have ci := r_isId id hs
  have c := r_index cur a.bal a.lim a.n (sortS a.ks) a.am id (by rw [sortS_length, ho.k]) (by omega)
  have hx := sort_ix ho id
  have hix : (0 ≤ ixR a.n (sortS a.ks) id) ↔ sidx a.ks id < a.n := by
    unfold ixR
    split
    · rename_i h; exact ⟨fun _ => hx.1 h, fun _ => by omega⟩
    · rename_i h; exact ⟨fun x => by omega, fun x => absurd (hx.2 x) h⟩
  generalize ixR a.n (sortS a.ks) id = ix at *
  refine fc_of mixed T_ok Tryd.func55 rfl (by kernel_rfl) (by kernel_rfl) (by kernel_rfl) ?_
  repeat' ((conv => whnf); first | (refine vcall_pure (ci) rfl rfl rfl ?_) | (refine vcallD_pure (ci) rfl rfl rfl ?_) | (refine vcall_out (l :=  [0, 1, 2, 3]) (c ) ⟨rfl, rfl, rfl, rfl, (by (repeat' (first | exact trivial | exact GB_wf | constructor)); first | done | fail), (by (repeat' (first | exact trivial | exact GB_fits rfl | constructor)); first | done | fail)⟩ ?_) | (refine br_dec (fun h => ?_) (fun h => ?_) <;> try (exfalso; omega)) | (refine br_ndec (fun h => ?_) (fun h => ?_) <;> try (exfalso; omega)) | refine br_seq (fun h => ?_) (fun h => ?_) | refine br_nseq (fun h => ?_) (fun h => ?_) | refine br_not (fun h => ?_) (fun h => ?_) | refine br_intro (fun h => ?_) (fun h => ?_) | refine cond_intro rfl ?_ | (refine cond_intro ⟨rfl, ?_⟩ ?_; (first | omega | (dsimp only; omega) | decide)) | (refine cond_intro ?_ ?_; (first | omega | (dsimp only; omega) | decide | (simp only [Nat.add_zero, Int.toNat_natCast, *]; omega))))
  all_goals (conv => whnf)
  · have e : a.newE id = 5 := by unfold Acc.newE; rw [if_pos h]
    rw [e]; exact ret_out (l := [0, 1, 2, 3]) rfl rfl trivial allRw_nil
  · have e : a.newE id = 7 := by unfold Acc.newE; rw [if_neg (bnf (by assumption)), if_pos (by omega)]
    rw [e]; exact ret_out (l := [0, 1, 2, 3]) rfl rfl trivial allRw_nil
  · have e : a.newE id = 12 := by unfold Acc.newE; rw [if_neg (bnf (by assumption)), if_neg (by omega), if_pos (by omega)]
    rw [e]; exact ret_out (l := [0, 1, 2, 3]) rfl rfl trivial allRw_nil
  · have e : a.newE id = 0 := by unfold Acc.newE; rw [if_neg (bnf (by assumption)), if_neg (by omega), if_neg (by omega)]
    rw [e]; exact ret_out (l := [0, 1, 2, 3]) rfl rfl trivial allRw_nil

theorem r_HoldUpTo (cur : ByteArray) (a : Acc) (ho : a.Ok) (id : ByteArray) (n l : Int) (hs : id.size ≤ 9223372036854775807) : FC Tryd.prog 4 43 [.ptr 1 0 0 0, .str id, .int .i64 n, .int .i64 l] (rH cur a) (isOut (.tup [.int .i64 (a.upV id n l), .int .i64 (a.upE id n l)]) (rO cur (a.upA id n l)) 6) := by
  have c1 := r_fresh cur a ho id hs
  have c2 := r_Available cur a ho
  have c3 := r_put cur a ho id (min n a.avail)
  have am := r_amount n
  have L : ∀ e, a.upE id n l = e → e ≠ 0 → a.upV id n l = 0 ∧ a.upA id n l = a := by
    intro e h1 h2
    unfold Acc.upV Acc.upA
    rw [h1, if_neg h2, if_neg h2]
    exact ⟨rfl, rfl⟩
  refine fc_of mixed T_ok Tryd.func43 rfl (by kernel_rfl) (by kernel_rfl) (by kernel_rfl) ?_
  repeat' ((conv => whnf); first | (refine vcall_pure (am) rfl rfl rfl ?_) | (refine vcallD_pure (am) rfl rfl rfl ?_) | (refine vcall_out (l :=  [0, 1, 2, 3]) (c1 ) ⟨rfl, rfl, rfl, rfl, (by (repeat' (first | exact trivial | exact GB_wf | constructor)); first | done | fail), (by (repeat' (first | exact trivial | exact GB_fits rfl | constructor)); first | done | fail)⟩ ?_) | (refine vcall_out (l :=  [0, 1, 2, 3]) (c2 ) ⟨rfl, rfl, rfl, rfl, (by (repeat' (first | exact trivial | exact GB_wf | constructor)); first | done | fail), (by (repeat' (first | exact trivial | exact GB_fits rfl | constructor)); first | done | fail)⟩ ?_) | (refine vcall_out (l :=  [0, 1, 2, 3]) (c3 ) ⟨rfl, rfl, rfl, rfl, (by (repeat' (first | exact trivial | exact GB_wf | constructor)); first | done | fail), (by (repeat' (first | exact trivial | exact GB_fits rfl | constructor)); first | done | fail)⟩ ?_) | (refine br_dec (fun h => ?_) (fun h => ?_) <;> try (exfalso; omega)) | (refine br_ndec (fun h => ?_) (fun h => ?_) <;> try (exfalso; omega)) | refine br_seq (fun h => ?_) (fun h => ?_) | refine br_nseq (fun h => ?_) (fun h => ?_) | refine br_not (fun h => ?_) (fun h => ?_) | refine br_intro (fun h => ?_) (fun h => ?_) | refine cond_intro rfl ?_ | (refine cond_intro ⟨rfl, ?_⟩ ?_; (first | omega | (dsimp only; omega) | decide)) | (refine cond_intro ?_ ?_; (first | omega | (dsimp only; omega) | decide | (simp only [Nat.add_zero, Int.toNat_natCast, *]; omega))))
  all_goals (conv => whnf)
  all_goals (try rw [amB_no] at *)
  all_goals (try rw [amB_iff] at *)
  · have e : a.upE id n l = 4 := by unfold Acc.upE; (repeat (first | rw [if_pos (by omega)] | rw [if_neg (by omega)] | rw [if_pos (by assumption)] | rw [if_neg (by assumption)] | rw [if_neg (bnf (by assumption))]))
    obtain ⟨e1, e2⟩ := L _ e (by decide)
    rw [e1, e2, e]; exact ro (p := 2) (q := 3) rfl ⟨rfl, rfl, rfl, trivial⟩ rfl
  · have e : a.upE id n l = 4 := by unfold Acc.upE; (repeat (first | rw [if_pos (by omega)] | rw [if_neg (by omega)] | rw [if_pos (by assumption)] | rw [if_neg (by assumption)] | rw [if_neg (bnf (by assumption))]))
    obtain ⟨e1, e2⟩ := L _ e (by decide)
    rw [e1, e2, e]; exact ro (p := 2) (q := 3) rfl ⟨rfl, rfl, rfl, trivial⟩ rfl
  · have e : a.upE id n l = 4 := by unfold Acc.upE; (repeat (first | rw [if_pos (by omega)] | rw [if_neg (by omega)] | rw [if_pos (by assumption)] | rw [if_neg (by assumption)] | rw [if_neg (bnf (by assumption))]))
    obtain ⟨e1, e2⟩ := L _ e (by decide)
    rw [e1, e2, e]; exact ro (p := 2) (q := 3) rfl ⟨rfl, rfl, rfl, trivial⟩ rfl
  · have e : a.upE id n l = a.newE id := by unfold Acc.upE; (repeat (first | rw [if_pos (by omega)] | rw [if_neg (by omega)] | rw [if_pos (by assumption)] | rw [if_neg (by assumption)] | rw [if_neg (bnf (by assumption))]))
    obtain ⟨e1, e2⟩ := L _ e (by assumption)
    rw [e1, e2, e]; exact ro (p := 2) (q := 3) rfl ⟨rfl, rfl, rfl, trivial⟩ rfl
  · have e : a.upE id n l = 16 := by unfold Acc.upE; (repeat (first | rw [if_pos (by omega)] | rw [if_neg (by omega)] | rw [if_pos (by assumption)] | rw [if_neg (by assumption)] | rw [if_neg (bnf (by assumption))]))
    obtain ⟨e1, e2⟩ := L _ e (by decide)
    rw [e1, e2, e]; exact ro (p := 2) (q := 3) rfl ⟨rfl, rfl, rfl, trivial⟩ rfl
  · have e : a.upE id n l = 0 := by unfold Acc.upE; (repeat (first | rw [if_pos (by omega)] | rw [if_neg (by omega)] | rw [if_pos (by assumption)] | rw [if_neg (by assumption)] | rw [if_neg (bnf (by assumption))]))
    have e1 : a.upV id n l = min n a.avail := by unfold Acc.upV; rw [if_pos e]
    have e2 : a.upA id n l = a.set id (min n a.avail) := by unfold Acc.upA; rw [if_pos e]
    rw [e1, e2, e]; exact ro (p := 4) (q := 5) rfl ⟨rfl, rfl, rfl, trivial⟩ rfl
attribute [local irreducible] Acc.upE Acc.upV Acc.upA
theorem r_Hold (cur : ByteArray) (a : Acc) (ho : a.Ok) (id : ByteArray) (n : Int) (hs : id.size ≤ 9223372036854775807) : FC Tryd.prog 4 42 [.ptr 1 0 0 0, .str id, .int .i64 n] (rH cur a) (isOut (.int .i64 (a.upE id n n)) (rO cur (a.upA id n n)) 6) := by
  have c1 := r_HoldUpTo cur a ho id n n hs
  have am := r_amount n
  refine fc_of mixed T_ok Tryd.func42 rfl (by kernel_rfl) (by kernel_rfl) (by kernel_rfl) ?_
  repeat' ((conv => whnf); first | (refine vcall_pure (am) rfl rfl rfl ?_) | (refine vcallD_pure (am) rfl rfl rfl ?_) | (refine vcall_out (l :=  [0, 1, 2, 3]) (c1 ) ⟨rfl, rfl, rfl, rfl, (by (repeat' (first | exact trivial | exact GB_wf | constructor)); first | done | fail), (by (repeat' (first | exact trivial | exact GB_fits rfl | constructor)); first | done | fail)⟩ ?_) | (refine br_dec (fun h => ?_) (fun h => ?_) <;> try (exfalso; omega)) | (refine br_ndec (fun h => ?_) (fun h => ?_) <;> try (exfalso; omega)) | refine br_seq (fun h => ?_) (fun h => ?_) | refine br_nseq (fun h => ?_) (fun h => ?_) | refine br_not (fun h => ?_) (fun h => ?_) | refine br_intro (fun h => ?_) (fun h => ?_) | refine cond_intro rfl ?_ | (refine cond_intro ⟨rfl, ?_⟩ ?_; (first | omega | (dsimp only; omega) | decide)) | (refine cond_intro ?_ ?_; (first | omega | (dsimp only; omega) | decide | (simp only [Nat.add_zero, Int.toNat_natCast, *]; omega))))
  all_goals (conv => whnf)
  · rw [amB_no] at h
    have e : a.upE id n n = 4 := by unfold Acc.upE; (repeat (first | rw [if_pos (by omega)] | rw [if_neg (by omega)] | rw [if_pos (by assumption)] | rw [if_neg (by assumption)] | rw [if_neg (bnf (by assumption))]))
    have e2 : a.upA id n n = a := by unfold Acc.upA; rw [e, if_neg (by decide)]
    rw [e2, e]; exact ro (p := 2) (q := 3) rfl ⟨rfl, rfl, rfl, trivial⟩ rfl
  · exact ro (p := 4) (q := 5) rfl ⟨rfl, rfl, rfl, trivial⟩ rfl
theorem r_Force (cur : ByteArray) (a : Acc) (ho : a.Ok) (id : ByteArray) (n : Int) (hs : id.size ≤ 9223372036854775807) : FC Tryd.prog 4 44 [.ptr 1 0 0 0, .str id, .int .i64 n] (rH cur a) (isOut (.int .i64 (a.foE id n)) (rO cur (a.foA id n)) 6) := by
  have co := r_Open cur a ho id
  have hget : a.get id = a.vs.getD (sidx a.ks id) 0 := rfl
  have c1 := r_isId id hs
  have c3 := r_put cur a ho id (IntKind.i64.wrap (a.get id + n))
  have am := r_amount n
  have L : ∀ e, a.foE id n = e → e ≠ 0 → a.foA id n = a := by
    intro e h1 h2
    unfold Acc.foA
    rw [h1, if_neg h2]
  by_cases hi : sidx a.ks id < a.n
  · rw [show a.has id = true from decide_eq_true hi] at co
    refine fc_of mixed T_ok Tryd.func44 rfl (by kernel_rfl) (by kernel_rfl) (by kernel_rfl) ?_
    repeat' ((conv => whnf); first | (refine vcall_pure (am) rfl rfl rfl ?_) | (refine vcallD_pure (am) rfl rfl rfl ?_) | (refine vcall_pure (c1) rfl rfl rfl ?_) | (refine vcallD_pure (c1) rfl rfl rfl ?_) | (refine vcall_out (l :=  [0, 1, 2, 3]) (co ) ⟨rfl, rfl, rfl, rfl, (by (repeat' (first | exact trivial | exact GB_wf | constructor)); first | done | fail), (by (repeat' (first | exact trivial | exact GB_fits rfl | constructor)); first | done | fail)⟩ ?_) | (refine vcall_out (l :=  [0, 1, 2, 3]) (c3 ) ⟨rfl, rfl, rfl, rfl, (by (repeat' (first | exact trivial | exact GB_wf | constructor)); first | done | fail), (by (repeat' (first | exact trivial | exact GB_fits rfl | constructor)); first | done | fail)⟩ ?_) | (refine br_dec (fun h => ?_) (fun h => ?_) <;> try (exfalso; omega)) | (refine br_ndec (fun h => ?_) (fun h => ?_) <;> try (exfalso; omega)) | refine br_seq (fun h => ?_) (fun h => ?_) | refine br_nseq (fun h => ?_) (fun h => ?_) | refine br_not (fun h => ?_) (fun h => ?_) | refine br_intro (fun h => ?_) (fun h => ?_) | refine cond_intro rfl ?_ | (refine cond_intro ⟨rfl, ?_⟩ ?_; (first | omega | (dsimp only; omega) | decide)) | (refine cond_intro ?_ ?_; (first | omega | (dsimp only; omega) | decide | (simp only [Nat.add_zero, Int.toNat_natCast, *]; omega))))
    all_goals (conv => whnf)
    all_goals (try rw [amB_no] at *)
    all_goals (try rw [amB_iff] at *)
    · have e : a.foE id n = 4 := by unfold Acc.foE; (repeat (first | rw [if_pos (by omega)] | rw [if_neg (by omega)] | rw [if_pos (by assumption)] | rw [if_neg (by assumption)] | rw [if_neg (bnf (by assumption))]))
      rw [L _ e (by decide), e]; exact ro (p := 2) (q := 3) rfl ⟨rfl, rfl, rfl, trivial⟩ rfl
    · have e : a.foE id n = 5 := by unfold Acc.foE; (repeat (first | rw [if_pos (by omega)] | rw [if_neg (by omega)] | rw [if_pos (by assumption)] | rw [if_neg (by assumption)] | rw [if_neg (bnf (by assumption))]))
      rw [L _ e (by decide), e]; exact ro (p := 2) (q := 3) rfl ⟨rfl, rfl, rfl, trivial⟩ rfl
    · have e : a.foE id n = 4 := by unfold Acc.foE; (repeat (first | rw [if_pos (by omega)] | rw [if_neg (by omega)] | rw [if_pos (by assumption)] | rw [if_neg (by assumption)] | rw [if_neg (bnf (by assumption))]))
      rw [L _ e (by decide), e]; exact ro (p := 2) (q := 3) rfl ⟨rfl, rfl, rfl, trivial⟩ rfl
    · have e : a.foE id n = 0 := by unfold Acc.foE; (repeat (first | rw [if_pos (by omega)] | rw [if_neg (by omega)] | rw [if_pos (by assumption)] | rw [if_neg (by assumption)] | rw [if_neg (bnf (by assumption))]))
      have e2 : a.foA id n = a.set id (IntKind.i64.wrap (a.get id + n)) := by unfold Acc.foA; rw [if_pos e]
      rw [e2, e]; exact ro (p := 4) (q := 5) rfl ⟨rfl, rfl, rfl, trivial⟩ rfl
  · rw [show a.has id = false from decide_eq_false hi] at co
    refine fc_of mixed T_ok Tryd.func44 rfl (by kernel_rfl) (by kernel_rfl) (by kernel_rfl) ?_
    repeat' ((conv => whnf); first | (refine vcall_pure (am) rfl rfl rfl ?_) | (refine vcallD_pure (am) rfl rfl rfl ?_) | (refine vcall_pure (c1) rfl rfl rfl ?_) | (refine vcallD_pure (c1) rfl rfl rfl ?_) | (refine vcall_out (l :=  [0, 1, 2, 3]) (co ) ⟨rfl, rfl, rfl, rfl, (by (repeat' (first | exact trivial | exact GB_wf | constructor)); first | done | fail), (by (repeat' (first | exact trivial | exact GB_fits rfl | constructor)); first | done | fail)⟩ ?_) | (refine vcall_out (l :=  [0, 1, 2, 3]) (c3 ) ⟨rfl, rfl, rfl, rfl, (by (repeat' (first | exact trivial | exact GB_wf | constructor)); first | done | fail), (by (repeat' (first | exact trivial | exact GB_fits rfl | constructor)); first | done | fail)⟩ ?_) | (refine br_dec (fun h => ?_) (fun h => ?_) <;> try (exfalso; omega)) | (refine br_ndec (fun h => ?_) (fun h => ?_) <;> try (exfalso; omega)) | refine br_seq (fun h => ?_) (fun h => ?_) | refine br_nseq (fun h => ?_) (fun h => ?_) | refine br_not (fun h => ?_) (fun h => ?_) | refine br_intro (fun h => ?_) (fun h => ?_) | refine cond_intro rfl ?_ | (refine cond_intro ⟨rfl, ?_⟩ ?_; (first | omega | (dsimp only; omega) | decide)) | (refine cond_intro ?_ ?_; (first | omega | (dsimp only; omega) | decide | (simp only [Nat.add_zero, Int.toNat_natCast, *]; omega))))
    all_goals (conv => whnf)
    all_goals (try rw [amB_no] at *)
    all_goals (try rw [amB_iff] at *)
    · have e : a.foE id n = 4 := by unfold Acc.foE; (repeat (first | rw [if_pos (by omega)] | rw [if_neg (by omega)] | rw [if_pos (by assumption)] | rw [if_neg (by assumption)] | rw [if_neg (bnf (by assumption))]))
      rw [L _ e (by decide), e]; exact ro (p := 2) (q := 3) rfl ⟨rfl, rfl, rfl, trivial⟩ rfl
    · have e : a.foE id n = 5 := by unfold Acc.foE; (repeat (first | rw [if_pos (by omega)] | rw [if_neg (by omega)] | rw [if_pos (by assumption)] | rw [if_neg (by assumption)] | rw [if_neg (bnf (by assumption))]))
      rw [L _ e (by decide), e]; exact ro (p := 2) (q := 3) rfl ⟨rfl, rfl, rfl, trivial⟩ rfl
    · have e : a.foE id n = 4 := by unfold Acc.foE; (repeat (first | rw [if_pos (by omega)] | rw [if_neg (by omega)] | rw [if_pos (by assumption)] | rw [if_neg (by assumption)] | rw [if_neg (bnf (by assumption))]))
      rw [L _ e (by decide), e]; exact ro (p := 2) (q := 3) rfl ⟨rfl, rfl, rfl, trivial⟩ rfl
    · have e : a.foE id n = 12 := by unfold Acc.foE; (repeat (first | rw [if_pos (by omega)] | rw [if_neg (by omega)] | rw [if_pos (by assumption)] | rw [if_neg (by assumption)] | rw [if_neg (bnf (by assumption))]))
      rw [L _ e (by decide), e]; exact ro (p := 2) (q := 3) rfl ⟨rfl, rfl, rfl, trivial⟩ rfl
    · have e : a.foE id n = 0 := by unfold Acc.foE; (repeat (first | rw [if_pos (by omega)] | rw [if_neg (by omega)] | rw [if_pos (by assumption)] | rw [if_neg (by assumption)] | rw [if_neg (bnf (by assumption))]))
      have e2 : a.foA id n = a.set id (IntKind.i64.wrap (a.get id + n)) := by unfold Acc.foA; rw [if_pos e]
      rw [e2, e]; exact ro (p := 4) (q := 5) rfl ⟨rfl, rfl, rfl, trivial⟩ rfl
theorem r_Raise (cur : ByteArray) (a : Acc) (ho : a.Ok) (id : ByteArray) (n : Int) : FC Tryd.prog 4 45 [.ptr 1 0 0 0, .str id, .int .i64 n] (rH cur a) (isOut (.int .i64 (a.raE id n)) (rO cur (a.raA id n)) 6) := by
  have co := r_Open cur a ho id
  have hget : a.get id = a.vs.getD (sidx a.ks id) 0 := rfl
  have c2 := r_Available cur a ho
  have c3 := r_put cur a ho id (IntKind.i64.wrap (a.get id + n))
  have am := r_amount n
  have L : ∀ e, a.raE id n = e → e ≠ 0 → a.raA id n = a := by
    intro e h1 h2
    unfold Acc.raA
    rw [h1, if_neg h2]
  by_cases hi : sidx a.ks id < a.n
  · rw [show a.has id = true from decide_eq_true hi] at co
    refine fc_of mixed T_ok Tryd.func45 rfl (by kernel_rfl) (by kernel_rfl) (by kernel_rfl) ?_
    repeat' ((conv => whnf); first | (refine vcall_pure (am) rfl rfl rfl ?_) | (refine vcallD_pure (am) rfl rfl rfl ?_) | (refine vcall_out (l :=  [0, 1, 2, 3]) (c2 ) ⟨rfl, rfl, rfl, rfl, (by (repeat' (first | exact trivial | exact GB_wf | constructor)); first | done | fail), (by (repeat' (first | exact trivial | exact GB_fits rfl | constructor)); first | done | fail)⟩ ?_) | (refine vcallD_out (l :=  [0, 1, 2, 3]) (c2 ) ⟨rfl, rfl, rfl, rfl, (by (repeat' (first | exact trivial | exact GB_wf | constructor)); first | done | fail), (by (repeat' (first | exact trivial | exact GB_fits rfl | constructor)); first | done | fail)⟩ ?_) | (refine vcall_out (l :=  [0, 1, 2, 3]) (co ) ⟨rfl, rfl, rfl, rfl, (by (repeat' (first | exact trivial | exact GB_wf | constructor)); first | done | fail), (by (repeat' (first | exact trivial | exact GB_fits rfl | constructor)); first | done | fail)⟩ ?_) | (refine vcall_out (l :=  [0, 1, 2, 3]) (c3 ) ⟨rfl, rfl, rfl, rfl, (by (repeat' (first | exact trivial | exact GB_wf | constructor)); first | done | fail), (by (repeat' (first | exact trivial | exact GB_fits rfl | constructor)); first | done | fail)⟩ ?_) | (refine br_dec (fun h => ?_) (fun h => ?_) <;> try (exfalso; omega)) | (refine br_ndec (fun h => ?_) (fun h => ?_) <;> try (exfalso; omega)) | refine br_seq (fun h => ?_) (fun h => ?_) | refine br_nseq (fun h => ?_) (fun h => ?_) | refine br_not (fun h => ?_) (fun h => ?_) | refine br_intro (fun h => ?_) (fun h => ?_) | refine cond_intro rfl ?_ | (refine cond_intro ⟨rfl, ?_⟩ ?_; (first | omega | (dsimp only; omega) | decide)) | (refine cond_intro ?_ ?_; (first | omega | (dsimp only; omega) | decide | (simp only [Nat.add_zero, Int.toNat_natCast, *]; omega))))
    all_goals (conv => whnf)
    all_goals (try rw [amB_no] at *)
    all_goals (try rw [amB_iff] at *)
    · have e : a.raE id n = 4 := by unfold Acc.raE; (repeat (first | rw [if_pos (by omega)] | rw [if_neg (by omega)] | rw [if_pos (by assumption)] | rw [if_neg (by assumption)] | rw [if_neg (bnf (by assumption))]))
      rw [L _ e (by decide), e]; exact ro (p := 2) (q := 3) rfl ⟨rfl, rfl, rfl, trivial⟩ rfl
    · have e : a.raE id n = 4 := by unfold Acc.raE; (repeat (first | rw [if_pos (by omega)] | rw [if_neg (by omega)] | rw [if_pos (by assumption)] | rw [if_neg (by assumption)] | rw [if_neg (bnf (by assumption))]))
      rw [L _ e (by decide), e]; exact ro (p := 2) (q := 3) rfl ⟨rfl, rfl, rfl, trivial⟩ rfl
    · have e : a.raE id n = 16 := by unfold Acc.raE; (repeat (first | rw [if_pos (by omega)] | rw [if_neg (by omega)] | rw [if_pos (by assumption)] | rw [if_neg (by assumption)] | rw [if_neg (bnf (by assumption))]))
      rw [L _ e (by decide), e]; exact ro (p := 2) (q := 3) rfl ⟨rfl, rfl, rfl, trivial⟩ rfl
    · have e : a.raE id n = 0 := by unfold Acc.raE; (repeat (first | rw [if_pos (by omega)] | rw [if_neg (by omega)] | rw [if_pos (by assumption)] | rw [if_neg (by assumption)] | rw [if_neg (bnf (by assumption))]))
      have e2 : a.raA id n = a.set id (IntKind.i64.wrap (a.get id + n)) := by unfold Acc.raA; rw [if_pos e]
      rw [e2, e]; exact ro (p := 4) (q := 5) rfl ⟨rfl, rfl, rfl, trivial⟩ rfl
  · rw [show a.has id = false from decide_eq_false hi] at co
    refine fc_of mixed T_ok Tryd.func45 rfl (by kernel_rfl) (by kernel_rfl) (by kernel_rfl) ?_
    repeat' ((conv => whnf); first | (refine vcall_pure (am) rfl rfl rfl ?_) | (refine vcallD_pure (am) rfl rfl rfl ?_) | (refine vcall_out (l :=  [0, 1, 2, 3]) (c2 ) ⟨rfl, rfl, rfl, rfl, (by (repeat' (first | exact trivial | exact GB_wf | constructor)); first | done | fail), (by (repeat' (first | exact trivial | exact GB_fits rfl | constructor)); first | done | fail)⟩ ?_) | (refine vcallD_out (l :=  [0, 1, 2, 3]) (c2 ) ⟨rfl, rfl, rfl, rfl, (by (repeat' (first | exact trivial | exact GB_wf | constructor)); first | done | fail), (by (repeat' (first | exact trivial | exact GB_fits rfl | constructor)); first | done | fail)⟩ ?_) | (refine vcall_out (l :=  [0, 1, 2, 3]) (co ) ⟨rfl, rfl, rfl, rfl, (by (repeat' (first | exact trivial | exact GB_wf | constructor)); first | done | fail), (by (repeat' (first | exact trivial | exact GB_fits rfl | constructor)); first | done | fail)⟩ ?_) | (refine vcall_out (l :=  [0, 1, 2, 3]) (c3 ) ⟨rfl, rfl, rfl, rfl, (by (repeat' (first | exact trivial | exact GB_wf | constructor)); first | done | fail), (by (repeat' (first | exact trivial | exact GB_fits rfl | constructor)); first | done | fail)⟩ ?_) | (refine br_dec (fun h => ?_) (fun h => ?_) <;> try (exfalso; omega)) | (refine br_ndec (fun h => ?_) (fun h => ?_) <;> try (exfalso; omega)) | refine br_seq (fun h => ?_) (fun h => ?_) | refine br_nseq (fun h => ?_) (fun h => ?_) | refine br_not (fun h => ?_) (fun h => ?_) | refine br_intro (fun h => ?_) (fun h => ?_) | refine cond_intro rfl ?_ | (refine cond_intro ⟨rfl, ?_⟩ ?_; (first | omega | (dsimp only; omega) | decide)) | (refine cond_intro ?_ ?_; (first | omega | (dsimp only; omega) | decide | (simp only [Nat.add_zero, Int.toNat_natCast, *]; omega))))
    all_goals (conv => whnf)
    all_goals (try rw [amB_no] at *)
    all_goals (try rw [amB_iff] at *)
    · have e : a.raE id n = 4 := by unfold Acc.raE; (repeat (first | rw [if_pos (by omega)] | rw [if_neg (by omega)] | rw [if_pos (by assumption)] | rw [if_neg (by assumption)] | rw [if_neg (bnf (by assumption))]))
      rw [L _ e (by decide), e]; exact ro (p := 2) (q := 3) rfl ⟨rfl, rfl, rfl, trivial⟩ rfl
    · have e : a.raE id n = 6 := by unfold Acc.raE; (repeat (first | rw [if_pos (by omega)] | rw [if_neg (by omega)] | rw [if_pos (by assumption)] | rw [if_neg (by assumption)] | rw [if_neg (bnf (by assumption))]))
      rw [L _ e (by decide), e]; exact ro (p := 2) (q := 3) rfl ⟨rfl, rfl, rfl, trivial⟩ rfl
theorem r_Release (cur : ByteArray) (a : Acc) (ho : a.Ok) (id : ByteArray) (n : Int) : FC Tryd.prog 4 46 [.ptr 1 0 0 0, .str id, .int .i64 n] (rH cur a) (isOut (.int .i64 (a.reE id n)) (rO cur (a.reA id n)) 6) := by
  have co := r_Open cur a ho id
  have hget : a.get id = a.vs.getD (sidx a.ks id) 0 := rfl
  have c3 := r_put cur a ho id (IntKind.i64.wrap (a.get id - n))
  have L : ∀ e, a.reE id n = e → e ≠ 0 → a.reA id n = a := by
    intro e h1 h2
    unfold Acc.reA
    rw [h1, if_neg h2]
  by_cases hi : sidx a.ks id < a.n
  · rw [show a.has id = true from decide_eq_true hi] at co
    refine fc_of mixed T_ok Tryd.func46 rfl (by kernel_rfl) (by kernel_rfl) (by kernel_rfl) ?_
    repeat' ((conv => whnf); first | (refine vcall_out (l :=  [0, 1, 2, 3]) (co ) ⟨rfl, rfl, rfl, rfl, (by (repeat' (first | exact trivial | exact GB_wf | constructor)); first | done | fail), (by (repeat' (first | exact trivial | exact GB_fits rfl | constructor)); first | done | fail)⟩ ?_) | (refine vcall_out (l :=  [0, 1, 2, 3]) (c3 ) ⟨rfl, rfl, rfl, rfl, (by (repeat' (first | exact trivial | exact GB_wf | constructor)); first | done | fail), (by (repeat' (first | exact trivial | exact GB_fits rfl | constructor)); first | done | fail)⟩ ?_) | (refine br_dec (fun h => ?_) (fun h => ?_) <;> try (exfalso; omega)) | (refine br_ndec (fun h => ?_) (fun h => ?_) <;> try (exfalso; omega)) | refine br_seq (fun h => ?_) (fun h => ?_) | refine br_nseq (fun h => ?_) (fun h => ?_) | refine br_not (fun h => ?_) (fun h => ?_) | refine br_intro (fun h => ?_) (fun h => ?_) | refine cond_intro rfl ?_ | (refine cond_intro ⟨rfl, ?_⟩ ?_; (first | omega | (dsimp only; omega) | decide)) | (refine cond_intro ?_ ?_; (first | omega | (dsimp only; omega) | decide | (simp only [Nat.add_zero, Int.toNat_natCast, *]; omega))))
    all_goals (conv => whnf)
    all_goals (try rw [amB_no] at *)
    all_goals (try rw [amB_iff] at *)
    · have e : a.reE id n = 4 := by unfold Acc.reE; (repeat (first | rw [if_pos (by omega)] | rw [if_neg (by omega)] | rw [if_pos (by assumption)] | rw [if_neg (by assumption)] | rw [if_neg (bnf (by assumption))]))
      rw [L _ e (by decide), e]; exact ro (p := 2) (q := 3) rfl ⟨rfl, rfl, rfl, trivial⟩ rfl
    · have e : a.reE id n = 4 := by unfold Acc.reE; (repeat (first | rw [if_pos (by omega)] | rw [if_neg (by omega)] | rw [if_pos (by assumption)] | rw [if_neg (by assumption)] | rw [if_neg (bnf (by assumption))]))
      rw [L _ e (by decide), e]; exact ro (p := 2) (q := 3) rfl ⟨rfl, rfl, rfl, trivial⟩ rfl
    · have e : a.reE id n = 0 := by unfold Acc.reE; (repeat (first | rw [if_pos (by omega)] | rw [if_neg (by omega)] | rw [if_pos (by assumption)] | rw [if_neg (by assumption)] | rw [if_neg (bnf (by assumption))]))
      have e2 : a.reA id n = a.set id (IntKind.i64.wrap (a.get id - n)) := by unfold Acc.reA; rw [if_pos e]
      rw [e2, e]; exact ro (p := 4) (q := 5) rfl ⟨rfl, rfl, rfl, trivial⟩ rfl
  · rw [show a.has id = false from decide_eq_false hi] at co
    refine fc_of mixed T_ok Tryd.func46 rfl (by kernel_rfl) (by kernel_rfl) (by kernel_rfl) ?_
    repeat' ((conv => whnf); first | (refine vcall_out (l :=  [0, 1, 2, 3]) (co ) ⟨rfl, rfl, rfl, rfl, (by (repeat' (first | exact trivial | exact GB_wf | constructor)); first | done | fail), (by (repeat' (first | exact trivial | exact GB_fits rfl | constructor)); first | done | fail)⟩ ?_) | (refine vcall_out (l :=  [0, 1, 2, 3]) (c3 ) ⟨rfl, rfl, rfl, rfl, (by (repeat' (first | exact trivial | exact GB_wf | constructor)); first | done | fail), (by (repeat' (first | exact trivial | exact GB_fits rfl | constructor)); first | done | fail)⟩ ?_) | (refine br_dec (fun h => ?_) (fun h => ?_) <;> try (exfalso; omega)) | (refine br_ndec (fun h => ?_) (fun h => ?_) <;> try (exfalso; omega)) | refine br_seq (fun h => ?_) (fun h => ?_) | refine br_nseq (fun h => ?_) (fun h => ?_) | refine br_not (fun h => ?_) (fun h => ?_) | refine br_intro (fun h => ?_) (fun h => ?_) | refine cond_intro rfl ?_ | (refine cond_intro ⟨rfl, ?_⟩ ?_; (first | omega | (dsimp only; omega) | decide)) | (refine cond_intro ?_ ?_; (first | omega | (dsimp only; omega) | decide | (simp only [Nat.add_zero, Int.toNat_natCast, *]; omega))))
    all_goals (conv => whnf)
    all_goals (try rw [amB_no] at *)
    all_goals (try rw [amB_iff] at *)
    · have e : a.reE id n = 6 := by unfold Acc.reE; (repeat (first | rw [if_pos (by omega)] | rw [if_neg (by omega)] | rw [if_pos (by assumption)] | rw [if_neg (by assumption)] | rw [if_neg (bnf (by assumption))]))
      rw [L _ e (by decide), e]; exact ro (p := 2) (q := 3) rfl ⟨rfl, rfl, rfl, trivial⟩ rfl

theorem am_bal (a : Acc) (b : Int) : ({ a with bal := b } : Acc).am = a.am := by unfold Acc.am; rfl
theorem r_Capture (cur : ByteArray) (a : Acc) (ho : a.Ok) (id : ByteArray) (m n : Int) : FC Tryd.prog 4 47 [.ptr 1 0 0 0, .str id, .int .i64 m, .int .i64 n] (rH cur a) (isOut (.int .i64 (a.caE id m n)) (rO cur (a.caA id m n)) 6) := by
  have co := r_Open cur a ho id
  have hget : a.get id = a.vs.getD (sidx a.ks id) 0 := rfl
  have c3 := r_put cur a ho id (IntKind.i64.wrap (a.get id - m))
  have L : ∀ e, a.caE id m n = e → e ≠ 0 → a.caA id m n = a := by
    intro e h1 h2
    unfold Acc.caA
    rw [h1, if_neg h2]
  by_cases hi : sidx a.ks id < a.n
  · rw [show a.has id = true from decide_eq_true hi] at co
    have hb := (set_bal a id (IntKind.i64.wrap (a.get id - m))).1
    refine fc_of mixed T_ok Tryd.func47 rfl (by kernel_rfl) (by kernel_rfl) (by kernel_rfl) ?_
    repeat' ((conv => whnf); first | (refine vcall_out (l :=  [0, 1, 2, 3]) (co ) ⟨rfl, rfl, rfl, rfl, (by (repeat' (first | exact trivial | exact GB_wf | constructor)); first | done | fail), (by (repeat' (first | exact trivial | exact GB_fits rfl | constructor)); first | done | fail)⟩ ?_) | (refine vcall_out (l :=  [0, 1, 2, 3]) (c3 ) ⟨rfl, rfl, rfl, rfl, (by (repeat' (first | exact trivial | exact GB_wf | constructor)); first | done | fail), (by (repeat' (first | exact trivial | exact GB_fits rfl | constructor)); first | done | fail)⟩ ?_) | (refine br_dec (fun h => ?_) (fun h => ?_) <;> try (exfalso; omega)) | (refine br_ndec (fun h => ?_) (fun h => ?_) <;> try (exfalso; omega)) | refine br_seq (fun h => ?_) (fun h => ?_) | refine br_nseq (fun h => ?_) (fun h => ?_) | refine br_not (fun h => ?_) (fun h => ?_) | refine br_intro (fun h => ?_) (fun h => ?_) | refine cond_intro rfl ?_ | (refine cond_intro ⟨rfl, ?_⟩ ?_; (first | omega | (dsimp only; omega) | decide)) | (refine cond_intro ?_ ?_; (first | omega | (dsimp only; omega) | decide | (simp only [Nat.add_zero, Int.toNat_natCast, *]; omega))))
    all_goals (conv => whnf)
    iterate 5
      · have e : a.caE id m n = 4 := by unfold Acc.caE; (repeat (first | rw [if_pos (by omega)] | rw [if_neg (by omega)] | rw [if_pos (by assumption)] | rw [if_neg (by assumption)] | rw [if_neg (bnf (by assumption))]))
        rw [L _ e (by decide), e]; exact ro (p := 2) (q := 3) rfl ⟨rfl, rfl, rfl, trivial⟩ rfl
    · have e : a.caE id m n = 0 := by unfold Acc.caE; (repeat (first | rw [if_pos (by omega)] | rw [if_neg (by omega)] | rw [if_pos (by assumption)] | rw [if_neg (by assumption)] | rw [if_neg (bnf (by assumption))]))
      have e2 : a.caA id m n = (a.set id (IntKind.i64.wrap (a.get id - m))).deb n := by unfold Acc.caA; rw [if_pos e]
      have e3 : ((a.set id (IntKind.i64.wrap (a.get id - m))).deb n).am = (a.set id (IntKind.i64.wrap (a.get id - m))).am := am_bal _ _
      rw [e2, e]
      refine ro (p := 4) (q := 5) rfl ⟨rfl, rfl, ?_, trivial⟩ rfl
      dsimp only
      rw [e3]
      rfl
  · rw [show a.has id = false from decide_eq_false hi] at co
    refine fc_of mixed T_ok Tryd.func47 rfl (by kernel_rfl) (by kernel_rfl) (by kernel_rfl) ?_
    repeat' ((conv => whnf); first | (refine vcall_out (l :=  [0, 1, 2, 3]) (co ) ⟨rfl, rfl, rfl, rfl, (by (repeat' (first | exact trivial | exact GB_wf | constructor)); first | done | fail), (by (repeat' (first | exact trivial | exact GB_fits rfl | constructor)); first | done | fail)⟩ ?_) | (refine vcall_out (l :=  [0, 1, 2, 3]) (c3 ) ⟨rfl, rfl, rfl, rfl, (by (repeat' (first | exact trivial | exact GB_wf | constructor)); first | done | fail), (by (repeat' (first | exact trivial | exact GB_fits rfl | constructor)); first | done | fail)⟩ ?_) | (refine br_dec (fun h => ?_) (fun h => ?_) <;> try (exfalso; omega)) | (refine br_ndec (fun h => ?_) (fun h => ?_) <;> try (exfalso; omega)) | refine br_seq (fun h => ?_) (fun h => ?_) | refine br_nseq (fun h => ?_) (fun h => ?_) | refine br_not (fun h => ?_) (fun h => ?_) | refine br_intro (fun h => ?_) (fun h => ?_) | refine cond_intro rfl ?_ | (refine cond_intro ⟨rfl, ?_⟩ ?_; (first | omega | (dsimp only; omega) | decide)) | (refine cond_intro ?_ ?_; (first | omega | (dsimp only; omega) | decide | (simp only [Nat.add_zero, Int.toNat_natCast, *]; omega))))
    all_goals (conv => whnf)
    · have e : a.caE id m n = 6 := by unfold Acc.caE; (repeat (first | rw [if_pos (by omega)] | rw [if_neg (by omega)] | rw [if_pos (by assumption)] | rw [if_neg (by assumption)] | rw [if_neg (bnf (by assumption))]))
      rw [L _ e (by decide), e]; exact ro (p := 2) (q := 3) rfl ⟨rfl, rfl, rfl, trivial⟩ rfl
theorem r_Post (cur : ByteArray) (a : Acc) (n : Int) : FC Tryd.prog 4 48 [.ptr 1 0 0 0, .int .i64 n] (rH cur a) (isOut (.int .i64 (a.poE n)) (rO cur (a.poA n)) 6) := by
  have L : ∀ e, a.poE n = e → e ≠ 0 → a.poA n = a := by
    intro e h1 h2
    unfold Acc.poA
    rw [h1, if_neg h2]
  refine fc_of mixed T_ok Tryd.func48 rfl (by kernel_rfl) (by kernel_rfl) (by kernel_rfl) ?_
  repeat' ((conv => whnf); first | (refine br_dec (fun h => ?_) (fun h => ?_) <;> try (exfalso; omega)) | (refine br_ndec (fun h => ?_) (fun h => ?_) <;> try (exfalso; omega)) | refine br_seq (fun h => ?_) (fun h => ?_) | refine br_nseq (fun h => ?_) (fun h => ?_) | refine br_not (fun h => ?_) (fun h => ?_) | refine br_intro (fun h => ?_) (fun h => ?_) | refine cond_intro rfl ?_ | (refine cond_intro ⟨rfl, ?_⟩ ?_; (first | omega | (dsimp only; omega) | decide)) | (refine cond_intro ?_ ?_; (first | omega | (dsimp only; omega) | decide | (simp only [Nat.add_zero, Int.toNat_natCast, *]; omega))))
  all_goals (conv => whnf)
  iterate 4
    · have e : a.poE n = 4 := by unfold Acc.poE; (repeat (first | rw [if_pos (by omega)] | rw [if_neg (by omega)] | rw [if_pos (by assumption)] | rw [if_neg (by assumption)] | rw [if_neg (bnf (by assumption))]))
      rw [L _ e (by decide), e]; exact ro (p := 2) (q := 3) rfl ⟨rfl, rfl, rfl, trivial⟩ rfl
  · have e : a.poE n = 0 := by unfold Acc.poE; (repeat (first | rw [if_pos (by omega)] | rw [if_neg (by omega)] | rw [if_pos (by assumption)] | rw [if_neg (by assumption)] | rw [if_neg (bnf (by assumption))]))
    have e2 : a.poA n = { a with bal := IntKind.i64.wrap (a.bal + n) } := by unfold Acc.poA; rw [if_pos e]
    have e3 := am_bal a (IntKind.i64.wrap (a.bal + n))
    rw [e2, e]
    refine ro (p := 2) (q := 3) rfl ⟨rfl, rfl, ?_, trivial⟩ rfl
    dsimp only
    rw [e3]
    rfl
attribute [local irreducible] Acc.foE Acc.foA Acc.raE Acc.raA Acc.reE Acc.reA Acc.caE Acc.caA Acc.poE Acc.poA
theorem r_spec (cur : ByteArray) (a : Acc) (ho : a.Ok) (k : Int) (id : ByteArray) (n o : Int) (hs : id.size ≤ 9223372036854775807) : FC Tryd.prog 4 26 [.ptr 1 0 0 0, .agg [.int .i64 k, .str id, .int .i64 n, .int .i64 o]] (rH cur a) (isOut (.tup [.int .i64 (a.opV k id n o), .int .i64 (a.opE k id n o)]) (rO cur (a.opA k id n o)) 6) := by
  have c0 := r_Hold cur a ho id n hs
  have c1 := r_HoldUpTo cur a ho id n o hs
  have c2 := r_Force cur a ho id n hs
  have c3 := r_Raise cur a ho id n
  have c4 := r_Release cur a ho id n
  have c5 := r_Capture cur a ho id n o
  have c6 := r_Post cur a n
  refine fc_of mixed T_ok Tryd.func26 rfl (by kernel_rfl) (by kernel_rfl) (by kernel_rfl) ?_
  repeat' ((conv => whnf); first | (refine vcall_out (l :=  [0, 1, 2, 3]) (c0 ) ⟨rfl, rfl, rfl, rfl, (by (repeat' (first | exact trivial | exact GB_wf | constructor)); first | done | fail), (by (repeat' (first | exact trivial | exact GB_fits rfl | constructor)); first | done | fail)⟩ ?_) | (refine vcall_out (l :=  [0, 1, 2, 3]) (c1 ) ⟨rfl, rfl, rfl, rfl, (by (repeat' (first | exact trivial | exact GB_wf | constructor)); first | done | fail), (by (repeat' (first | exact trivial | exact GB_fits rfl | constructor)); first | done | fail)⟩ ?_) | (refine vcall_out (l :=  [0, 1, 2, 3]) (c2 ) ⟨rfl, rfl, rfl, rfl, (by (repeat' (first | exact trivial | exact GB_wf | constructor)); first | done | fail), (by (repeat' (first | exact trivial | exact GB_fits rfl | constructor)); first | done | fail)⟩ ?_) | (refine vcall_out (l :=  [0, 1, 2, 3]) (c3 ) ⟨rfl, rfl, rfl, rfl, (by (repeat' (first | exact trivial | exact GB_wf | constructor)); first | done | fail), (by (repeat' (first | exact trivial | exact GB_fits rfl | constructor)); first | done | fail)⟩ ?_) | (refine vcall_out (l :=  [0, 1, 2, 3]) (c4 ) ⟨rfl, rfl, rfl, rfl, (by (repeat' (first | exact trivial | exact GB_wf | constructor)); first | done | fail), (by (repeat' (first | exact trivial | exact GB_fits rfl | constructor)); first | done | fail)⟩ ?_) | (refine vcall_out (l :=  [0, 1, 2, 3]) (c5 ) ⟨rfl, rfl, rfl, rfl, (by (repeat' (first | exact trivial | exact GB_wf | constructor)); first | done | fail), (by (repeat' (first | exact trivial | exact GB_fits rfl | constructor)); first | done | fail)⟩ ?_) | (refine vcall_out (l :=  [0, 1, 2, 3]) (c6 ) ⟨rfl, rfl, rfl, rfl, (by (repeat' (first | exact trivial | exact GB_wf | constructor)); first | done | fail), (by (repeat' (first | exact trivial | exact GB_fits rfl | constructor)); first | done | fail)⟩ ?_) | (refine br_dec (fun h => ?_) (fun h => ?_) <;> try (exfalso; omega)) | (refine br_ndec (fun h => ?_) (fun h => ?_) <;> try (exfalso; omega)) | refine br_seq (fun h => ?_) (fun h => ?_) | refine br_nseq (fun h => ?_) (fun h => ?_) | refine br_not (fun h => ?_) (fun h => ?_) | refine br_intro (fun h => ?_) (fun h => ?_) | refine cond_intro rfl ?_ | (refine cond_intro ⟨rfl, ?_⟩ ?_; (first | omega | (dsimp only; omega) | decide)) | (refine cond_intro ?_ ?_; (first | omega | (dsimp only; omega) | decide | (simp only [Nat.add_zero, Int.toNat_natCast, *]; omega))))
  all_goals (conv => whnf)
  all_goals unfold Acc.opV Acc.opE Acc.opA
  all_goals (repeat (first | rw [if_pos (by omega)] | rw [if_neg (by omega)] | rw [if_pos (by assumption)] | rw [if_neg (by assumption)] | rw [if_neg (bnf (by assumption))]))
  all_goals exact ro (p := 5) (q := 6) rfl ⟨rfl, rfl, rfl, trivial⟩ rfl
theorem r_New_no (s : ByteArray) (b l : Int) (h0 : nwE s b l ≠ 0) : Pure Tryd.prog 24 [.str s, .int .i64 b, .int .i64 l] (.tup [.nptr, .int .i64 (nwE s b l)]) := by
  have ex := ref01_IsCurrency s
  refine fc_of mixed T_ok Tryd.func24 rfl (by kernel_rfl) (by kernel_rfl) (by kernel_rfl) ?_
  repeat' ((conv => whnf); first | (refine vcall_pure (ex) rfl rfl rfl ?_) | (refine vcallD_pure (ex) rfl rfl rfl ?_) | (refine br_dec (fun h => ?_) (fun h => ?_) <;> try (exfalso; omega)) | (refine br_ndec (fun h => ?_) (fun h => ?_) <;> try (exfalso; omega)) | refine br_seq (fun h => ?_) (fun h => ?_) | refine br_nseq (fun h => ?_) (fun h => ?_) | refine br_not (fun h => ?_) (fun h => ?_) | refine br_intro (fun h => ?_) (fun h => ?_) | refine cond_intro rfl ?_ | (refine cond_intro ⟨rfl, ?_⟩ ?_; (first | omega | (dsimp only; omega) | decide)) | (refine cond_intro ?_ ?_; (first | omega | (dsimp only; omega) | decide | (simp only [Nat.add_zero, Int.toNat_natCast, *]; omega))))
  all_goals (conv => whnf)
  · have e : nwE s b l = 11 := by unfold nwE; (repeat (first | rw [if_pos (by omega)] | rw [if_neg (by omega)] | rw [if_pos (by assumption)] | rw [if_neg (by assumption)] | rw [if_neg (bnf (by assumption))]))
    rw [e]; exact ret_pure rfl
  all_goals first
    | (exfalso; apply h0; unfold nwE; (repeat (first | rw [if_pos (by omega)] | rw [if_neg (by omega)] | rw [if_pos (by assumption)] | rw [if_neg (by assumption)] | rw [if_neg (bnf (by assumption))])); done)
    | (have e : nwE s b l = 4 := by unfold nwE; (repeat (first | rw [if_pos (by omega)] | rw [if_neg (by omega)] | rw [if_pos (by assumption)] | rw [if_neg (by assumption)] | rw [if_neg (bnf (by assumption))]))
       rw [e]; exact ret_pure rfl)
theorem r_New_ok (s : ByteArray) (b l : Int) (h0 : nwE s b l = 0) : FC Tryd.prog 1 24 [.str s, .int .i64 b, .int .i64 l] [] (isOut (.tup [.ptr 1 0 0 0, .int .i64 0]) (rX false s b l 0 [] []) 4) := by
  have ex := ref01_IsCurrency s
  have hc : curB s = true := by unfold nwE at h0; cases h : curB s; rw [if_pos h] at h0; omega; rfl
  have hr : ¬ (b < -999999999999 ∨ 999999999999 < b ∨ l < 0 ∨ 999999999999 < l) := by
    intro hh; unfold nwE at h0; rw [if_neg (bnf hc), if_pos hh] at h0; omega
  rw [hc] at ex
  refine fc_of mixed T_ok Tryd.func24 rfl (by kernel_rfl) (by kernel_rfl) (by kernel_rfl) ?_
  repeat' ((conv => whnf); first | (refine vcall_pure (ex) rfl rfl rfl ?_) | (refine vcallD_pure (ex) rfl rfl rfl ?_) | (refine br_dec (fun h => ?_) (fun h => ?_) <;> try (exfalso; omega)) | (refine br_ndec (fun h => ?_) (fun h => ?_) <;> try (exfalso; omega)) | refine br_seq (fun h => ?_) (fun h => ?_) | refine br_nseq (fun h => ?_) (fun h => ?_) | refine br_not (fun h => ?_) (fun h => ?_) | refine br_intro (fun h => ?_) (fun h => ?_) | refine cond_intro rfl ?_ | (refine cond_intro ⟨rfl, ?_⟩ ?_; (first | omega | (dsimp only; omega) | decide)) | (refine cond_intro ?_ ?_; (first | omega | (dsimp only; omega) | decide | (simp only [Nat.add_zero, Int.toNat_natCast, *]; omega))))
  all_goals (conv => whnf)
  · exact ret_up (l := [0, 1, 2, 3]) [.cell 1 3 [.sc (.strs [])], .cell 1 4 [.sc (.ints .i64 [])]] ⟨rfl, rfl, rfl, rfl, rfl, trivial⟩ (rw3 _ _ _ _ _ _)
end Go.Proofs.YthnmooholhellaaDoor
