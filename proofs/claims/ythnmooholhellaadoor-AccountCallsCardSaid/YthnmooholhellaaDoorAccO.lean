/- The law on the order of holds. -/
import Derived.Test.YthnmooholhellaaDoorAccP
import Derived.Test.YthnmooholhellaaDoorSortP
import Derived.Test.YthnmooholhellaaDoorYLaid
namespace Go.Proofs.YthnmooholhellaaDoor
open Go.RowKit Go.Sy
attribute [local irreducible] vcall vloop vcallD retP
set_option maxRecDepth 100000
set_option linter.unusedVariables false
set_option linter.unusedSimpArgs false

def amts (k : Nat) : List Int := (List.range k).map (fun i : Nat => (i : Int) + 1)
theorem amts_length (k : Nat) : (amts k).length = k := by simp [amts]
theorem amts_succ (k : Nat) : amts (k + 1) = amts k ++ [(k : Int) + 1] := by simp [amts, List.range_succ]
theorem amts_get {k i : Nat} (h : i < k) : (amts k)[i]? = some ((i : Int) + 1) := by simp [amts, h]
/-- After the first k holds. -/
def oA (ids : List ByteArray) (k : Nat) : Acc := ⟨999999999999, 0, k, ids.take k, amts k, List.range k, k⟩
/-- After the last j holds, the last one first. -/
def oB (ids : List ByteArray) (j : Nat) : Acc := ⟨999999999999, 0, j, (ids.drop (ids.length - j)).reverse, ((amts ids.length).drop (ids.length - j)).reverse, List.range j, j⟩

theorem up_ok {a : Acc} {id : ByteArray} {n l : Int} (h : a.upE id n l = 0) : a.newE id = 0 ∧ ¬ a.avail < l ∧ 1 ≤ n ∧ n ≤ 999999999999 ∧ l ≤ n := by
  unfold Acc.upE at h
  split at h
  · omega
  · split at h
    · omega
    · split at h
      · omega
      · rename_i h1 h2 h3
        exact ⟨by omega, h3, by omega⟩
theorem up_new {a : Acc} {id : ByteArray} {n l : Int} (hn : a.newE id = 0) (hv : ¬ a.avail < l) (h : 1 ≤ n ∧ n ≤ 999999999999 ∧ 1 ≤ l ∧ l ≤ n) : a.upE id n l = 0 := by
  unfold Acc.upE
  rw [if_neg (by omega), if_neg (by omega), if_neg hv]
theorem up_put {a : Acc} {id : ByteArray} {n : Int} (h : a.upE id n n = 0) : a.upA id n n = a.put id n := by
  obtain ⟨h1, h2, h3, h4, _⟩ := up_ok h
  unfold Acc.upA
  rw [if_pos h, show min n a.avail = n by omega]
  unfold Acc.set
  rw [if_neg (by omega)]
theorem put_new {a : Acc} {id : ByteArray} {n : Int} (h : a.newE id = 0) (hk : a.ks.length = a.n) (hv : a.vs.length = a.n) : a.put id n = ⟨a.bal, a.lim, a.n + 1, a.ks ++ [id], a.vs ++ [n], a.bs ++ [a.ck], a.ck + 1⟩ := by
  obtain ⟨_, h2, _⟩ := newE_ok h
  unfold Acc.put putL
  rw [if_neg h2, if_neg h2, if_neg h2, if_neg (by omega), if_neg (by omega)]

theorem oA_step {ids : List ByteArray} {k : Nat} (hk : k < ids.length) (h : (oA ids k).upE (ids.getD k ⟨#[]⟩) ((k : Int) + 1) ((k : Int) + 1) = 0) : (oA ids k).upA (ids.getD k ⟨#[]⟩) ((k : Int) + 1) ((k : Int) + 1) = oA ids (k + 1) := by
  rw [up_put h, put_new (up_ok h).1 (by show (ids.take k).length = k; rw [List.length_take]; omega) (amts_length k)]
  show Acc.mk _ _ _ _ _ _ _ = Acc.mk _ _ _ _ _ _ _
  have e1 : ids.take (k + 1) = ids.take k ++ [ids.getD k ⟨#[]⟩] := by
    rw [List.take_succ_eq_append_getElem hk]; simp [List.getD, hk]
  rw [e1, amts_succ, List.range_succ]
  rfl
/-- The first k texts are identifications and differ. -/
def good (ids : List ByteArray) (k : Nat) : Prop := (ids.take k).Nodup ∧ ∀ s ∈ ids.take k, idB s = true
theorem good_step {ids : List ByteArray} {k : Nat} (hk : k < ids.length) (hg : good ids k) (h : (oA ids k).upE (ids.getD k ⟨#[]⟩) ((k : Int) + 1) ((k : Int) + 1) = 0) : good ids (k + 1) := by
  obtain ⟨h1, h2, h3⟩ := newE_ok (up_ok h).1
  have e1 : ids.take (k + 1) = ids.take k ++ [ids.getD k ⟨#[]⟩] := by
    rw [List.take_succ_eq_append_getElem hk]; simp [List.getD, hk]
  have hn : ¬ ids.getD k ⟨#[]⟩ ∈ ids.take k := fun hm => h2 (by
    have := sidx_lt.2 hm
    show sidx (ids.take k) _ < k
    rw [List.length_take] at this; omega)
  unfold good
  rw [e1]
  refine ⟨?_, ?_⟩
  · rw [List.nodup_append]
    refine ⟨hg.1, by simp, ?_⟩
    intro x hx y hy e
    simp only [List.mem_singleton] at hy
    subst hy; subst e; exact hn hx
  · intro s hs
    rcases List.mem_append.1 hs with hs | hs
    · exact hg.2 s hs
    · simp only [List.mem_singleton] at hs; subst hs; exact h1

theorem sum_le {l : List Int} {m : Int} (h : ∀ x ∈ l, 0 ≤ x ∧ x ≤ m) : 0 ≤ l.sum ∧ l.sum ≤ l.length * m := by
  induction l with
  | nil => simp
  | cons a l ih =>
    have h1 := ih (fun x hx => h x (by simp [hx]))
    have h2 := h a (by simp)
    simp only [List.sum_cons, List.length_cons]
    rw [show ((l.length + 1 : Nat) : Int) * m = l.length * m + m by rw [Int.natCast_add]; simp [Int.add_mul]]
    omega
theorem amts_mem {k : Nat} {x : Int} (h : x ∈ amts k) : 0 ≤ x ∧ x ≤ k := by
  simp only [amts, List.mem_map, List.mem_range] at h
  obtain ⟨i, hi, rfl⟩ := h
  omega
theorem avail_of {a : Acc} (hb : a.bal = 999999999999) (hl : a.lim = 0) (h : 0 ≤ a.vs.sum ∧ a.vs.sum ≤ 3600) : a.avail = 999999999999 - a.vs.sum := by
  unfold Acc.avail Acc.held
  rw [hb, hl, w64_in (n := a.vs.sum) (by omega) (by omega), w64_in (n := 999999999999 + 0) (by omega) (by omega), w64_in (by omega) (by omega)]
  omega
theorem oB_sum {ids : List ByteArray} (h60 : ids.length ≤ 60) (j : Nat) : 0 ≤ (oB ids j).vs.sum ∧ (oB ids j).vs.sum ≤ 3600 := by
  have h := sum_le (l := ((amts ids.length).drop (ids.length - j)).reverse) (m := 60) (fun x hx => by
    have := amts_mem (List.mem_of_mem_drop (List.mem_reverse.1 hx)); omega)
  have hl : ((amts ids.length).drop (ids.length - j)).reverse.length ≤ 60 := by simp [amts_length]; omega
  refine ⟨h.1, ?_⟩
  show ((amts ids.length).drop (ids.length - j)).reverse.sum ≤ 3600
  omega
theorem oB_step {ids : List ByteArray} {j : Nat} (hj : j < ids.length) (h60 : ids.length ≤ 60) (hg : good ids ids.length) :
    (oB ids j).upE (ids.getD (ids.length - 1 - j) ⟨#[]⟩) ((ids.length - j : Nat) : Int) ((ids.length - j : Nat) : Int) = 0 ∧ (oB ids j).upA (ids.getD (ids.length - 1 - j) ⟨#[]⟩) ((ids.length - j : Nat) : Int) ((ids.length - j : Nat) : Int) = oB ids (j + 1) := by
  obtain ⟨g1, g2⟩ := hg
  rw [List.take_length] at g1 g2
  have hi : ids.length - 1 - j < ids.length := by omega
  have ei : ids.getD (ids.length - 1 - j) ⟨#[]⟩ = ids[ids.length - 1 - j] := by simp [List.getD, hi]
  have lk : (oB ids j).ks.length = j := by show ((ids.drop _).reverse).length = j; simp; omega
  have lv : (oB ids j).vs.length = j := by show (((amts ids.length).drop _).reverse).length = j; simp [amts_length]; omega
  have hd : ids.drop (ids.length - 1 - j) = ids[ids.length - 1 - j] :: ids.drop (ids.length - j) := by
    rw [List.drop_eq_getElem_cons hi, show ids.length - 1 - j + 1 = ids.length - j by omega]
  have hn : ¬ ids.getD (ids.length - 1 - j) ⟨#[]⟩ ∈ (oB ids j).ks := by
    intro hm
    rw [ei] at hm
    have hm' : ids[ids.length - 1 - j] ∈ ids.drop (ids.length - j) := List.mem_reverse.1 hm
    have := g1.sublist (List.drop_sublist (ids.length - 1 - j) ids)
    rw [hd] at this
    exact (List.nodup_cons.1 this).1 hm'
  have hnew : (oB ids j).newE (ids.getD (ids.length - 1 - j) ⟨#[]⟩) = 0 := by
    unfold Acc.newE
    rw [if_neg (bnf (by rw [ei]; exact g2 _ (List.getElem_mem hi))), if_neg (fun hx => hn (sidx_lt.1 (by rw [lk]; exact hx))), if_neg (by show ¬ 64 ≤ j; omega)]
  have hs := oB_sum h60 j
  have hav := avail_of (a := oB ids j) rfl rfl hs
  have hu := up_new (n := ((ids.length - j : Nat) : Int)) (l := ((ids.length - j : Nat) : Int)) hnew (by rw [hav]; omega) (by omega)
  refine ⟨hu, ?_⟩
  rw [up_put hu, put_new hnew lk lv]
  have e2 : (amts ids.length).drop (ids.length - 1 - j) = ((ids.length - j : Nat) : Int) :: (amts ids.length).drop (ids.length - j) := by
    have hx : ids.length - 1 - j < (amts ids.length).length := by rw [amts_length]; exact hi
    rw [List.drop_eq_getElem_cons hx, show ids.length - 1 - j + 1 = ids.length - j by omega]
    congr 1
    have := amts_get (k := ids.length) (i := ids.length - 1 - j) hi
    rw [List.getElem?_eq_getElem hx] at this
    injection this with this
    rw [this]; omega
  show Acc.mk _ _ _ _ _ _ _ = Acc.mk _ _ _ _ _ _ _
  rw [show ids.length - (j + 1) = ids.length - 1 - j by omega, hd, e2, List.reverse_cons, List.reverse_cons, ei, List.range_succ]
  rfl
theorem oB_all {ids : List ByteArray} : oB ids ids.length = ⟨999999999999, 0, ids.length, ids.reverse, (amts ids.length).reverse, List.range ids.length, ids.length⟩ := by
  unfold oB; rw [Nat.sub_self]; rfl
theorem oA_all {ids : List ByteArray} : oA ids ids.length = ⟨999999999999, 0, ids.length, ids, amts ids.length, List.range ids.length, ids.length⟩ := by
  unfold oA; rw [List.take_length]
theorem ok_A {ids : List ByteArray} (h60 : ids.length ≤ 60) (hg : good ids ids.length) : (oA ids ids.length).Ok := by
  obtain ⟨g1, g2⟩ := hg
  rw [List.take_length] at g1 g2
  rw [oA_all]
  exact ⟨rfl, amts_length _, g1, g2, by show ids.length ≤ 64; omega⟩
theorem ok_B {ids : List ByteArray} (h60 : ids.length ≤ 60) (hg : good ids ids.length) : (oB ids ids.length).Ok := by
  obtain ⟨g1, g2⟩ := hg
  rw [List.take_length] at g1 g2
  rw [oB_all]
  exact ⟨by simp, by simp [amts_length], ((List.reverse_perm ids).symm.nodup g1), fun s hs => g2 s (List.mem_reverse.1 hs), by show ids.length ≤ 64; omega⟩
theorem AB_get {ids : List ByteArray} (hg : good ids ids.length) {s : ByteArray} (hs : s ∈ ids) : (oA ids ids.length).get s = (oB ids ids.length).get s ∧ (oA ids ids.length).has s = true ∧ (oB ids ids.length).has s = true := by
  obtain ⟨g1, g2⟩ := hg
  rw [List.take_length] at g1 g2
  obtain ⟨i, hi, rfl⟩ := List.mem_iff_getElem.1 hs
  have h1 : sidx ids ids[i] = i := sidx_of_get g1 (List.getElem?_eq_getElem hi)
  have h2 : sidx ids.reverse ids[i] = ids.length - 1 - i := sidx_of_get (((List.reverse_perm ids).symm.nodup g1)) (by
    rw [List.getElem?_reverse (by omega), show ids.length - 1 - (ids.length - 1 - i) = i by omega]; exact List.getElem?_eq_getElem hi)
  rw [oA_all, oB_all]
  refine ⟨?_, ?_, ?_⟩
  · show (amts ids.length).getD (sidx ids ids[i]) 0 = (amts ids.length).reverse.getD (sidx ids.reverse ids[i]) 0
    rw [h1, h2, List.getD, List.getD, List.getElem?_reverse (by rw [amts_length]; omega), amts_length, show ids.length - 1 - (ids.length - 1 - i) = i by omega]
  · show decide (sidx ids ids[i] < ids.length) = true
    rw [h1]; exact decide_eq_true hi
  · show decide (sidx ids.reverse ids[i] < ids.length) = true
    rw [h2]; exact decide_eq_true (by omega)
theorem AB_avail {ids : List ByteArray} : (oA ids ids.length).avail = (oB ids ids.length).avail := by
  rw [oA_all, oB_all]
  unfold Acc.avail Acc.held
  show IntKind.i64.wrap (_ - IntKind.i64.wrap (amts ids.length).sum) = IntKind.i64.wrap (_ - IntKind.i64.wrap (amts ids.length).reverse.sum)
  rw [perm_sum (List.reverse_perm (amts ids.length))]
theorem AB_sort {ids : List ByteArray} : sortS (oA ids ids.length).ks = sortS ids ∧ sortS (oB ids ids.length).ks = sortS ids := by
  rw [oA_all, oB_all]
  exact ⟨rfl, sortS_congr (List.reverse_perm ids)⟩

theorem ref13_SameTexts (n m : Nat) (l k : List ByteArray) (hl : l.length = n) (hk : k.length = m) (hn : n ≤ 100000) : FC Tryd.prog 3 19 [.sl 1 0 0 n, .sl 2 0 0 m] [(1, some (.one true (.cols n [.sc (.strs l)]))), (2, some (.one true (.cols m [.sc (.strs k)])))] (isOut (.bool (decide (l = k))) [] 3) := by
  refine fc_of mixed T_ok Tryd.func19 rfl (by kernel_rfl) (by kernel_rfl) (by kernel_rfl) ?_
  repeat' ((conv => whnf); first | (refine br_dec (fun h => ?_) (fun h => ?_) <;> try (exfalso; omega)) | (refine br_ndec (fun h => ?_) (fun h => ?_) <;> try (exfalso; omega)) | refine br_seq (fun h => ?_) (fun h => ?_) | refine br_nseq (fun h => ?_) (fun h => ?_) | refine br_not (fun h => ?_) (fun h => ?_) | refine br_intro (fun h => ?_) (fun h => ?_) | refine cond_intro rfl ?_ | (refine cond_intro ⟨rfl, ?_⟩ ?_; (first | omega | (dsimp only; omega) | decide)) | (refine cond_intro ?_ ?_; (first | omega | (dsimp only; omega) | decide | (simp only [Nat.add_zero, Int.toNat_natCast, *]; omega))))
  all_goals (conv => whnf)
  · have e : decide (l = k) = false := decide_eq_false (fun e => by subst e; omega)
    rw [e]; exact ret_out (l := [0, 1, 2]) rfl rfl trivial allRw_nil
  · refine vloop_of (fun i : Nat => ⟨[(0, .sl 1 0 0 n), (1, .sl 2 0 0 m), (5, .int .i64 i)], [(1, some (.one true (.cols n [.sc (.strs l)]))), (2, some (.one true (.cols m [.sc (.strs k)])))], 3⟩) (fun i => i ≤ n ∧ l.take i = k.take i) (fun i => n - i) 0 [0, 1, 2] [] ⟨rfl, ⟨rfl, rfl, rfl, trivial⟩, ⟨rfl, rfl, trivial⟩⟩ ⟨by omega, rfl⟩ ?_
    rintro i ⟨hi, ht⟩
    repeat' ((conv => whnf); first | (refine br_dec (fun h => ?_) (fun h => ?_) <;> try (exfalso; omega)) | (refine br_ndec (fun h => ?_) (fun h => ?_) <;> try (exfalso; omega)) | refine br_seq (fun h => ?_) (fun h => ?_) | refine br_nseq (fun h => ?_) (fun h => ?_) | refine br_not (fun h => ?_) (fun h => ?_) | refine br_intro (fun h => ?_) (fun h => ?_) | refine cond_intro rfl ?_ | (refine cond_intro ⟨rfl, ?_⟩ ?_; (first | omega | (dsimp only; omega) | decide)) | (refine cond_intro ?_ ?_; (first | omega | (dsimp only; omega) | decide | (simp only [Nat.add_zero, Int.toNat_natCast, *]; omega))))
    all_goals (conv => whnf)
    · have hne : l.getD (i + 0) ⟨#[]⟩ ≠ k.getD (i + 0) ⟨#[]⟩ := h
      have e : decide (l = k) = false := decide_eq_false (fun e => hne (by rw [e]))
      rw [e]; exact ret_out (l := [0, 1, 2]) rfl rfl trivial allRw_nil
    · have he : l.getD (i + 0) ⟨#[]⟩ = k.getD (i + 0) ⟨#[]⟩ := h
      refine ⟨i + 1, [0, 1, 2], [], ⟨by omega, ?_⟩, by omega, ⟨rfl, ⟨rfl, rfl, congrArg (fun z => some (SV.int .i64 z)) (i64_succ' (by omega)), trivial⟩, ⟨rfl, rfl, trivial⟩⟩⟩
      have h1 : i < l.length := by omega
      have h2 : i < k.length := by omega
      rw [List.take_succ_eq_append_getElem h1, List.take_succ_eq_append_getElem h2, ht]
      simp only [Nat.add_zero, List.getD, List.getElem?_eq_getElem h1, List.getElem?_eq_getElem h2, Option.getD_some] at he
      rw [he]
    · have e : decide (l = k) = true := decide_eq_true (by
        have : i = n := by omega
        subst this
        rw [List.take_of_length_le (by omega), List.take_of_length_le (by omega)] at ht
        exact ht)
      rw [e]; exact ret_out (l := [0, 1, 2]) rfl rfl trivial allRw_nil

attribute [local irreducible] oA oB Acc.avail Acc.held Acc.upE Acc.upA sortS good
abbrev idB1 (l0 : Nat) (q : List ByteArray) : Heap := [(0, some (GB glT)), (1, some (.one true (.cols l0 [.sc (.strs q)])))]
abbrev acc2 (a b : Acc) : Heap := [(2, some (.one false (.cells [.int .i64 a.bal, .int .i64 a.lim, .map 3 0]))), (3, some (.one false (.obj (.map false false a.n [.strs a.ks] [.sc (.ints .i64 a.vs)] a.bs a.ck)))), (4, some (.one false (.cells [.int .i64 b.bal, .int .i64 b.lim, .map 5 0]))), (5, some (.one false (.obj (.map false false b.n [.strs b.ks] [.sc (.ints .i64 b.vs)] b.bs b.ck))))]
theorem oA_0 (ids : List ByteArray) : oA ids 0 = Acc.mk0 999999999999 0 := by unfold oA; rfl
theorem oB_0 (ids : List ByteArray) : oB ids 0 = Acc.mk0 999999999999 0 := by unfold oB; rw [Nat.sub_zero, List.drop_length, List.drop_of_length_le (by rw [amts_length]; exact Nat.le_refl _)]; rfl
theorem good_0 (ids : List ByteArray) : good ids 0 := by unfold good; exact ⟨List.nodup_nil, fun s hs => by cases hs⟩
theorem oA_v (ids : List ByteArray) (k : Nat) : (oA ids k).vs.length = (oA ids k).n := by unfold oA; exact amts_length k
theorem oB_v {ids : List ByteArray} {j : Nat} (h : j ≤ ids.length) : (oB ids j).vs.length = (oB ids j).n := by unfold oB; show (((amts ids.length).drop _).reverse).length = j; simp [amts_length]; omega
set_option maxHeartbeats 4000000 in
theorem accountOrder_fc (l0 : Nat) (hl0 : l0 ≤ maxLen) (q0_0 : List ByteArray) (eq0_0 : q0_0.length = l0) (wq0_0 : ∀ x ∈ q0_0, x.size ≤ maxLen) :
    FC Tryd.prog 2 4 [.sl 1 0 0 l0] [(0, some (GB glT)), (1, some (.one true (.cols l0 [.sc (.strs q0_0)])))] (isOut (.bool true) [] 2) := by
  subst eq0_0
  have aw0 := acc_awake
  have mk := made_ok 999999999999 0 (by decide)
  have hz : ∀ k, (q0_0.getD k ⟨#[]⟩).size ≤ 9223372036854775807 := by
    intro k
    rw [List.getD]
    cases h : q0_0[k]? with
    | none => exact Nat.zero_le _
    | some x => exact wq0_0 x (List.mem_iff_getElem?.2 ⟨k, h⟩)
  refine fc_of mixed T_ok Tryd.func4 rfl (by kernel_rfl) (by kernel_rfl) (by kernel_rfl) ?_
  repeat' ((conv => whnf); first | (refine vcall_out (l :=  [0]) (aw0 ) ⟨rfl, rfl, rfl, rfl, (by (repeat' (first | exact trivial | exact GB_wf | constructor)); first | done | fail), (by (repeat' (first | exact trivial | exact GB_fits rfl | constructor)); first | done | fail)⟩ ?_) | (refine vcall_out (l :=  [0]) (mk ) ⟨rfl, rfl, rfl, rfl, (by (repeat' (first | exact trivial | exact GB_wf | constructor)); first | done | fail), (by (repeat' (first | exact trivial | exact GB_fits rfl | constructor)); first | done | fail)⟩ ?_) | (refine br_dec (fun h => ?_) (fun h => ?_) <;> try (exfalso; omega)) | (refine br_ndec (fun h => ?_) (fun h => ?_) <;> try (exfalso; omega)) | refine br_seq (fun h => ?_) (fun h => ?_) | refine br_nseq (fun h => ?_) (fun h => ?_) | refine br_not (fun h => ?_) (fun h => ?_) | refine br_intro (fun h => ?_) (fun h => ?_) | refine cond_intro rfl ?_ | (refine cond_intro ⟨rfl, ?_⟩ ?_; (first | omega | (dsimp only; omega) | decide)) | (refine cond_intro ?_ ?_; (first | omega | (dsimp only; omega) | decide | (simp only [Nat.add_zero, Int.toNat_natCast, *]; omega))))
  all_goals (conv => whnf)
  · exact ret_out (l := [0, 1]) rfl rfl trivial allRw_nil
  have h60 : q0_0.length ≤ 60 := by omega
  refine vloop_of (fun k : Nat => ⟨[(0, .sl 1 0 0 q0_0.length), (3, .ptr 2 0 0 0), (4, .ptr 4 0 0 0), (5, .int .i64 k)], idB1 q0_0.length q0_0 ++ acc2 (oA q0_0 k) (oB q0_0 0), 6⟩) (fun k => k ≤ q0_0.length ∧ good q0_0 k) (fun k => q0_0.length - k) 0 [0, 1, 2, 3, 4, 5] [] ?_ ⟨by omega, good_0 _⟩ ?_
  · dsimp only
    rw [oA_0, oB_0]
    exact ⟨rfl, ⟨rfl, rfl, rfl, rfl, trivial⟩, ⟨gwk rfl, rfl, rfl, rfl, rfl, rfl, trivial⟩⟩
  rintro k ⟨hk, hg⟩
  by_cases hkl : k < q0_0.length
  · have c0 := acc_Hold (oA q0_0 k) (q0_0.getD k ⟨#[]⟩) ((k : Int) + 1) (oA_v _ _) (hz k)
    have wk : IntKind.i64.wrap ((k : Int) + 1) = (k : Int) + 1 := w64_in (by omega) (by omega)
    by_cases he : (oA q0_0 k).upE (q0_0.getD k ⟨#[]⟩) ((k : Int) + 1) ((k : Int) + 1) = 0
    · have hst := oA_step hkl he
      have hgs := good_step hkl hg he
      rw [he, hst, ← wk] at c0
      repeat' ((conv => whnf); first | (refine vcall_out (l :=  [0]) (aw0 ) ⟨rfl, rfl, rfl, rfl, (by (repeat' (first | exact trivial | exact GB_wf | constructor)); first | done | fail), (by (repeat' (first | exact trivial | exact GB_fits rfl | constructor)); first | done | fail)⟩ ?_) | (refine vcall_out (l :=  [0, 2, 3]) (c0 ) ⟨rfl, rfl, rfl, rfl, (by (repeat' (first | exact trivial | exact GB_wf | constructor)); first | done | fail), (by (repeat' (first | exact trivial | exact GB_fits rfl | constructor)); first | done | fail)⟩ ?_) | (refine br_dec (fun h => ?_) (fun h => ?_) <;> try (exfalso; omega)) | (refine br_ndec (fun h => ?_) (fun h => ?_) <;> try (exfalso; omega)) | refine br_seq (fun h => ?_) (fun h => ?_) | refine br_nseq (fun h => ?_) (fun h => ?_) | refine br_not (fun h => ?_) (fun h => ?_) | refine br_intro (fun h => ?_) (fun h => ?_) | refine cond_intro rfl ?_ | (refine cond_intro ⟨rfl, ?_⟩ ?_; (first | omega | (dsimp only; omega) | decide)) | (refine cond_intro ?_ ?_; (first | omega | (dsimp only; omega) | decide | (simp only [Nat.add_zero, Int.toNat_natCast, *]; omega))))
      all_goals (conv => whnf)
      all_goals first
        | exact ret_out (l := [0, 1]) rfl rfl trivial allRw_nil
        | exact ⟨k + 1, [0, 1, 2, 3, 4, 5], [], ⟨by omega, hgs⟩, by omega, ⟨rfl, ⟨rfl, rfl, rfl, congrArg (fun z => some (SV.int .i64 z)) (i64_succ' (by omega)), trivial⟩, ⟨gwk rfl, rfl, rfl, rfl, rfl, rfl, trivial⟩⟩⟩
    · generalize (oA q0_0 k).upE (q0_0.getD k ⟨#[]⟩) ((k : Int) + 1) ((k : Int) + 1) = E at *
      rw [← wk] at c0
      repeat' ((conv => whnf); first | (refine vcall_out (l :=  [0]) (aw0 ) ⟨rfl, rfl, rfl, rfl, (by (repeat' (first | exact trivial | exact GB_wf | constructor)); first | done | fail), (by (repeat' (first | exact trivial | exact GB_fits rfl | constructor)); first | done | fail)⟩ ?_) | (refine vcall_out (l :=  [0, 2, 3]) (c0 ) ⟨rfl, rfl, rfl, rfl, (by (repeat' (first | exact trivial | exact GB_wf | constructor)); first | done | fail), (by (repeat' (first | exact trivial | exact GB_fits rfl | constructor)); first | done | fail)⟩ ?_) | (refine br_dec (fun h => ?_) (fun h => ?_) <;> try (exfalso; omega)) | (refine br_ndec (fun h => ?_) (fun h => ?_) <;> try (exfalso; omega)) | refine br_seq (fun h => ?_) (fun h => ?_) | refine br_nseq (fun h => ?_) (fun h => ?_) | refine br_not (fun h => ?_) (fun h => ?_) | refine br_intro (fun h => ?_) (fun h => ?_) | refine cond_intro rfl ?_ | (refine cond_intro ⟨rfl, ?_⟩ ?_; (first | omega | (dsimp only; omega) | decide)) | (refine cond_intro ?_ ?_; (first | omega | (dsimp only; omega) | decide | (simp only [Nat.add_zero, Int.toNat_natCast, *]; omega))))
      all_goals (conv => whnf)
      all_goals first
        | exact ret_out (l := [0, 1]) rfl rfl trivial allRw_nil
        | (exfalso; omega)
  obtain rfl : k = q0_0.length := by omega
  clear hkl hk
  repeat' ((conv => whnf); first | (refine br_dec (fun h => ?_) (fun h => ?_) <;> try (exfalso; omega)) | (refine br_ndec (fun h => ?_) (fun h => ?_) <;> try (exfalso; omega)) | refine br_seq (fun h => ?_) (fun h => ?_) | refine br_nseq (fun h => ?_) (fun h => ?_) | refine br_not (fun h => ?_) (fun h => ?_) | refine br_intro (fun h => ?_) (fun h => ?_) | refine cond_intro rfl ?_ | (refine cond_intro ⟨rfl, ?_⟩ ?_; (first | omega | (dsimp only; omega) | decide)) | (refine cond_intro ?_ ?_; (first | omega | (dsimp only; omega) | decide | (simp only [Nat.add_zero, Int.toNat_natCast, *]; omega))))
  all_goals (conv => whnf)
  have wn : IntKind.i64.wrap ((q0_0.length : Int) - 1) = (q0_0.length : Int) - 1 - ((0 : Nat) : Int) := by rw [w64_in (by omega) (by omega)]; omega
  refine vloop_of (fun j : Nat => ⟨[(0, .sl 1 0 0 q0_0.length), (3, .ptr 2 0 0 0), (4, .ptr 4 0 0 0), (6, .int .i64 ((q0_0.length : Int) - 1 - (j : Int)))], idB1 q0_0.length q0_0 ++ acc2 (oA q0_0 q0_0.length) (oB q0_0 j), 6⟩) (fun j => j ≤ q0_0.length) (fun j => q0_0.length - j) 0 [0, 1, 2, 3, 4, 5] [] ⟨rfl, ⟨rfl, rfl, rfl, congrArg (fun z => some (SV.int .i64 z)) wn, trivial⟩, ⟨gwk rfl, rfl, rfl, rfl, rfl, rfl, trivial⟩⟩ (by omega) ?_
  intro j hj
  by_cases hjl : j < q0_0.length
  · obtain ⟨s1, s2⟩ := oB_step hjl h60 hg
    have c0 := acc_Hold (oB q0_0 j) (q0_0.getD (q0_0.length - 1 - j) ⟨#[]⟩) ((q0_0.length - j : Nat) : Int) (oB_v (by omega)) (hz _)
    rw [s1, s2, show q0_0.length - 1 - j = ((q0_0.length : Int) - 1 - (j : Int)).toNat by omega, show ((q0_0.length - j : Nat) : Int) = IntKind.i64.wrap ((q0_0.length : Int) - 1 - (j : Int) + 1) by rw [w64_in (by omega) (by omega)]; omega] at c0
    repeat' ((conv => whnf); first | (refine vcall_out (l :=  [0, 4, 5]) (c0 ) ⟨rfl, rfl, rfl, rfl, (by (repeat' (first | exact trivial | exact GB_wf | constructor)); first | done | fail), (by (repeat' (first | exact trivial | exact GB_fits rfl | constructor)); first | done | fail)⟩ ?_) | (refine br_dec (fun h => ?_) (fun h => ?_) <;> try (exfalso; omega)) | (refine br_ndec (fun h => ?_) (fun h => ?_) <;> try (exfalso; omega)) | refine br_seq (fun h => ?_) (fun h => ?_) | refine br_nseq (fun h => ?_) (fun h => ?_) | refine br_not (fun h => ?_) (fun h => ?_) | refine br_intro (fun h => ?_) (fun h => ?_) | refine cond_intro rfl ?_ | (refine cond_intro ⟨rfl, ?_⟩ ?_; (first | omega | (dsimp only; omega) | decide)) | (refine cond_intro ?_ ?_; (first | omega | (dsimp only; omega) | decide | (simp only [Nat.add_zero, Int.toNat_natCast, *]; omega))))
    all_goals (conv => whnf)
    all_goals exact ⟨j + 1, [0, 1, 2, 3, 4, 5], [], by omega, by omega, ⟨rfl, ⟨rfl, rfl, rfl, congrArg (fun z => some (SV.int .i64 z)) (show IntKind.i64.wrap ((q0_0.length : Int) - 1 - (j : Int) - 1) = (q0_0.length : Int) - 1 - ((j + 1 : Nat) : Int) by rw [w64_in (by omega) (by omega)]; omega), trivial⟩, ⟨gwk rfl, rfl, rfl, rfl, rfl, rfl, trivial⟩⟩⟩
  obtain rfl : j = q0_0.length := by omega
  clear hjl hj
  have okA := ok_A h60 hg
  have okB := ok_B h60 hg
  have nA : (oA q0_0 q0_0.length).n = q0_0.length := by rw [oA_all]
  have nB : (oB q0_0 q0_0.length).n = q0_0.length := by rw [oB_all]
  obtain ⟨sA, sB⟩ := AB_sort (ids := q0_0)
  have hA := acc_Holds (oA q0_0 q0_0.length) (by omega) okA.sz okA.nd
  have hB := acc_Holds (oB q0_0 q0_0.length) (by omega) okB.sz okB.nd
  rw [nA, sA] at hA
  rw [nB, sB] at hB
  have vA := acc_Available (oA q0_0 q0_0.length) okA.v
  have vB := acc_Available (oB q0_0 q0_0.length) okB.v
  rw [AB_avail] at vA
  have oa := fun s => acc_Open (oA q0_0 q0_0.length) s
  have ob := fun s => acc_Open (oB q0_0 q0_0.length) s
  have st := ref13_SameTexts q0_0.length q0_0.length (sortS q0_0) (sortS q0_0) (sortS_length _) (sortS_length _) (by omega)
  rw [decide_eq_true rfl] at st
  have hnd : q0_0.Nodup := by
    have := hg
    unfold good at this
    rw [List.take_length] at this
    exact this.1
  generalize hGA : oA q0_0 q0_0.length = A at *
  generalize hGB : oB q0_0 q0_0.length = B at *
  repeat' ((conv => whnf); first | (refine vcall_out (l :=  [0, 2, 3]) (hA ) ⟨rfl, rfl, rfl, rfl, (by (repeat' (first | exact trivial | exact GB_wf | constructor)); first | done | fail), (by (repeat' (first | exact trivial | exact GB_fits rfl | constructor)); first | done | fail)⟩ ?_) | (refine br_dec (fun h => ?_) (fun h => ?_) <;> try (exfalso; omega)) | (refine br_ndec (fun h => ?_) (fun h => ?_) <;> try (exfalso; omega)) | refine br_seq (fun h => ?_) (fun h => ?_) | refine br_nseq (fun h => ?_) (fun h => ?_) | refine br_not (fun h => ?_) (fun h => ?_) | refine br_intro (fun h => ?_) (fun h => ?_) | refine cond_intro rfl ?_ | (refine cond_intro ⟨rfl, ?_⟩ ?_; (first | omega | (dsimp only; omega) | decide)) | (refine cond_intro ?_ ?_; (first | omega | (dsimp only; omega) | decide | (simp only [Nat.add_zero, Int.toNat_natCast, *]; omega))))
  all_goals (conv => whnf)
  refine vloop_of (fun k : Nat => ⟨[(0, .sl 1 0 0 q0_0.length), (3, .ptr 2 0 0 0), (4, .ptr 4 0 0 0), (7, .sl 6 0 0 q0_0.length), (8, .int .i64 k)], (6, some (.one false (.cols q0_0.length [.sc (.strs (sortS q0_0))]))) :: (idB1 q0_0.length q0_0 ++ acc2 A B), 7⟩) (fun k => k ≤ q0_0.length) (fun k => q0_0.length - k) 0 [0, 1, 2, 3, 4, 5, 6] [] ⟨rfl, ⟨rfl, rfl, rfl, rfl, rfl, trivial⟩, ⟨rfl, gwk rfl, rfl, rfl, rfl, rfl, rfl, trivial⟩⟩ (by omega) ?_
  intro k hk
  by_cases hkl : k < q0_0.length
  · have hm : (sortS q0_0).getD k ⟨#[]⟩ ∈ q0_0 := by
      have hk' : k < (sortS q0_0).length := by rw [sortS_length]; exact hkl
      rw [List.getD, List.getElem?_eq_getElem hk']
      exact (sortS_perm q0_0).mem_iff.1 (List.getElem_mem hk')
    obtain ⟨g1, g2, g3⟩ := AB_get hg hm
    rw [hGA] at g1 g2
    rw [hGB] at g1 g3
    have oak := oa ((sortS q0_0).getD k ⟨#[]⟩)
    have obk := ob ((sortS q0_0).getD k ⟨#[]⟩)
    rw [g1, g2] at oak
    rw [g3] at obk
    have hlt : 0 < k → strLt ((sortS q0_0).getD (k - 1) ⟨#[]⟩) ((sortS q0_0).getD k ⟨#[]⟩) = true := fun h0 => sortS_lt hnd (by omega) hkl
    have tk : 0 < k → (IntKind.i64.wrap ((k : Int) - 1)).toNat = k - 1 := fun h0 => by rw [w64_in (by omega) (by omega)]; omega
    have wk1 : 0 < k → IntKind.i64.wrap ((k : Int) - 1) = (k : Int) - 1 := fun h0 => w64_in (by omega) (by omega)
    repeat' ((conv => whnf); first | (refine vcall_out (l :=  [0, 2, 3]) (oak ) ⟨rfl, rfl, rfl, rfl, (by (repeat' (first | exact trivial | exact GB_wf | constructor)); first | done | fail), (by (repeat' (first | exact trivial | exact GB_fits rfl | constructor)); first | done | fail)⟩ ?_) | (refine vcall_out (l :=  [0, 4, 5]) (obk ) ⟨rfl, rfl, rfl, rfl, (by (repeat' (first | exact trivial | exact GB_wf | constructor)); first | done | fail), (by (repeat' (first | exact trivial | exact GB_fits rfl | constructor)); first | done | fail)⟩ ?_) | (refine cond_intro ?_ ?_; (rw [wk1 (by omega)]; omega)) | (refine br_dec (fun h => ?_) (fun h => ?_) <;> try (exfalso; omega)) | (refine br_ndec (fun h => ?_) (fun h => ?_) <;> try (exfalso; omega)) | refine br_seq (fun h => ?_) (fun h => ?_) | refine br_nseq (fun h => ?_) (fun h => ?_) | refine br_not (fun h => ?_) (fun h => ?_) | refine br_intro (fun h => ?_) (fun h => ?_) | refine cond_intro rfl ?_ | (refine cond_intro ⟨rfl, ?_⟩ ?_; (first | omega | (dsimp only; omega) | decide)) | (refine cond_intro ?_ ?_; (first | omega | (dsimp only; omega) | decide | (simp only [Nat.add_zero, Int.toNat_natCast, *]; omega))))
    all_goals (conv => whnf)
    all_goals first
      | exact ⟨k + 1, [0, 1, 2, 3, 4, 5, 6], [], by omega, by omega, ⟨rfl, ⟨rfl, rfl, rfl, rfl, congrArg (fun z => some (SV.int .i64 z)) (i64_succ' (by omega)), trivial⟩, ⟨rfl, gwk rfl, rfl, rfl, rfl, rfl, rfl, trivial⟩⟩⟩
      | (exfalso; exact h rfl)
      | (exfalso; have h0 : 0 < k := by omega
         have e := hlt h0; rw [← tk h0] at e; exact absurd (e.symm.trans h) (by decide))
  obtain rfl : k = q0_0.length := by omega
  repeat' ((conv => whnf); first | (refine vcall_out (l :=  [0, 4, 5]) (hB ) ⟨rfl, rfl, rfl, rfl, (by (repeat' (first | exact trivial | exact GB_wf | constructor)); first | done | fail), (by (repeat' (first | exact trivial | exact GB_fits rfl | constructor)); first | done | fail)⟩ ?_) | (refine vcall_out (l :=  [0, 6, 7]) (st ) ⟨rfl, rfl, rfl, rfl, (by (repeat' (first | exact trivial | exact GB_wf | constructor)); first | done | fail), (by (repeat' (first | exact trivial | exact GB_fits rfl | constructor)); first | done | fail)⟩ ?_) | (refine vcall_out (l :=  [0, 2, 3]) (vA ) ⟨rfl, rfl, rfl, rfl, (by (repeat' (first | exact trivial | exact GB_wf | constructor)); first | done | fail), (by (repeat' (first | exact trivial | exact GB_fits rfl | constructor)); first | done | fail)⟩ ?_) | (refine vcall_out (l :=  [0, 4, 5]) (vB ) ⟨rfl, rfl, rfl, rfl, (by (repeat' (first | exact trivial | exact GB_wf | constructor)); first | done | fail), (by (repeat' (first | exact trivial | exact GB_fits rfl | constructor)); first | done | fail)⟩ ?_) | (refine vcall_out (l :=  [0]) (aw0 ) ⟨rfl, rfl, rfl, rfl, (by (repeat' (first | exact trivial | exact GB_wf | constructor)); first | done | fail), (by (repeat' (first | exact trivial | exact GB_fits rfl | constructor)); first | done | fail)⟩ ?_) | (refine br_dec (fun h => ?_) (fun h => ?_) <;> try (exfalso; omega)) | (refine br_ndec (fun h => ?_) (fun h => ?_) <;> try (exfalso; omega)) | refine br_seq (fun h => ?_) (fun h => ?_) | refine br_nseq (fun h => ?_) (fun h => ?_) | refine br_not (fun h => ?_) (fun h => ?_) | refine br_intro (fun h => ?_) (fun h => ?_) | refine cond_intro rfl ?_ | (refine cond_intro ⟨rfl, ?_⟩ ?_; (first | omega | (dsimp only; omega) | decide)) | (refine cond_intro ?_ ?_; (first | omega | (dsimp only; omega) | decide | (simp only [Nat.add_zero, Int.toNat_natCast, *]; omega))))
  all_goals (conv => whnf)
  all_goals first
    | exact ret_out (l := [0, 1]) rfl rfl trivial allRw_nil
    | (exfalso; omega)
end Go.Proofs.YthnmooholhellaaDoor
