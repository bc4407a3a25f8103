/- Plain facts on links: the table holds a queue of arrivals, grouped by time. No program in sight. -/
import Derived.Test.YtpconbdoackcfaaLkC8
namespace Go.Proofs.Ytpconbdoackcfaa
open Go.RowKit Go.Sy
set_option linter.unusedVariables false
set_option linter.unusedSimpArgs false

/-- An arrival. -/
structure Av where
  t : Int
  f : Int
  o : Int
  k : Int
  x : ByteArray
/-- Arrivals as columns. -/
def arOf (l : List Av) : Ar := ⟨l.map Av.t, l.map Av.f, l.map Av.o, l.map Av.k, l.map Av.x⟩
theorem arOf_nil : arOf [] = ar0 := rfl
theorem arOf_add (l : List Av) (a : Av) : (arOf l).add a.t a.f a.o a.k a.x = arOf (l ++ [a]) := by simp [arOf, Ar.add]
theorem seg_map {α : Type} (l : List Av) (f : Av → α) : seg 0 l.length (l.map f) = l.map f := seg_all (by simp)
theorem arOf_cat (l m : List Av) : (arOf l).cat m.length (arOf m) = arOf (l ++ m) := by
  unfold Ar.cat arOf
  simp only [seg_map, List.map_append]
/-- Those that arrive at a time. -/
def atT (Q : List Av) (t : Int) : List Av := Q.filter (fun a => decide (a.t = t))
theorem atT_app (Q R : List Av) (t : Int) : atT (Q ++ R) t = atT Q t ++ atT R t := List.filter_append _ _
theorem atT_mem {Q : List Av} {t : Int} {a : Av} : a ∈ atT Q t ↔ a ∈ Q ∧ a.t = t := by simp [atT]
theorem atT_none {Q : List Av} {t : Int} (h : ∀ a, a ∈ Q → a.t ≠ t) : atT Q t = [] := by
  unfold atT
  rw [List.filter_eq_nil_iff]
  intro a ha; simpa using h a ha
/-- The table holds a queue. -/
structure Rep (W : Wy) (Q : List Av) : Prop where
  kl : W.ks.length = W.n
  nl : W.ns.length = W.n
  rl : W.rs.length = W.n
  nd : W.ks.Nodup
  mem : ∀ t, t ∈ W.ks ↔ ∃ a, a ∈ Q ∧ a.t = t
  sm : (W.ns.map (fun (n : Nat) => (n : Int))).sum = Q.length
  row : ∀ i, i < W.n → W.rs.getD i ar0 = arOf (atT Q (W.ks.getD i 0)) ∧ W.ns.getD i 0 = (atT Q (W.ks.getD i 0)).length
theorem rep_nil : Rep wy0 [] := ⟨rfl, rfl, rfl, List.nodup_nil, fun t => by simp, rfl, fun i h => by simp at h⟩
theorem filter_len (p : Av → Bool) : ∀ (Q : List Av), (Q.filter p).length + (Q.filter (fun a => !p a)).length = Q.length
  | [] => rfl
  | a :: Q => by
    have := filter_len p Q
    cases hp : p a <;> simp only [List.filter_cons, hp, Bool.not_true, Bool.not_false, if_true, Bool.false_eq_true, if_false, List.length_cons] <;> omega
theorem getD_iidx {l : List Int} {t : Int} (h : t ∈ l) : l.getD (iidx l t) 0 = t := by
  rw [List.getD, iidx_get (iidx_lt.2 h)]; rfl
theorem rep_put {W : Wy} {Q : List Av} (h : Rep W Q) (a : Av) : Rep (W.put a.t a.f a.o a.k a.x) (Q ++ [a]) := by
  have hle := iidx_le W.ks a.t
  have hkl := h.kl
  have key : putL (iidx W.ks a.t) a.t W.ks = if iidx W.ks a.t < W.n then W.ks else W.ks ++ [a.t] := by rw [iput_key, h.kl]
  obtain ⟨l1, l2, l3⟩ := put_len W h.nl h.rl h.kl a.t a.f a.o a.k a.x
  refine ⟨l3, l1, l2, ?_, ?_, ?_, ?_⟩
  · unfold Wy.put
    dsimp only
    rw [key]
    split
    · exact h.nd
    · rename_i hn
      rw [List.nodup_append]
      refine ⟨h.nd, by simp, fun x hx y hy e => ?_⟩
      simp at hy; subst hy; subst e
      have := iidx_lt.2 hx
      omega
  · intro t
    unfold Wy.put
    dsimp only
    rw [key]
    simp only [List.mem_append, List.mem_singleton]
    split
    · rename_i hin
      have hm : a.t ∈ W.ks := iidx_lt.1 (by omega)
      rw [h.mem]
      constructor
      · rintro ⟨b, hb, e⟩; exact ⟨b, .inl hb, e⟩
      · rintro ⟨b, hb | rfl, e⟩
        · exact ⟨b, hb, e⟩
        · subst e; exact (h.mem _).1 hm
    · rw [List.mem_append, List.mem_singleton, h.mem]
      constructor
      · rintro (⟨b, hb, e⟩ | e)
        · exact ⟨b, .inl hb, e⟩
        · exact ⟨a, .inr rfl, e.symm⟩
      · rintro ⟨b, hb | rfl, e⟩
        · exact .inl ⟨b, hb, e⟩
        · exact .inr e.symm
  · unfold Wy.put
    dsimp only
    rw [sum_put _ _ (by rw [h.nl]; omega), h.sm]
    simp
  · intro i hi
    unfold Wy.put at hi ⊢
    dsimp only at hi ⊢
    rw [putL_at (l := W.rs) (by rw [h.rl]; omega), putL_at (l := W.ks) hle, putL_at (l := W.ns) (by rw [h.nl]; omega)]
    by_cases e : i = iidx W.ks a.t
    · rw [if_pos e, if_pos e, if_pos e, atT_app, show atT [a] a.t = [a] by simp [atT]]
      by_cases hin : iidx W.ks a.t < W.n
      · obtain ⟨r1, r2⟩ := h.row _ hin
        rw [getD_iidx (iidx_lt.1 (by omega))] at r1 r2
        rw [r1, r2, arOf_add]
        exact ⟨rfl, by simp⟩
      · have hno : atT Q a.t = [] := atT_none fun b hb e => by
          have : a.t ∈ W.ks := (h.mem _).2 ⟨b, hb, e⟩
          have := iidx_lt.2 this
          omega
        have z0 : W.ns.getD (iidx W.ks a.t) 0 = 0 := by rw [List.getD, List.getElem?_eq_none (by rw [h.nl]; omega)]; rfl
        have z1 : W.rs.getD (iidx W.ks a.t) ar0 = ar0 := by rw [List.getD, List.getElem?_eq_none (by rw [h.rl]; omega)]; rfl
        rw [hno, z0, z1, ← arOf_nil, arOf_add]
        exact ⟨rfl, rfl⟩
    · rw [if_neg e, if_neg e, if_neg e]
      have hi2 : i < W.n := by split at hi <;> omega
      obtain ⟨r1, r2⟩ := h.row i hi2
      have hne : a.t ≠ W.ks.getD i 0 := by
        intro e2
        refine e (iidx_of_get h.nd ?_).symm
        rw [e2, List.getD, List.getElem?_eq_getElem (by omega)]; rfl
      rw [atT_app, show atT [a] (W.ks.getD i 0) = [] from atT_none (fun b hb => by simp at hb; subst hb; exact hne), List.append_nil]
      exact ⟨r1, r2⟩
theorem rep_del {W : Wy} {Q : List Av} (h : Rep W Q) {t : Int} (ht : t ∈ W.ks) : Rep (W.del t) (Q.filter (fun a => decide (a.t ≠ t))) := by
  have hi := iidx_lt.2 ht
  have hkl := h.kl
  have hin : iidx W.ks t < W.n := by omega
  unfold Wy.del
  rw [if_pos hin]
  refine ⟨?_, ?_, ?_, erase_nodup h.nd _, ?_, ?_, ?_⟩
  · show (W.ks.eraseIdx _).length = W.n - 1
    rw [List.length_eraseIdx, if_pos hi, h.kl]
  · show (W.ns.eraseIdx _).length = W.n - 1
    rw [List.length_eraseIdx, if_pos (by rw [h.nl]; exact hin), h.nl]
  · show (W.rs.eraseIdx _).length = W.n - 1
    rw [List.length_eraseIdx, if_pos (by rw [h.rl]; exact hin), h.rl]
  · intro s
    rw [erase_mem h.nd, h.mem]
    constructor
    · rintro ⟨⟨a, ha, e⟩, hs⟩
      exact ⟨a, by simp [ha, e, hs], e⟩
    · rintro ⟨a, ha, e⟩
      simp at ha
      exact ⟨⟨a, ha.1, e⟩, by rw [← e]; exact ha.2⟩
  · obtain ⟨r1, r2⟩ := h.row _ hin
    rw [getD_iidx ht] at r2
    have h1 := sum_erase W.ns (iidx W.ks t)
    have h2 := filter_len (fun a => decide (a.t = t)) Q
    have h3 : Q.filter (fun a => !decide (a.t = t)) = Q.filter (fun a => decide (a.t ≠ t)) := List.filter_congr fun a _ => by simp
    rw [h3] at h2
    have h4 := h.sm
    unfold atT at r2
    dsimp only
    omega
  · intro i hi2
    dsimp only at hi2 ⊢
    rw [eraseIdx_getD, eraseIdx_getD, eraseIdx_getD]
    have hjn : (if i < iidx W.ks t then i else i + 1) < W.n := by split <;> omega
    have hji : (if i < iidx W.ks t then i else i + 1) ≠ iidx W.ks t := by split <;> omega
    generalize (if i < iidx W.ks t then i else i + 1) = j at *
    obtain ⟨r1, r2⟩ := h.row j hjn
    have hne : W.ks.getD j 0 ≠ t := by
      intro e2
      refine hji (iidx_of_get h.nd (s := t) (i := j) ?_).symm
      rw [← e2, List.getD, List.getElem?_eq_getElem (by omega)]; rfl
    have : atT (Q.filter (fun a => decide (a.t ≠ t))) (W.ks.getD j 0) = atT Q (W.ks.getD j 0) := by
      unfold atT
      rw [List.filter_filter]
      refine List.filter_congr fun a _ => ?_
      by_cases e : a.t = W.ks.getD j 0
      · have h2 : a.t ≠ t := by rw [e]; exact hne
        rw [decide_eq_true e, decide_eq_true h2]; rfl
      · rw [decide_eq_false e]; rfl
    rw [this]
    exact ⟨r1, r2⟩
/-- The arrivals of some times, one time after the other. -/
def catT (Q : List Av) (S : List Int) : List Av := (S.map (atT Q)).flatten
theorem rep_dels {W : Wy} {Q : List Av} (h : Rep W Q) (S : List Int) (hS : S.Nodup) (hm : ∀ t, t ∈ S → t ∈ W.ks) : ∀ k, k ≤ S.length → Rep (W.dels S k) (Q.filter (fun a => decide (¬ a.t ∈ S.take k))) ∧ W.got S k = arOf (catT Q (S.take k)) ∧ W.gn S k = (catT Q (S.take k)).length
  | 0, _ => by
    refine ⟨?_, rfl, rfl⟩
    rw [show Q.filter (fun a => decide (¬ a.t ∈ S.take 0)) = Q from List.filter_eq_self.2 (fun a _ => by simp)]
    exact h
  | k + 1, hk => by
    obtain ⟨a1, a2, a3⟩ := rep_dels h S hS hm k (by omega)
    have hlt : k < S.length := by omega
    have eg : S.getD k 0 = S[k] := by simp [List.getD, hlt]
    have hnt : ¬ S[k] ∈ S.take k := by
      intro hx
      obtain ⟨j, hj, e⟩ := List.getElem_of_mem hx
      simp only [List.length_take] at hj
      rw [List.getElem_take] at e
      have := (List.getElem_inj hS).1 e
      omega
    have hin : S[k] ∈ (W.dels S k).ks := by
      rw [a1.mem]
      obtain ⟨a, ha, e⟩ := (h.mem _).1 (hm _ (List.getElem_mem hlt))
      exact ⟨a, List.mem_filter.2 ⟨ha, decide_eq_true (by rw [e]; exact hnt)⟩, e⟩
    have hi := iidx_lt.2 hin
    rw [a1.kl] at hi
    obtain ⟨r1, r2⟩ := a1.row _ hi
    rw [getD_iidx hin] at r1 r2
    have ea : atT (Q.filter (fun a => decide (¬ a.t ∈ S.take k))) S[k] = atT Q S[k] := by
      unfold atT
      rw [List.filter_filter]
      refine List.filter_congr fun a _ => ?_
      by_cases e : a.t = S[k]
      · rw [decide_eq_true e, e, decide_eq_true hnt]; rfl
      · rw [decide_eq_false e]; rfl
    rw [ea] at r1 r2
    have ec : catT Q (S.take (k + 1)) = catT Q (S.take k) ++ atT Q S[k] := by
      unfold catT
      rw [List.take_succ_eq_append_getElem hlt, List.map_append, List.flatten_append]
      simp only [List.map_cons, List.map_nil, List.flatten_cons, List.flatten_nil, List.append_nil]
    simp only [Wy.dels, Wy.got, Wy.gn, eg]
    refine ⟨?_, ?_, ?_⟩
    · have hd := rep_del a1 hin
      rw [List.filter_filter] at hd
      have : (Q.filter fun a => decide (a.t ≠ S[k]) && decide (¬ a.t ∈ S.take k)) = Q.filter (fun a => decide (¬ a.t ∈ S.take (k + 1))) := by
        refine List.filter_congr fun a _ => ?_
        rw [List.take_succ_eq_append_getElem hlt]
        simp only [List.mem_append, List.mem_singleton]
        by_cases e1 : a.t = S[k] <;> by_cases e2 : a.t ∈ S.take k <;> simp [e1, e2]
      rw [this] at hd
      exact hd
    · rw [a2, r1, r2, arOf_cat, ec]
    · rw [a3, r2, ec, List.length_append]
theorem filter_two {p q : Av → Bool} : ∀ (Q : List Av), Q.Pairwise (fun a b => a.t ≤ b.t) → (∀ a b, p a = true → q b = true → a.t < b.t) → Q.filter p ++ Q.filter q = Q.filter (fun a => p a || q a)
  | [], _, _ => rfl
  | a :: Q, hs, hpq => by
    obtain ⟨h1, h2⟩ := List.pairwise_cons.1 hs
    have ih := filter_two Q h2 hpq
    cases hp : p a with
    | true => simp only [List.filter_cons, hp, Bool.true_or, if_true]
              have hq : q a = false := by
                cases e : q a with
                | false => rfl
                | true => have := hpq a a hp e; omega
              rw [hq]
              simp only [Bool.false_eq_true, if_false, List.cons_append, ih]
    | false =>
      cases hq : q a with
      | false => simp only [List.filter_cons, hp, hq, Bool.or_self, Bool.false_eq_true, if_false, ih]
      | true =>
        have hn : Q.filter p = [] := List.filter_eq_nil_iff.2 fun b hb e => by
          have := hpq b a e hq
          have := h1 b hb
          omega
        rw [hn] at ih
        simp only [List.filter_cons, hp, hq, Bool.false_or, if_true, Bool.false_eq_true, if_false, hn, List.nil_append] at ih ⊢
        rw [← ih]
theorem catT_sorted {Q : List Av} (hQ : Q.Pairwise (fun a b => a.t ≤ b.t)) : ∀ (S : List Int), S.Pairwise (fun a b => a < b) → catT Q S = Q.filter (fun a => decide (a.t ∈ S))
  | [], _ => by simp [catT]
  | s :: S, hS => by
    obtain ⟨h1, h2⟩ := List.pairwise_cons.1 hS
    have ih := catT_sorted hQ S h2
    have e : catT Q (s :: S) = atT Q s ++ catT Q S := rfl
    rw [e, ih]
    unfold atT
    rw [filter_two Q hQ (fun a b h3 h4 => by simp at h3 h4; have := h1 _ h4; omega)]
    refine List.filter_congr fun a _ => ?_
    by_cases e1 : a.t = s <;> by_cases e2 : a.t ∈ S <;> simp [e1, e2]
theorem due_mem {W : Wy} {u t : Int} : t ∈ W.due u ↔ t ∈ W.ks ∧ t ≤ u := by
  unfold Wy.due
  rw [(sortI_perm _).mem_iff, List.mem_filter, decide_eq_true_eq]
theorem due_asc {W : Wy} (hd : W.ks.Nodup) (u : Int) : (W.due u).Pairwise (fun a b => a < b) := by
  have hn : (W.due u).Nodup := (sortI_perm _).symm.nodup (hd.filter _)
  refine ((sortI_pairwise _).and hn).imp ?_
  rintro a b ⟨h1, h2⟩
  omega
/-- What a Receive does to the queue. -/
theorem rep_recv {W : Wy} {Q : List Av} (h : Rep W Q) (u : Int) : Rep (W.dels (W.due u) (W.due u).length) (Q.filter (fun a => decide (u < a.t))) ∧ W.got (W.due u) (W.due u).length = arOf (catT Q (W.due u)) ∧ W.gn (W.due u) (W.due u).length = (catT Q (W.due u)).length := by
  have hn : (W.due u).Nodup := (sortI_perm _).symm.nodup (h.nd.filter _)
  obtain ⟨a1, a2, a3⟩ := rep_dels h (W.due u) hn (fun t ht => (due_mem.1 ht).1) _ (Nat.le_refl _)
  rw [List.take_length] at a1 a2 a3
  refine ⟨?_, a2, a3⟩
  have : Q.filter (fun a => decide (¬ a.t ∈ W.due u)) = Q.filter (fun a => decide (u < a.t)) := by
    refine List.filter_congr fun a ha => decide_eq_decide.2 ?_
    rw [due_mem, h.mem]
    exact ⟨fun x => Int.not_le.1 fun y => x ⟨⟨a, ha, rfl⟩, y⟩, fun x y => by omega⟩
  rwa [this] at a1
theorem recv_sorted {W : Wy} {Q : List Av} (h : Rep W Q) (hQ : Q.Pairwise (fun a b => a.t ≤ b.t)) (u : Int) : catT Q (W.due u) = Q.filter (fun a => decide (a.t ≤ u)) := by
  rw [catT_sorted hQ _ (due_asc h.nd u)]
  refine List.filter_congr fun a ha => decide_eq_decide.2 ?_
  rw [due_mem, h.mem]
  exact ⟨fun x => x.2, fun x => ⟨⟨a, ha, rfl⟩, x⟩⟩
theorem Rep.ok {W : Wy} {Q : List Av} (h : Rep W Q) (hq : Q.length ≤ 1000) : W.Ok := ⟨h.kl, h.nl, h.rl, by rw [h.sm]; omega⟩
theorem Rep.sum {W : Wy} {Q : List Av} (h : Rep W Q) (hq : Q.length ≤ 1000) : W.sum = Q.length := by rw [(h.ok hq).sum, h.sm]
theorem Rep.n_le {W : Wy} {Q : List Av} (h : Rep W Q) : W.n ≤ Q.length := by
  have key : ∀ (l : List Nat), (∀ x, x ∈ l → 1 ≤ x) → (l.length : Int) ≤ (l.map (fun (n : Nat) => (n : Int))).sum := by
    intro l
    induction l with
    | nil => intro _; simp
    | cons a l ih =>
      intro hx
      have h1 := hx a (by simp)
      have h2 := ih (fun x hxx => hx x (List.mem_cons_of_mem _ hxx))
      simp only [List.length_cons, List.map_cons, List.sum_cons]
      omega
  have := key W.ns (fun x hx => by
    obtain ⟨i, hi, e⟩ := List.getElem_of_mem hx
    obtain ⟨r1, r2⟩ := h.row i (by rw [← h.nl]; exact hi)
    rw [List.getD, List.getElem?_eq_getElem hi] at r2
    simp only [Option.getD_some] at r2
    rw [← e, r2]
    have hik : i < W.ks.length := by rw [h.kl, ← h.nl]; exact hi
    obtain ⟨a, ha, e2⟩ := (h.mem (W.ks.getD i 0)).1 (by rw [List.getD, List.getElem?_eq_getElem hik]; exact List.getElem_mem hik)
    exact List.length_pos_of_mem (atT_mem.2 ⟨ha, e2⟩))
  rw [h.sm, h.nl] at this
  omega
end Go.Proofs.Ytpconbdoackcfaa
