/- Plain facts on accounts: keys without repetition, sums. No program in sight. -/
import Derived.Test.YthnmooholhellaaDoorAccA
namespace Go.Proofs.YthnmooholhellaaDoor
open Go.RowKit Go.Sy
set_option linter.unusedVariables false
set_option linter.unusedSimpArgs false

theorem sidx_le (l : List ByteArray) (s : ByteArray) : sidx l s ≤ l.length := by
  induction l with
  | nil => simp [sidx]
  | cons x l ih =>
    simp only [sidx, seq]
    by_cases h : x = s
    · rw [decide_eq_true h]; simp
    · rw [decide_eq_false h]; simp; exact ih
theorem sidx_lt {l : List ByteArray} {s : ByteArray} : sidx l s < l.length ↔ s ∈ l := by
  induction l with
  | nil => simp [sidx]
  | cons x l ih =>
    simp only [sidx, seq]
    by_cases h : x = s
    · rw [decide_eq_true h]; simp [h]
    · rw [decide_eq_false h]
      have : ¬ s = x := fun e => h e.symm
      simp [this, ih]
theorem sidx_get {l : List ByteArray} {s : ByteArray} (h : sidx l s < l.length) : l[sidx l s]? = some s := by
  induction l with
  | nil => simp [sidx] at h
  | cons x l ih =>
    simp only [sidx, seq] at h ⊢
    by_cases e : x = s
    · rw [decide_eq_true e]; simp [e]
    · rw [decide_eq_false e] at h ⊢
      simp only [cond_false, List.length_cons, List.getElem?_cons_succ] at h ⊢
      exact ih (by omega)
theorem sidx_of_get {l : List ByteArray} (hd : l.Nodup) {i : Nat} {s : ByteArray} (h : l[i]? = some s) : sidx l s = i := by
  have hi : i < l.length := (List.getElem?_eq_some_iff.1 h).1
  have hm : s ∈ l := List.mem_iff_getElem?.2 ⟨i, h⟩
  have h2 := sidx_get (sidx_lt.2 hm)
  have h3 := sidx_lt.2 hm
  obtain ⟨_, e1⟩ := List.getElem?_eq_some_iff.1 h
  obtain ⟨_, e2⟩ := List.getElem?_eq_some_iff.1 h2
  exact (List.getElem_inj hd).1 (e2.trans e1.symm)
theorem put_key {l : List ByteArray} {s : ByteArray} : putL (sidx l s) s l = if sidx l s < l.length then l else l ++ [s] := by
  unfold putL
  split
  · rename_i h
    have := sidx_get h
    refine List.ext_getElem? fun i => ?_
    rw [List.getElem?_set]
    by_cases e : sidx l s = i
    · subst e; rw [if_pos rfl, if_pos h, this]
    · rw [if_neg e]
  · rfl

/-- The keys have no repetition and are identifications, and there are not too many. -/
structure Acc.Ok (a : Acc) : Prop where
  k : a.ks.length = a.n
  v : a.vs.length = a.n
  nd : a.ks.Nodup
  id : ∀ s ∈ a.ks, idB s = true
  n64 : a.n ≤ 64
theorem Acc.Ok.sz {a : Acc} (h : a.Ok) : ∀ s ∈ a.ks, s.size ≤ 9223372036854775807 := fun s hs => Nat.le_trans (idB_size (h.id s hs)) (by decide)
theorem ok_mk0 (b l : Int) : (Acc.mk0 b l).Ok := ⟨rfl, rfl, List.nodup_nil, (fun s hs => by cases hs), by simp [Acc.mk0]⟩

theorem ok_put {a : Acc} (h : a.Ok) {id : ByteArray} (m : Int) (hi : sidx a.ks id < a.n ∨ (idB id = true ∧ a.n < 64)) : (a.put id m).Ok := by
  have hk := h.k
  have hv := h.v
  unfold Acc.put
  by_cases c : sidx a.ks id < a.n
  · have c1 : sidx a.ks id < a.ks.length := by omega
    have c2 : sidx a.ks id < a.vs.length := by omega
    rw [put_key, if_pos c1, if_pos c, if_pos c, if_pos c]
    unfold putL
    rw [if_pos c2]
    exact ⟨h.k, by simp [h.v], h.nd, h.id, h.n64⟩
  · have c1 : ¬ sidx a.ks id < a.ks.length := by omega
    have c2 : ¬ sidx a.ks id < a.vs.length := by omega
    obtain ⟨i1, i2⟩ := hi.resolve_left c
    rw [put_key, if_neg c1, if_neg c, if_neg c, if_neg c]
    unfold putL
    rw [if_neg c2]
    have hm : ¬ id ∈ a.ks := fun x => c1 (sidx_lt.2 x)
    refine ⟨by simp [h.k], by simp [h.v], ?_, ?_, i2⟩
    · rw [List.nodup_append]
      refine ⟨h.nd, by simp, ?_⟩
      intro x hx y hy e
      simp only [List.mem_singleton] at hy
      subst hy
      subst e
      exact hm hx
    · intro s hs
      rcases List.mem_append.1 hs with hs | hs
      · exact h.id s hs
      · simp only [List.mem_singleton] at hs; subst hs; exact i1
theorem ok_del {a : Acc} (h : a.Ok) (id : ByteArray) : (a.del id).Ok := by
  have hk := h.k
  have hv := h.v
  have hn := h.n64
  unfold Acc.del
  by_cases c : sidx a.ks id < a.n
  · have c1 : sidx a.ks id < a.ks.length := by omega
    have c2 : sidx a.ks id < a.vs.length := by omega
    rw [if_pos c]
    refine ⟨?_, ?_, h.nd.sublist (List.eraseIdx_sublist _ _), fun s hs => h.id s ((List.eraseIdx_sublist _ _).mem hs), ?_⟩
    · show (a.ks.eraseIdx _).length = a.n - 1; rw [List.length_eraseIdx_of_lt c1]; omega
    · show (a.vs.eraseIdx _).length = a.n - 1; rw [List.length_eraseIdx_of_lt c2]; omega
    · show a.n - 1 ≤ 64; omega
  · rw [if_neg c, List.eraseIdx_of_length_le (by omega), List.eraseIdx_of_length_le (by omega)]
    exact ⟨h.k, h.v, h.nd, h.id, h.n64⟩
theorem ok_set {a : Acc} (h : a.Ok) {id : ByteArray} (m : Int) (hi : sidx a.ks id < a.n ∨ (idB id = true ∧ a.n < 64)) : (a.set id m).Ok := by
  unfold Acc.set
  split
  · exact ok_del h id
  · exact ok_put h m hi
theorem newE_ok {a : Acc} {id : ByteArray} (h : a.newE id = 0) : idB id = true ∧ ¬ sidx a.ks id < a.n ∧ a.n < 64 := by
  unfold Acc.newE at h
  split at h
  · omega
  · split at h
    · omega
    · split at h
      · omega
      · rename_i h1 h2 h3
        exact ⟨by cases hb : idB id <;> simp_all, h2, by omega⟩
theorem ok_bal {a : Acc} (h : a.Ok) (b : Int) : ({ a with bal := b } : Acc).Ok := ⟨h.k, h.v, h.nd, h.id, h.n64⟩
theorem ok_up {a : Acc} (h : a.Ok) (id : ByteArray) (n l : Int) : (a.upA id n l).Ok := by
  unfold Acc.upA
  split
  · rename_i e
    refine ok_set h _ (.inr ?_)
    have : a.newE id = 0 := by
      unfold Acc.upE at e
      split at e
      · omega
      · split at e
        · exact e
        · omega
    obtain ⟨h1, _, h3⟩ := newE_ok this
    exact ⟨h1, h3⟩
  · exact h
theorem ok_fo {a : Acc} (h : a.Ok) (id : ByteArray) (n : Int) : (a.foA id n).Ok := by
  unfold Acc.foA
  split
  · rename_i e
    refine ok_set h _ ?_
    unfold Acc.foE at e
    split at e
    · omega
    · split at e
      · omega
      · split at e
        · omega
        · split at e
          · omega
          · rename_i h1 h2 h3 h4
            by_cases c : sidx a.ks id < a.n
            · exact .inl c
            · exact .inr ⟨by cases hb : idB id <;> simp_all, by omega⟩
  · exact h
theorem ok_ra {a : Acc} (h : a.Ok) (id : ByteArray) (n : Int) : (a.raA id n).Ok := by
  unfold Acc.raA
  split
  · rename_i e
    refine ok_set h _ (.inl ?_)
    unfold Acc.raE at e
    split at e
    · omega
    · split at e
      · omega
      · omega
  · exact h
theorem ok_re {a : Acc} (h : a.Ok) (id : ByteArray) (n : Int) : (a.reA id n).Ok := by
  unfold Acc.reA
  split
  · rename_i e
    refine ok_set h _ (.inl ?_)
    unfold Acc.reE at e
    split at e
    · omega
    · omega
  · exact h
theorem ok_ca {a : Acc} (h : a.Ok) (id : ByteArray) (m n : Int) : (a.caA id m n).Ok := by
  unfold Acc.caA
  split
  · rename_i e
    refine ok_bal (ok_set h _ (.inl ?_)) _
    unfold Acc.caE at e
    split at e
    · omega
    · omega
  · exact h
theorem ok_po {a : Acc} (h : a.Ok) (n : Int) : (a.poA n).Ok := by
  unfold Acc.poA
  split
  · exact ok_bal h _
  · exact h
theorem ok_op {a : Acc} (h : a.Ok) (k : Int) (id : ByteArray) (n o : Int) : (a.opA k id n o).Ok := by
  unfold Acc.opA
  repeat' split
  · exact ok_up h _ _ _
  · exact ok_up h _ _ _
  · exact ok_fo h _ _
  · exact ok_ra h _ _
  · exact ok_re h _ _
  · exact ok_ca h _ _ _
  · exact ok_po h _

theorem set_bal (a : Acc) (id : ByteArray) (m : Int) : (a.set id m).bal = a.bal ∧ (a.set id m).lim = a.lim := by
  unfold Acc.set Acc.del Acc.put
  split <;> exact ⟨rfl, rfl⟩
/-- A call: what becomes of the balance and the limit; an error changes nothing. -/
theorem op_bal (a : Acc) (k : Int) (id : ByteArray) (n o : Int) : (a.opA k id n o).lim = a.lim ∧ (a.opE k id n o ≠ 0 → a.opA k id n o = a) ∧ (a.opE k id n o = 0 → (a.opA k id n o).bal = if k = 5 then IntKind.i64.wrap (a.bal - o) else if k < 0 ∨ 5 < k then IntKind.i64.wrap (a.bal + n) else a.bal) ∧ (a.opE k id n o = 0 → k = 5 → 0 ≤ o ∧ o ≤ 999999999999) ∧ (a.opE k id n o = 0 → k < 0 ∨ 5 < k → -999999999999 ≤ n ∧ n ≤ 999999999999) := by
  unfold Acc.opA Acc.opE
  by_cases k0 : k = 0
  · simp only [if_pos k0]
    unfold Acc.upA
    refine ⟨?_, ?_, ?_, fun _ h => absurd h (by omega), fun _ h => absurd h (by omega)⟩
    · split; exact (set_bal _ _ _).2; rfl
    · intro h; rw [if_neg h]
    · intro h; rw [if_pos h, (set_bal _ _ _).1, if_neg (by omega), if_neg (by omega)]
  by_cases k1 : k = 1
  · simp only [if_neg k0, if_pos k1]
    unfold Acc.upA
    refine ⟨?_, ?_, ?_, fun _ h => absurd h (by omega), fun _ h => absurd h (by omega)⟩
    · split; exact (set_bal _ _ _).2; rfl
    · intro h; rw [if_neg h]
    · intro h; rw [if_pos h, (set_bal _ _ _).1, if_neg (by omega), if_neg (by omega)]
  by_cases k2 : k = 2
  · simp only [if_neg k0, if_neg k1, if_pos k2]
    unfold Acc.foA
    refine ⟨?_, ?_, ?_, fun _ h => absurd h (by omega), fun _ h => absurd h (by omega)⟩
    · split; exact (set_bal _ _ _).2; rfl
    · intro h; rw [if_neg h]
    · intro h; rw [if_pos h, (set_bal _ _ _).1, if_neg (by omega), if_neg (by omega)]
  by_cases k3 : k = 3
  · simp only [if_neg k0, if_neg k1, if_neg k2, if_pos k3]
    unfold Acc.raA
    refine ⟨?_, ?_, ?_, fun _ h => absurd h (by omega), fun _ h => absurd h (by omega)⟩
    · split; exact (set_bal _ _ _).2; rfl
    · intro h; rw [if_neg h]
    · intro h; rw [if_pos h, (set_bal _ _ _).1, if_neg (by omega), if_neg (by omega)]
  by_cases k4 : k = 4
  · simp only [if_neg k0, if_neg k1, if_neg k2, if_neg k3, if_pos k4]
    unfold Acc.reA
    refine ⟨?_, ?_, ?_, fun _ h => absurd h (by omega), fun _ h => absurd h (by omega)⟩
    · split; exact (set_bal _ _ _).2; rfl
    · intro h; rw [if_neg h]
    · intro h; rw [if_pos h, (set_bal _ _ _).1, if_neg (by omega), if_neg (by omega)]
  by_cases k5 : k = 5
  · simp only [if_neg k0, if_neg k1, if_neg k2, if_neg k3, if_neg k4, if_pos k5]
    unfold Acc.caA Acc.deb
    refine ⟨?_, ?_, ?_, ?_, fun _ h => absurd h (by omega)⟩
    · split; exact (set_bal _ _ _).2; rfl
    · intro h; rw [if_neg h]
    · intro h; rw [if_pos h]; show IntKind.i64.wrap ((a.set id _).bal - o) = _; rw [(set_bal _ _ _).1]
    · intro h _
      unfold Acc.caE at h
      split at h
      · omega
      · split at h
        · omega
        · omega
  · simp only [if_neg k0, if_neg k1, if_neg k2, if_neg k3, if_neg k4, if_neg k5]
    unfold Acc.poA
    refine ⟨?_, ?_, ?_, fun _ h => absurd h k5, ?_⟩
    · split <;> rfl
    · intro h; rw [if_neg h]
    · intro h; rw [if_pos h, if_pos (by omega)]
    · intro h _
      unfold Acc.poE at h
      split at h
      · omega
      · omega

/-- What is looked up at the keys is what is held. -/
theorem map_get {a : Acc} (h : a.Ok) : a.ks.map (fun s => a.get s) = a.vs := by
  refine List.ext_getElem (by simp [h.k, h.v]) ?_
  intro i h1 h2
  have hi : i < a.ks.length := by simpa using h1
  rw [List.getElem_map]
  show a.vs.getD (sidx a.ks a.ks[i]) 0 = _
  rw [sidx_of_get h.nd (List.getElem?_eq_getElem hi)]
  simp [List.getD, h2]
theorem sum_get {a : Acc} (h : a.Ok) : ((sortS a.ks).map (fun s => a.get s)).sum = a.vs.sum := by
  rw [← map_get h]
  exact perm_sum ((sortS_perm a.ks).map _)
end Go.Proofs.YthnmooholhellaaDoor
