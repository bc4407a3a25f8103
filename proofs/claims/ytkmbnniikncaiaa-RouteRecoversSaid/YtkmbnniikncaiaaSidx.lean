/- Plain facts on the first place of a text in a list. No program in sight. -/
import Derived.Test.YtkmbnniikncaiaaYLib
namespace Go.Sy
open Go.RowKit

theorem sidx_le (l : List ByteArray) (s : ByteArray) : sidx l s ≤ l.length := by
  induction l with
  | nil => simp [sidx]
  | cons x l ih =>
    simp only [sidx, seq]
    by_cases h : x = s
    · rw [decide_eq_true h]; simp
    · rw [decide_eq_false h]; simp; exact ih
theorem sidx_lt {l : List ByteArray} {s : ByteArray} : sidx l s < l.length ↔ s ∈ l := by
  induction l with
  | nil => simp [sidx]
  | cons x l ih =>
    simp only [sidx, seq]
    by_cases h : x = s
    · rw [decide_eq_true h]; simp [h]
    · rw [decide_eq_false h]
      have : ¬ s = x := fun e => h e.symm
      simp [this, ih]
theorem sidx_get {l : List ByteArray} {s : ByteArray} (h : sidx l s < l.length) : l[sidx l s]? = some s := by
  induction l with
  | nil => simp [sidx] at h
  | cons x l ih =>
    simp only [sidx, seq] at h ⊢
    by_cases e : x = s
    · rw [decide_eq_true e]; simp [e]
    · rw [decide_eq_false e] at h ⊢
      simp only [cond_false, List.length_cons, List.getElem?_cons_succ] at h ⊢
      exact ih (by omega)
theorem sidx_of_get {l : List ByteArray} (hd : l.Nodup) {i : Nat} {s : ByteArray} (h : l[i]? = some s) : sidx l s = i := by
  have hi : i < l.length := (List.getElem?_eq_some_iff.1 h).1
  have hm : s ∈ l := List.mem_iff_getElem?.2 ⟨i, h⟩
  have h2 := sidx_get (sidx_lt.2 hm)
  have h3 := sidx_lt.2 hm
  obtain ⟨_, e1⟩ := List.getElem?_eq_some_iff.1 h
  obtain ⟨_, e2⟩ := List.getElem?_eq_some_iff.1 h2
  exact (List.getElem_inj hd).1 (e2.trans e1.symm)
theorem put_key {l : List ByteArray} {s : ByteArray} : putL (sidx l s) s l = if sidx l s < l.length then l else l ++ [s] := by
  unfold putL
  split
  · rename_i h
    have := sidx_get h
    refine List.ext_getElem? fun i => ?_
    rw [List.getElem?_set]
    by_cases e : sidx l s = i
    · subst e; rw [if_pos rfl, if_pos h, this]
    · rw [if_neg e]
  · rfl

end Go.Sy
