/- Plain facts on texts in ascending order. No program in sight. -/
import Derived.Test.YtkmbnniikncaiaaYSort
import Derived.Sort.Walk0
namespace Go.Sy
open Go.RowKit

theorem ofB_toList (s : ByteArray) : s.toList = ofB s := by
  exact (by simpa using ByteArray.toList_eq s : s.toList = s.data.toList)
theorem strLt_eq (a b : ByteArray) : strLt a b = decide (ofB a < ofB b) := by
  unfold strLt
  rw [ofB_toList, ofB_toList, Go.Proofs.bytesLess_eq]
theorem ofB_inj {a b : ByteArray} (h : ofB a = ofB b) : a = b := by rw [← toB_ofB a, ← toB_ofB b, h]
theorem strLt_irrefl (a : ByteArray) : strLt a a = false := by rw [strLt_eq]; exact decide_eq_false (List.lt_irrefl _)
theorem strLt_asymm {a b : ByteArray} (h : strLt a b = true) : strLt b a = false := by
  rw [strLt_eq] at h ⊢
  exact decide_eq_false (List.lt_asymm (of_decide_eq_true h))
theorem strLt_trans {a b c : ByteArray} (h : strLt a b = true) (k : strLt b c = true) : strLt a c = true := by
  rw [strLt_eq] at *
  exact decide_eq_true (List.lt_trans (of_decide_eq_true h) (of_decide_eq_true k))
theorem strLt_total {a b : ByteArray} (h : strLt a b = false) (hne : a ≠ b) : strLt b a = true := by
  rw [strLt_eq] at *
  have h1 := of_decide_eq_false h
  have h2 : ofB b ≤ ofB a := List.not_lt.1 h1
  rcases List.le_iff_lt_or_eq.1 h2 with h3 | h3
  · exact decide_eq_true h3
  · exact absurd (ofB_inj h3.symm) hne
theorem sortS_congr {l m : List ByteArray} (h : l.Perm m) : sortS l = sortS m := by
  unfold sortS
  rw [mergeSort_of_perm (h.map ofB)]
theorem sortS_pairwise {l : List ByteArray} (hd : l.Nodup) : (sortS l).Pairwise (fun a b => strLt a b = true) := by
  have tr : ∀ a b c : List UInt8, leB a b = true → leB b c = true → leB a c = true := fun a b c h1 h2 => by simp only [leB, decide_eq_true_eq] at *; exact List.le_trans h1 h2
  have to : ∀ a b : List UInt8, (leB a b || leB b a) = true := fun a b => by simp only [leB, Bool.or_eq_true, decide_eq_true_eq]; exact List.le_total a b
  have h1 := List.pairwise_mergeSort tr to (l.map ofB)
  have hd2 : (sortS l).Nodup := (sortS_perm l).symm.nodup hd
  have h2 : (sortS l).Pairwise (fun a b => leB (ofB a) (ofB b) = true) := by
    unfold sortS
    rw [List.pairwise_map]
    exact h1
  refine (List.Pairwise.and h2 hd2).imp ?_
  rintro a b ⟨h3, h4⟩
  rw [strLt_eq]
  simp only [leB, decide_eq_true_eq] at h3
  rcases List.le_iff_lt_or_eq.1 h3 with h5 | h5
  · exact decide_eq_true h5
  · exact absurd (ofB_inj h5) h4
theorem sortS_lt {l : List ByteArray} (hd : l.Nodup) {i j : Nat} (hij : i < j) (hj : j < l.length) : strLt ((sortS l).getD i ⟨#[]⟩) ((sortS l).getD j ⟨#[]⟩) = true := by
  have hj' : j < (sortS l).length := by rw [sortS_length]; exact hj
  have := List.pairwise_iff_getElem.1 (sortS_pairwise hd) i j (by omega) hj' hij
  simpa [List.getD, hj', show i < (sortS l).length by omega] using this
/-- Texts in strictly ascending order are their own order. -/
theorem sortS_of {l m : List ByteArray} (hp : m.Perm l) (hm : m.Pairwise (fun a b => strLt a b = true)) : sortS l = m := by
  have hdm : m.Nodup := hm.imp (fun {a b} h e => by subst e; rw [strLt_irrefl] at h; cases h)
  refine List.Perm.eq_of_pairwise (le := fun a b => strLt a b = true) (fun a b _ _ h1 h2 => ?_) (sortS_pairwise (hp.nodup hdm)) hm ((sortS_perm l).trans hp.symm)
  rw [strLt_asymm h1] at h2; cases h2
end Go.Sy
