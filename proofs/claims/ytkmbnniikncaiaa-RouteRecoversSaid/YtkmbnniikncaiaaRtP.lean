/- Plain facts on routes: the partners of an issuer and their places, the next one that is not down. No program in sight. -/
import Derived.Test.YtkmbnniikncaiaaRtC7
namespace Go.Proofs.Ytkmbnniikncaiaa
open Go.RowKit Go.Sy
set_option linter.unusedVariables false
set_option linter.unusedSimpArgs false

theorem seq_iff {x y : ByteArray} : seq x y = true ↔ x = y := by simp [seq]
theorem paN_step_yes {bi : List ByteArray} {a : ByteArray} {k : Nat} (h : bi.getD k ⟨#[]⟩ = a) : paN bi a (k + 1) = paN bi a k + 1 := by
  simp only [paN]; rw [if_pos (seq_iff.2 h)]
theorem paN_step_no {bi : List ByteArray} {a : ByteArray} {k : Nat} (h : ¬ bi.getD k ⟨#[]⟩ = a) : paN bi a (k + 1) = paN bi a k := by
  simp only [paN]; rw [if_neg (fun e => h (seq_iff.1 e))]
theorem paN_mono (bi : List ByteArray) (a : ByteArray) {j : Nat} : ∀ {k : Nat}, j ≤ k → paN bi a j ≤ paN bi a k
  | 0, h => by have : j = 0 := by omega
               subst this; exact Nat.le_refl _
  | k + 1, h => by
    by_cases e : j = k + 1
    · subst e; exact Nat.le_refl _
    · have := paN_mono bi a (j := j) (k := k) (by omega)
      by_cases h2 : bi.getD k ⟨#[]⟩ = a
      · rw [paN_step_yes h2]; omega
      · rw [paN_step_no h2]; omega
theorem paN_lt {bi : List ByteArray} {a : ByteArray} {j k : Nat} (h : j < k) (hj : bi.getD j ⟨#[]⟩ = a) : paN bi a j < paN bi a k := by
  have := paN_mono bi a (j := j + 1) (k := k) (by omega)
  rw [paN_step_yes hj] at this
  omega
theorem paL_len (bi bp : List ByteArray) (a : ByteArray) : ∀ k, (paL bi bp a k).length = paN bi a k
  | 0 => rfl
  | k + 1 => by
    have := paL_len bi bp a k
    simp only [paL, paN]
    split
    · simp [this]
    · exact this
theorem paL_get {bi bp : List ByteArray} {a : ByteArray} {j : Nat} (hj : bi.getD j ⟨#[]⟩ = a) : ∀ k, j < k → (paL bi bp a k).getD (paN bi a j) ⟨#[]⟩ = bp.getD j ⟨#[]⟩
  | 0, h => by omega
  | k + 1, h => by
    simp only [paL]
    by_cases e : j = k
    · subst e
      rw [if_pos (seq_iff.2 hj)]
      have := paL_len bi bp a j
      simp [List.getD, this]
    · have ih := paL_get (bp := bp) hj k (by omega)
      have hlt := paN_lt (k := k) (by omega) hj
      rw [← paL_len bi bp a k] at hlt
      split
      · simp only [List.getD] at *
        rw [List.getElem?_append_left hlt]; exact ih
      · exact ih
theorem paN_inv {bi : List ByteArray} {a : ByteArray} {i : Nat} : ∀ {k : Nat}, i < paN bi a k → ∃ j, j < k ∧ bi.getD j ⟨#[]⟩ = a ∧ paN bi a j = i
  | 0, h => by simp [paN] at h
  | k + 1, h => by
    by_cases h2 : bi.getD k ⟨#[]⟩ = a
    · rw [paN_step_yes h2] at h
      by_cases e : i = paN bi a k
      · exact ⟨k, by omega, h2, e.symm⟩
      · obtain ⟨j, a1, a2, a3⟩ := paN_inv (k := k) (show i < paN bi a k by omega)
        exact ⟨j, by omega, a2, a3⟩
    · rw [paN_step_no h2] at h
      obtain ⟨j, a1, a2, a3⟩ := paN_inv (k := k) h
      exact ⟨j, by omega, a2, a3⟩
theorem fsX_spec (r : Rt) (l : List ByteArray) (i : Nat) : ∀ n, (fsX r l i n = -1 ∧ ∀ t, t < n → r.dn (l.getD (t + i) ⟨#[]⟩) = true) ∨ (∃ t : Nat, fsX r l i n = (t : Int) ∧ t < n ∧ r.dn (l.getD (t + i) ⟨#[]⟩) = false ∧ ∀ t', t' < t → r.dn (l.getD (t' + i) ⟨#[]⟩) = true)
  | 0 => .inl ⟨rfl, fun t h => by omega⟩
  | n + 1 => by
    simp only [fsX]
    rcases fsX_spec r l i n with ⟨h1, h2⟩ | ⟨t, h1, h2, h3, h4⟩
    · rw [h1, if_neg (by omega)]
      cases hd : r.dn (l.getD (n + i) ⟨#[]⟩) with
      | false => rw [if_pos rfl]; exact .inr ⟨n, rfl, by omega, hd, h2⟩
      | true =>
        rw [if_neg (by decide)]
        refine .inl ⟨rfl, fun t ht => ?_⟩
        by_cases e : t = n
        · subst e; exact hd
        · exact h2 t (by omega)
    · rw [h1, if_pos (by omega)]
      exact .inr ⟨t, rfl, by omega, h3, h4⟩
/-- Whether a backup may answer for an issuer now. -/
def upB (r : Rt) (a : ByteArray) (j : Nat) : Prop := r.bi.getD j ⟨#[]⟩ = a ∧ r.dn (r.bp.getD j ⟨#[]⟩) = false
theorem fs_next (r : Rt) (a : ByteArray) {b : Nat} (hb : b ≤ r.m) : (fsM r a (paN r.bi a b) = 3 ∧ fsP r a (paN r.bi a b) = ⟨#[]⟩ ∧ ∀ j, b ≤ j → j < r.m → ¬ upB r a j) ∨ (∃ j, b ≤ j ∧ j < r.m ∧ upB r a j ∧ fsP r a (paN r.bi a b) = r.bp.getD j ⟨#[]⟩ ∧ fsM r a (paN r.bi a b) = 2 ∧ ∀ j', b ≤ j' → j' < j → ¬ upB r a j') := by
  unfold fsM fsP
  rcases fsX_spec r (paL r.bi r.bp a r.m) (paN r.bi a b) (paN r.bi a r.m - paN r.bi a b) with ⟨h1, h2⟩ | ⟨t, h1, h2, h3, h4⟩
  · rw [h1, if_neg (by decide), if_neg (by decide)]
    refine .inl ⟨rfl, rfl, fun j h3 h4 h5 => ?_⟩
    have hlt := paN_lt h4 h5.1
    have hge := paN_mono r.bi a h3
    have := h2 (paN r.bi a j - paN r.bi a b) (by omega)
    rw [show paN r.bi a j - paN r.bi a b + paN r.bi a b = paN r.bi a j by omega, paL_get h5.1 _ h4, h5.2] at this
    cases this
  · rw [h1, if_pos (by omega), if_pos (by omega), Int.toNat_natCast]
    obtain ⟨j, e1, e2, e3⟩ := paN_inv (show t + paN r.bi a b < paN r.bi a r.m by omega)
    have hbj : b ≤ j := by
      refine Classical.byContradiction fun h => ?_
      have := paN_lt (show j < b by omega) e2
      omega
    rw [← e3, paL_get e2 _ e1] at h3 ⊢
    refine .inr ⟨j, hbj, e1, ⟨e2, h3⟩, rfl, rfl, fun j' g1 g2 g3 => ?_⟩
    have k1 := paN_lt g2 g3.1
    have k2 := paN_mono r.bi a g1
    have := h4 (paN r.bi a j' - paN r.bi a b) (by omega)
    rw [show paN r.bi a j' - paN r.bi a b + paN r.bi a b = paN r.bi a j' by omega, paL_get g3.1 _ (by omega), g3.2] at this
    cases this
theorem stX_none {l : List ByteArray} {x : ByteArray} : ∀ {n : Nat}, (∀ k, k < n → l.getD k ⟨#[]⟩ ≠ x) → stX l x n = -1
  | 0, _ => rfl
  | n + 1, h => by
    simp only [stX]
    rw [stX_none (n := n) (fun k hk => h k (by omega)), if_neg (by decide), if_neg (fun e => h n (by omega) (seq_iff.1 e).symm)]
theorem bkX_find {bi bp : List ByteArray} {x y : ByteArray} {k n : Nat} (hk : k < n) (h1 : x = bi.getD k ⟨#[]⟩) (h2 : y = bp.getD k ⟨#[]⟩) : 0 ≤ bkX bi bp x y n := by
  induction n with
  | zero => omega
  | succ n ih =>
    simp only [bkX]
    by_cases e : k = n
    · subst e
      split
      · assumption
      · rw [if_pos (by rw [seq_iff.2 h1, seq_iff.2 h2]; rfl)]; omega
    · rw [if_pos (ih (by omega))]; exact ih (by omega)
/-- No backup is there twice. -/
def bkU (m : Nat) (bi bp : List ByteArray) : Prop := ∀ k, k < m → ¬ 0 ≤ bkX bi bp (bi.getD k ⟨#[]⟩) (bp.getD k ⟨#[]⟩) k
theorem st_place {m : Nat} {bi bp : List ByteArray} (hu : bkU m bi bp) {a : ByteArray} {j : Nat} (hj : j < m) (ha : bi.getD j ⟨#[]⟩ = a) : stX (paL bi bp a m) (bp.getD j ⟨#[]⟩) (paN bi a m) = (paN bi a j : Int) := by
  refine stX_stop (stX_none fun i hi e => ?_) ?_ _ (paN_lt hj ha)
  · obtain ⟨j', g1, g2, g3⟩ := paN_inv hi
    have hlt : j' < j := by
      refine Classical.byContradiction fun h => ?_
      have := paN_mono bi a (show j ≤ j' by omega)
      omega
    rw [← g3, paL_get g2 _ (by omega)] at e
    exact hu j hj (bkX_find hlt (by rw [ha, g2]) e.symm)
  · rw [paL_get ha _ hj]; exact seq_iff.2 rfl
theorem isX_find {L : Rg} {a : ByteArray} {k n : Nat} (hk : k < n) (h1 : L.s k = a) : 0 ≤ isX L a n := by
  induction n with
  | zero => omega
  | succ n ih =>
    simp only [isX]
    by_cases e : k = n
    · subst e
      split
      · assumption
      · rw [if_pos (seq_iff.2 h1)]; omega
    · rw [if_pos (ih (by omega))]; exact ih (by omega)
end Go.Proofs.Ytkmbnniikncaiaa
