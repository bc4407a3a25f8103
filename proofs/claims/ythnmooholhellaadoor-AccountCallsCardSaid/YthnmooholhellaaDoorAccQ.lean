/- The reference's account as a function of the plain account: what putting a hold does to ascending lists. No program in sight. -/
import Derived.Test.YthnmooholhellaaDoorAccP
import Derived.Test.YthnmooholhellaaDoorSortP
namespace Go.Proofs.YthnmooholhellaaDoor
open Go.RowKit Go.Sy
set_option linter.unusedVariables false
set_option linter.unusedSimpArgs false

def pI (id : ByteArray) : Bool → List ByteArray → List ByteArray
  | d, [] => if d = true then [] else [id]
  | d, x :: r => (if d = false ∧ strLt id x = true then [id] else []) ++ ((if x = id then [] else [x]) ++ pI id (d || strLt id x) r)
def pV (id : ByteArray) (m : Int) : Bool → List ByteArray → List Int → List Int
  | d, x :: r, v :: w => (if d = false ∧ strLt id x = true then [m] else []) ++ ((if x = id then [] else [v]) ++ pV id m (d || strLt id x) r w)
  | d, _, _ => if d = true then [] else [m]

theorem mem_pI {id x : ByteArray} : ∀ {l : List ByteArray} {d : Bool}, x ∈ pI id d l ↔ (x ∈ l ∧ x ≠ id) ∨ (d = false ∧ x = id)
  | [], d => by cases d <;> simp [pI]
  | y :: r, d => by
    have ih := @mem_pI id x r (d || strLt id y)
    simp only [pI, List.mem_append, ih]
    by_cases e : x = id
    · subst e
      have h1 : ¬ x ∈ (if y = x then [] else [y]) := by
        split
        · simp
        · rename_i h; simp; exact fun e => h e.symm
      cases d <;> cases hs : strLt x y <;> simp [h1]
    · have h1 : ¬ x ∈ (if d = false ∧ strLt id y = true then [id] else []) := by split <;> simp [e]
      have h2 : x ∈ (if y = id then [] else [y]) ↔ x = y := by
        split
        · rename_i h; subst h; simp [e]
        · simp
      simp [h1, h2, e]
theorem pV_map (id : ByteArray) (m : Int) (g : ByteArray → Int) : ∀ (l : List ByteArray) (d : Bool), pV id m d l (l.map g) = (pI id d l).map (fun s => if s = id then m else g s)
  | [], d => by cases d <;> simp [pV, pI]
  | x :: r, d => by
    have ih := pV_map id m g r (d || strLt id x)
    simp only [pV, pI, List.map_cons, ih, List.map_append]
    congr 1
    · split <;> simp
    · congr 1
      split
      · rfl
      · rename_i h; simp [h]
theorem pI_pairwise {id : ByteArray} : ∀ {l : List ByteArray} {d : Bool}, l.Pairwise (fun a b => strLt a b = true) → (pI id d l).Pairwise (fun a b => strLt a b = true)
  | [], d, _ => by cases d <;> simp [pI]
  | x :: r, d, h => by
    obtain ⟨h1, h2⟩ := List.pairwise_cons.1 h
    have ih := @pI_pairwise id r (d || strLt id x) h2
    simp only [pI]
    have A : ((if x = id then [] else [x]) ++ pI id (d || strLt id x) r).Pairwise (fun a b => strLt a b = true) := by
      split
      · exact ih
      · rename_i hx
        refine List.pairwise_cons.2 ⟨fun y hy => ?_, ih⟩
        rcases mem_pI.1 hy with ⟨hy, _⟩ | ⟨hd, rfl⟩
        · exact h1 y hy
        · have : strLt y x = false := by cases d <;> simp_all
          exact strLt_total this (fun e => hx e.symm)
    by_cases c : d = false ∧ strLt id x = true
    · rw [if_pos c]
      refine List.pairwise_cons.2 ⟨fun y hy => ?_, A⟩
      have hy : y ∈ (if x = id then [] else [x]) ++ pI id (d || strLt id x) r := hy
      rcases List.mem_append.1 hy with hy | hy
      · split at hy
        · cases hy
        · simp only [List.mem_singleton] at hy; subst hy; exact c.2
      · rcases mem_pI.1 hy with ⟨hy, _⟩ | ⟨hd, _⟩
        · exact strLt_trans c.2 (h1 y hy)
        · rw [c.2] at hd; simp at hd
    · rw [if_neg c]; exact A

theorem getD_sidx_none {a : Acc} (h : a.Ok) {s : ByteArray} (hs : ¬ s ∈ a.ks) : a.get s = 0 := by
  have h1 : ¬ sidx a.ks s < a.ks.length := fun x => hs (sidx_lt.1 x)
  show a.vs.getD (sidx a.ks s) 0 = 0
  have := h.k
  have := h.v
  rw [List.getD, List.getElem?_eq_none (by omega)]; rfl
theorem mem_erase_sidx {l : List ByteArray} (hd : l.Nodup) {id x : ByteArray} : x ∈ l.eraseIdx (sidx l id) ↔ x ∈ l ∧ x ≠ id := by
  induction l with
  | nil => simp [sidx]
  | cons y l ih =>
    obtain ⟨h1, h2⟩ := List.nodup_cons.1 hd
    simp only [sidx, seq]
    by_cases e : y = id
    · rw [decide_eq_true e]
      subst e
      simp only [cond_true, List.eraseIdx_cons_zero, List.mem_cons]
      exact ⟨fun h => ⟨.inr h, fun e => h1 (e ▸ h)⟩, fun h => h.1.resolve_left h.2⟩
    · rw [decide_eq_false e]
      simp only [cond_false, List.eraseIdx_cons_succ, List.mem_cons, ih h2]
      constructor
      · rintro (h | h)
        · exact ⟨.inl h, fun e2 => e (h ▸ e2)⟩
        · exact ⟨.inr h.1, h.2⟩
      · rintro ⟨h | h, h3⟩
        · exact .inl h
        · exact .inr ⟨h, h3⟩
theorem mem_set {a : Acc} (h : a.Ok) {id x : ByteArray} {m : Int} : x ∈ (a.set id m).ks ↔ (x ∈ a.ks ∧ x ≠ id) ∨ (m ≠ 0 ∧ x = id) := by
  unfold Acc.set
  by_cases hm : m = 0
  · rw [if_pos hm]
    unfold Acc.del
    show x ∈ a.ks.eraseIdx _ ↔ _
    rw [mem_erase_sidx h.nd]
    simp [hm]
  · rw [if_neg hm]
    unfold Acc.put
    show x ∈ putL _ _ _ ↔ _
    rw [put_key]
    by_cases hx : sidx a.ks id < a.ks.length
    · rw [if_pos hx]
      have := sidx_lt.1 hx
      by_cases e : x = id
      · subst e; simp [this, hm]
      · simp [e]
    · rw [if_neg hx]
      by_cases e : x = id
      · subst e; simp [hm]
      · simp [e]
theorem nd_set {a : Acc} (h : a.Ok) {id : ByteArray} {m : Int} : (a.set id m).ks.Nodup := by
  unfold Acc.set
  split
  · exact h.nd.sublist (List.eraseIdx_sublist _ _)
  · unfold Acc.put
    show (putL _ _ _).Nodup
    rw [put_key]
    split
    · exact h.nd
    · rename_i hx
      rw [List.nodup_append]
      refine ⟨h.nd, by simp, ?_⟩
      intro x hx2 y hy e
      simp only [List.mem_singleton] at hy
      subst hy; subst e; exact hx (sidx_lt.2 hx2)
theorem sort_set {a : Acc} (h : a.Ok) {id : ByteArray} {m : Int} : pI id (decide (m = 0)) (sortS a.ks) = sortS (a.set id m).ks := by
  refine (sortS_of ?_ (pI_pairwise (sortS_pairwise h.nd))).symm
  have nd : (pI id (decide (m = 0)) (sortS a.ks)).Nodup := (pI_pairwise (sortS_pairwise h.nd)).imp (fun {a b} h e => by subst e; rw [strLt_irrefl] at h; cases h)
  refine (List.perm_ext_iff_of_nodup nd (nd_set h)).2 fun x => ?_
  rw [mem_pI, mem_set h, (sortS_perm a.ks).mem_iff]
  simp
theorem erase_get {l : List ByteArray} {vs : List Int} (hl : l.length = vs.length) {id s : ByteArray} (hne : s ≠ id) : (vs.eraseIdx (sidx l id)).getD (sidx (l.eraseIdx (sidx l id)) s) 0 = vs.getD (sidx l s) 0 := by
  induction l generalizing vs with
  | nil => cases vs with | nil => rfl | cons _ _ => simp at hl
  | cons y l ih =>
    cases vs with
    | nil => simp at hl
    | cons v vs =>
      simp only [sidx, seq]
      by_cases e : y = id
      · subst e
        rw [decide_eq_true rfl, decide_eq_false (fun e => hne e.symm)]
        rfl
      · rw [decide_eq_false e]
        simp only [cond_false, List.eraseIdx_cons_succ, sidx, seq]
        by_cases e2 : y = s
        · rw [decide_eq_true e2]; rfl
        · rw [decide_eq_false e2]
          simp only [cond_false, List.getD_cons_succ]
          exact ih (by simpa using hl)
theorem sidx_append {l : List ByteArray} {id s : ByteArray} (hs : s ∈ l) : sidx (l ++ [id]) s = sidx l s := by
  induction l with
  | nil => cases hs
  | cons y l ih =>
    simp only [List.cons_append, sidx, seq]
    by_cases e : y = s
    · rw [decide_eq_true e]; rfl
    · rw [decide_eq_false e]
      rcases List.mem_cons.1 hs with h | h
      · exact absurd h.symm e
      · simp only [cond_false, ih h]
theorem get_set {a : Acc} (h : a.Ok) {id s : ByteArray} {m : Int} (hs : s ∈ (a.set id m).ks) : (a.set id m).get s = if s = id then m else a.get s := by
  have hk := h.k
  have hv := h.v
  have hm0 := (mem_set h).1 hs
  unfold Acc.set at hs ⊢
  by_cases hm : m = 0
  · rw [if_pos hm] at hs ⊢
    have hne : s ≠ id := by rcases hm0 with h | h; exact h.2; exact absurd hm h.1
    rw [if_neg hne]
    exact erase_get (by omega) hne
  · rw [if_neg hm] at hs ⊢
    unfold Acc.put at hs ⊢
    show (putL _ _ _).getD (sidx (putL _ _ _) s) 0 = _
    rw [put_key]
    by_cases hx : sidx a.ks id < a.ks.length
    · rw [if_pos hx]
      unfold putL
      rw [if_pos (by omega)]
      by_cases e : s = id
      · subst e
        rw [if_pos rfl, List.getD, List.getElem?_set, if_pos rfl, if_pos (by omega)]; rfl
      · rw [if_neg e, List.getD, List.getElem?_set]
        have : sidx a.ks id ≠ sidx a.ks s := by
          intro he
          have hsm : s ∈ a.ks := by rcases hm0 with h | h; exact h.1; exact absurd h.2 e
          have g1 := sidx_get (sidx_lt.2 hsm)
          have g2 := sidx_get hx
          rw [he] at g2
          rw [g1] at g2
          exact e (by injection g2)
        rw [if_neg this]; rfl
    · rw [if_neg hx]
      have hns : ¬ id ∈ a.ks := fun hh => hx (sidx_lt.2 hh)
      unfold putL
      have hle := sidx_le a.ks id
      have he : sidx a.ks id = a.ks.length := by omega
      rw [if_neg (by omega)]
      by_cases e : s = id
      · subst e
        rw [if_pos rfl]
        have : sidx (a.ks ++ [s]) s = a.ks.length := by
          refine sidx_of_get ?_ (by simp)
          rw [List.nodup_append]
          refine ⟨h.nd, by simp, ?_⟩
          intro x hx2 y hy e
          simp only [List.mem_singleton] at hy
          subst hy; subst e; exact hns hx2
        rw [this, hk, ← hv]; simp [List.getD]
      · have hsm : s ∈ a.ks := by rcases hm0 with h | h; exact h.1; exact absurd h.2 e
        rw [if_neg e, sidx_append hsm]
        have : sidx a.ks s < a.vs.length := by have := sidx_lt.2 hsm; omega
        rw [List.getD, List.getElem?_append_left this]; rfl
/-- The amounts in the order of their identifications. -/
def Acc.am (a : Acc) : List Int := (sortS a.ks).map (fun s => a.get s)
theorem am_set {a : Acc} (h : a.Ok) {id : ByteArray} {m : Int} : pV id m (decide (m = 0)) (sortS a.ks) a.am = (a.set id m).am := by
  unfold Acc.am
  rw [pV_map, sort_set h]
  refine List.map_congr_left fun s hs => ?_
  exact (get_set h ((sortS_perm _).mem_iff.1 hs)).symm
theorem am_length {a : Acc} (h : a.Ok) : a.am.length = a.n := by unfold Acc.am; rw [List.length_map, sortS_length, h.k]
theorem am_sum {a : Acc} (h : a.Ok) : a.am.sum = a.vs.sum := sum_get h
theorem sort_ix {a : Acc} (h : a.Ok) (id : ByteArray) : sidx (sortS a.ks) id < a.n ↔ sidx a.ks id < a.n := by
  have h1 := @sidx_lt (sortS a.ks) id
  rw [sortS_length, h.k] at h1
  have h2 := @sidx_lt a.ks id
  rw [h.k] at h2
  rw [h1, h2, (sortS_perm a.ks).mem_iff]
theorem am_get {a : Acc} (h : a.Ok) {id : ByteArray} (hi : sidx a.ks id < a.n) : a.am.getD (sidx (sortS a.ks) id) 0 = a.get id := by
  have h1 := (sort_ix h id).2 hi
  have h2 := sidx_get (l := sortS a.ks) (s := id) (by rw [sortS_length, h.k]; exact h1)
  unfold Acc.am
  rw [List.getD, List.getElem?_map, h2]; rfl
theorem set_n {a : Acc} (h : a.Ok) {id : ByteArray} {m : Int} : (a.set id m).ks.length = (a.set id m).n := by
  have hk := h.k
  unfold Acc.set
  split
  · unfold Acc.del
    show (a.ks.eraseIdx (sidx a.ks id)).length = if sidx a.ks id < a.n then a.n - 1 else a.n
    rw [List.length_eraseIdx]
    split <;> split <;> omega
  · unfold Acc.put
    show (putL (sidx a.ks id) id a.ks).length = if sidx a.ks id < a.n then a.n else a.n + 1
    rw [put_key]
    split <;> split <;> (try simp) <;> omega
end Go.Proofs.YthnmooholhellaaDoor
