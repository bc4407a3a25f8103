/- The generator is right: operations that make or change memory, and calls. No program in sight. -/
import Derived.Test.YtllgfdogieohaaaSxSound3
namespace Go.Sx
open Go.RowKit

theorem aget_cons {α : Type} (k x : Nat) (v : α) (r : List (Nat × α)) : aget ((k, v) :: r) x = if k = x then some v else aget r x := by
  simp only [aget]
  by_cases h : k = x
  · subst h; simp
  · have : Nat.beq k x = false := by
      cases hb : Nat.beq k x with
      | true => exact absurd (Nat.eq_of_beq_eq_true hb) h
      | false => rfl
    simp [this, h]

section
variable {P : Program} {T : Tab} {g : G} {C : Ctx} {vs : VS} {a : Act} {w : World}

theorem getD_put_same {t : Array Value} {d : Nat} {v : Value} (h : d < t.size) : (t.setIfInBounds d v).getD d undef = v := by
  simp [Array.getD, h]
theorem getD_put_ne {t : Array Value} {d x : Nat} {v : Value} (h : d ≠ x) : (t.setIfInBounds d v).getD x undef = t.getD x undef := by
  simp only [Array.getD_eq_getD_getElem?, Array.getElem?_setIfInBounds_ne h]

theorem rel_put {e : Env} {H : Heap} {n d : Nat} {sv : SV} {v : Value} (h : Rel C g ⟨e, H, n⟩ a w) (hv : Rv g sv v) (hd : d < C.N) : Rel C g ⟨(d, sv) :: e, H, n⟩ (a.put (some d) v) w := by
  refine ⟨?_, ?_, h.defers, h.next, h.le, h.heap, h.fr, h.own⟩
  · intro t s ht
    rw [aget_cons] at ht
    have hs : d < a.tmps.size := by rw [h.size]; exact hd
    simp only [Act.put]
    split at ht
    · rename_i e; subst e; simp only [Option.some.injEq] at ht; subst ht
      rw [getD_put_same hs]; exact hv
    · rename_i hne
      rw [getD_put_ne hne]; exact h.env t s ht
  · simp only [Act.put, Array.size_setIfInBounds]; exact h.size

theorem rel_learn {e : Env} {H : Heap} {n d : Nat} {b : Bool} (h : Rel C g ⟨e, H, n⟩ a w) (hb : aget e d = some (.bool b)) : Rel C g ⟨(d, .bool b) :: e, H, n⟩ a w := by
  refine ⟨?_, h.size, h.defers, h.next, h.le, h.heap, h.fr, h.own⟩
  intro t s ht
  rw [aget_cons] at ht
  split at ht
  · rename_i e'; subst e'; simp only [Option.some.injEq] at ht; subst ht; exact h.env d _ hb
  · exact h.env t s ht

def G.add (g : G) (β : Base) : G := ⟨g.n + 1, fun h => if h = g.n then β else g.f h⟩
theorem G.le_add (g : G) (β : Base) : G.le g (g.add β) := ⟨Nat.le_succ _, fun h hh => by simp [G.add, Nat.ne_of_lt hh]⟩

theorem blkAt_mono {g' : G} {β : Base} {hb : HB} {w' : World} (h : BlkAt g β hb w) (hg : G.le g g') (hs : w.heap.size ≤ w'.heap.size) (hw : hb.live → w'.heap[β.blk]? = w.heap[β.blk]?) : BlkAt g' β hb w' := by
  refine ⟨fun hl => Nat.lt_of_lt_of_le (h.lt hl) hs, h.es, ?_, ?_⟩
  · intro i j sv hi hj
    obtain ⟨v, h1, h2⟩ := h.cell i j sv hi hj
    exact ⟨v, by rw [World.cell?_of_block (w := w) (a := β.addr i j) (hw (.inr (has_zero hi)))]; exact h1, Rv.mono hg _ _ h2⟩
  · intro hr o
    rw [World.frozen?_of_block (w := w) (a := ⟨β.blk, o, none⟩) (hw (.inl hr))]; exact h.rw hr o

theorem cells_blk {l : List SV} {cs : Array Value} {t : TypeId} (hl : Rvs g l cs.toList) (w : World) :
    BlkAt (g.add ⟨w.heap.size, 0, l.length⟩) ⟨w.heap.size, 0, l.length⟩ ⟨false, .cells l⟩ (w.alloc (.cells cs t)) := by
  refine ⟨fun _ => by simp, rfl, ?_, ?_⟩
  · intro i j sv hi hj
    simp only [Blk.has] at hi
    subst hi
    simp only [Blk.at] at hj
    obtain ⟨v, hv, rv⟩ := Rvs.nth l cs.toList j sv hl hj
    refine ⟨v, ?_, Rv.mono (G.le_add _ _) _ _ rv⟩
    have e : (⟨w.heap.size, 0, l.length⟩ : Base).addr 0 j = ⟨w.heap.size, j, none⟩ := by simp [Base.addr]
    rw [e, World.cell?_alloc_new]
    simpa using hv
  · intro _ o
    exact World.frozen?_alloc_new w cs t o

theorem rel_new {e : Env} {H : Heap} {n : Nat} {b : Blk} {o : Obj} {β : Base} (h : Rel C g ⟨e, H, n⟩ a w) (hβ : β.blk = w.heap.size)
    (hB : BlkAt (g.add β) β ⟨false, b⟩ (w.alloc o)) : Rel C (g.add β) ⟨e, (n, ⟨false, b⟩) :: H, n + 1⟩ a (w.alloc o) := by
  have hn : g.n = n := h.next
  have old : ∀ k hb, aget H k = some hb → BlkAt (g.add β) ((g.add β).f k) hb (w.alloc o) ∧ (g.add β).f k = g.f k ∧ k < g.n := by
    intro k hb hk
    obtain ⟨h1, h2⟩ := h.heap.blk k hb hk
    have e : (g.add β).f k = g.f k := (G.le_add g β).2 k h1
    exact ⟨by rw [e]; exact blkAt_mono h2 (G.le_add _ _) (by simp) (fun hl => Below.heap_alloc w o _ (h2.lt hl)), e, h1⟩
  have newf : (g.add β).f n = β := by simp [G.add, hn]
  refine ⟨fun t sv ht => Rv.mono (G.le_add _ _) _ _ (h.env t sv ht), h.size, h.defers, by simp [G.add, hn], h.le.trans (G.le_add _ _), ⟨?_, ?_⟩, ?_, ?_⟩
  · intro k hb hk
    rw [aget_cons] at hk
    split at hk
    · rename_i e'; subst e'; simp only [Option.some.injEq] at hk; subst hk
      exact ⟨by simp [G.add, hn], by rw [newf]; exact hB⟩
    · obtain ⟨h1, h2, h3⟩ := old k hb hk
      exact ⟨by simp only [G.add]; omega, h1⟩
  · intro k k' hb hb' hne hk hk' hro hlv
    rw [aget_cons] at hk hk'
    split at hk
    · rename_i e1; subst e1
      split at hk'
      · rename_i e2; exact absurd e2 hne
      · obtain ⟨_, h2, h3⟩ := old k' hb' hk'
        rw [newf, h2, hβ]
        have := (h.heap.blk k' hb' hk').2.lt hlv
        omega
    · obtain ⟨_, h2, h3⟩ := old k hb hk
      split at hk'
      · rename_i e2; subst e2
        rw [newf, h2, hβ]
        have := (h.heap.blk k hb hk).2.lt (.inl hro)
        omega
      · obtain ⟨_, h2', h3'⟩ := old k' hb' hk'
        rw [h2, h2']
        exact h.heap.sep k k' hb hb' hne hk hk' hro hlv
  · refine ⟨h.fr.os, h.fr.tape, h.fr.output, by simp only [World.size_alloc]; have := h.fr.size; omega, ?_⟩
    intro k hk hW
    rw [Below.heap_alloc w o k (Nat.lt_of_lt_of_le hk h.fr.size)]
    exact h.fr.block k hk hW
  · intro k hb hk hro
    rw [aget_cons] at hk
    split at hk
    · rename_i e'; subst e'
      right
      rw [newf, hβ]; exact h.fr.size
    · obtain ⟨_, h2, h3⟩ := old k hb hk
      rw [h2]; exact h.own k hb hk hro

/-- Cells of one block written, one after the other. -/
theorem storeCells_ok (P : Program) (b o : Nat) : ∀ (vals : List Value) (i : Nat) (w : World), (∀ v ∈ vals, v.oneCell' = true) → (∀ j, j < vals.length → ∃ u, w.cell? ⟨b, o + i + j, none⟩ = some u) → (∀ x, w.frozen? ⟨b, x, none⟩ = false) →
    ∃ w', (storeCells ⟨b, o, none⟩ vals i).run P w = .ok () w' ∧ w'.heap.size = w.heap.size ∧ w'.os = w.os ∧ w'.tape = w.tape ∧ w'.output = w.output ∧ (∀ k, k ≠ b → w'.heap[k]? = w.heap[k]?) ∧
      (∀ x, w'.frozen? ⟨b, x, none⟩ = false) ∧ (∀ x, w'.cell? ⟨b, x, none⟩ = if o + i ≤ x ∧ x < o + i + vals.length then vals[x - (o + i)]? else w.cell? ⟨b, x, none⟩)
  | [], i, w, _, _, hf => ⟨w, by simp [storeCells], rfl, rfl, rfl, rfl, fun _ _ => rfl, hf, fun x => by rw [if_neg (by simp only [List.length_nil]; omega)]⟩
  | v :: vals, i, w, hone, hc, hf => by
    obtain ⟨u, hu⟩ := hc 0 (by simp)
    simp only [Nat.add_zero] at hu
    have hadd : (⟨b, o, none⟩ : Addr).add i = ⟨b, o + i, none⟩ := by
      unfold Addr.add; split
      · rename_i h; subst h; rfl
      · rfl
    have hrun : (store ((⟨b, o, none⟩ : Addr).add i) v).run P w = .ok () (w.setCell ⟨b, o + i, none⟩ v) := by
      rw [run_store P w _ v _ (hone v (by simp)), hadd, hu, hf (o + i)]; simp
    have hblk : ∃ c t f, w.heap[b]? = some (.cells c t f) ∧ c[o + i]? = some u := by
      unfold World.cell? at hu
      split at hu
      · rename_i c t f hcs; exact ⟨c, t, f, hcs, by simpa using hu⟩
      · cases hu
    obtain ⟨c, t, f, hcs, hcu⟩ := hblk
    have hnew : (w.setCell ⟨b, o + i, none⟩ v).heap[b]? = some (.cells (c.setIfInBounds (o + i) v) t f) := by
      simp [World.setCell, Array.getElem?_modify, hcs]
    have hcell : ∀ x, (w.setCell ⟨b, o + i, none⟩ v).cell? ⟨b, x, none⟩ = if x = o + i then some v else w.cell? ⟨b, x, none⟩ := by
      intro x
      simp only [World.cell?, hnew, hcs]
      have hlt : o + i < c.size := by
        rcases Nat.lt_or_ge (o + i) c.size with h | h
        · exact h
        · rw [Array.getElem?_eq_none h] at hcu; cases hcu
      by_cases hx : x = o + i
      · subst hx; simp [hlt]
      · rw [if_neg hx]
        simp [Array.getElem?_setIfInBounds_ne (Ne.symm hx)]
    have hfz : ∀ x, (w.setCell ⟨b, o + i, none⟩ v).frozen? ⟨b, x, none⟩ = false := by
      intro x
      have := hf x
      simp only [World.frozen?, hnew, hcs] at this ⊢
      exact this
    obtain ⟨w', h1, h2, h3, h4, h5, h6, h7, h8⟩ := storeCells_ok P b o vals (i + 1) (w.setCell ⟨b, o + i, none⟩ v) (fun x hx => hone x (by simp [hx])) (by
      intro j hj
      rw [hcell]
      split
      · exact ⟨v, rfl⟩
      · obtain ⟨u', hu'⟩ := hc (j + 1) (by simpa using hj)
        exact ⟨u', by rw [show o + (i + 1) + j = o + i + (j + 1) from by omega]; exact hu'⟩) hfz
    refine ⟨w', ?_, ?_, ?_, ?_, ?_, ?_, h7, ?_⟩
    · simp only [storeCells, Sem.run_bind, hrun, Result.andThen_ok]; exact h1
    · rw [h2]; simp [World.setCell]
    · rw [h3]; rfl
    · rw [h4]; rfl
    · rw [h5]; rfl
    · intro k hk
      rw [h6 k hk]
      exact Below.heap_setCell w ⟨b, o + i, none⟩ v k hk
    · intro x
      rw [h8 x, hcell]
      by_cases h9 : x = o + i
      · subst h9
        rw [if_neg (by omega), if_pos rfl, if_pos (by simp)]
        simp
      · rw [if_neg h9]
        by_cases h10 : o + (i + 1) ≤ x ∧ x < o + (i + 1) + vals.length
        · rw [if_pos h10, if_pos (by simp; omega)]
          rw [show x - (o + i) = (x - (o + (i + 1))) + 1 from by omega]
          simp
        · rw [if_neg h10, if_neg (by simp; omega)]

theorem one_ok {s : SV} {v : Value} (h : s.one = true) (hv : Rv g s v) : v.oneCell' = true ∧ v.cells = #[v] := by
  cases s <;> simp [SV.one] at h <;> simp only [Rv] at hv
  case bool => subst hv; exact ⟨rfl, rfl⟩
  case int => subst hv; exact ⟨rfl, rfl⟩
  case str => subst hv; exact ⟨rfl, rfl⟩
  case ptr => obtain ⟨_, e⟩ := hv; subst e; exact ⟨rfl, rfl⟩
  case nptr => subst hv; exact ⟨rfl, rfl⟩
  case sl => obtain ⟨_, _, e, _⟩ := hv; subst e; exact ⟨rfl, rfl⟩
  case nsl => subst hv; exact ⟨rfl, rfl⟩

theorem allOne_ok : ∀ (m : List SV) (ms : List Value), allOne m = true → Rvs g m ms → ∀ v ∈ ms, v.oneCell' = true
  | [], ms, _, h => by simp only [Rvs] at h; subst h; simp
  | s :: m, ms, ho, h => by
    simp only [allOne, Bool.and_eq_true] at ho
    simp only [Rvs] at h
    obtain ⟨v, vs', e, h1, h2⟩ := h
    subst e
    intro x hx
    cases hx with
    | head => exact (one_ok ho.1 h1).1
    | tail _ hm => exact allOne_ok m vs' ho.2 h2 x hm

theorem setMany_nth {α : Type} : ∀ (m l : List α) (j x : Nat), j + m.length ≤ l.length → nth (setMany l j m) x = if j ≤ x ∧ x < j + m.length then nth m (x - j) else nth l x
  | [], l, j, x, _ => by simp only [setMany]; rw [if_neg (by simp only [List.length_nil]; omega)]
  | v :: m, l, j, x, h => by
    simp only [List.length_cons] at h
    have hs : nth (setNth l j v) x = if x = j then some v else nth l x := by
      have : ∀ (l : List α) (j x : Nat), j < l.length → nth (setNth l j v) x = if x = j then some v else nth l x := by
        intro l
        induction l with
        | nil => intro j x hj; simp at hj
        | cons y l ih =>
          intro j x hj
          cases j with
          | zero => cases x <;> simp [setNth, nth]
          | succ j => cases x with
            | zero => simp [setNth, nth]
            | succ x => simp only [setNth, nth]; rw [ih j x (by simpa using hj)]; simp
      exact this l j x (by omega)
    simp only [setMany]
    rw [setMany_nth m (setNth l j v) (j + 1) x (by rw [setNth_length]; omega), hs]
    by_cases h1 : x = j
    · subst h1
      rw [if_neg (by omega), if_pos rfl, if_pos (by simp)]
      simp [nth]
    · rw [if_neg h1]
      by_cases h2 : j + 1 ≤ x ∧ x < j + 1 + m.length
      · rw [if_pos h2, if_pos (by simp; omega), show x - j = (x - (j + 1)) + 1 from by omega]
        simp [nth]
      · rw [if_neg h2, if_neg (by simp; omega)]

/-- A store into a block of the state's own. -/
theorem rel_set {e : Env} {H : Heap} {n h j : Nat} {l m : List SV} {ms : List Value} (R : Rel C g ⟨e, H, n⟩ a w) (hH : aget H h = some ⟨false, .cells l⟩) (hm : Rvs g m ms) (ho : allOne m = true) (hj : j + m.length ≤ l.length) :
    ∃ w', (storeCells ((g.f h).addr 0 j) ms).run P w = .ok () w' ∧ Rel C g ⟨e, (h, ⟨false, .cells (setMany l j m)⟩) :: H, n⟩ a w' := by
  obtain ⟨hlt, hB⟩ := R.heap.blk h _ hH
  have hlen := Rvs.length _ _ hm
  have es : (g.f h).es = l.length := hB.es
  have eaddr : ∀ x, (g.f h).addr 0 x = ⟨(g.f h).blk, (g.f h).off + x, none⟩ := by intro x; simp [Base.addr]
  obtain ⟨w', h1, h2, h3, h4, h5, h6, h7, h8⟩ := storeCells_ok P (g.f h).blk ((g.f h).off + j) ms 0 w (allOne_ok m ms ho hm) (by
    intro x hx
    have hx' : j + x < l.length := by omega
    obtain ⟨v, hv, _⟩ := hB.cell 0 (j + x) l[j + x] rfl (by simp only [Blk.at]; rw [nth_eq]; simp [hx'])
    rw [eaddr] at hv
    exact ⟨v, by rw [show (g.f h).off + j + 0 + x = (g.f h).off + (j + x) from by omega]; exact hv⟩) (hB.rw rfl)
  refine ⟨w', by rw [eaddr]; exact h1, ?_⟩
  have hBnew : BlkAt g (g.f h) ⟨false, .cells (setMany l j m)⟩ w' := by
    refine ⟨fun _ => by rw [h2]; exact hB.lt (.inl rfl), by rw [es]; simp [Blk.es, setMany_length], ?_, fun _ => h7⟩
    intro i x sv hi hx
    simp only [Blk.has] at hi
    subst hi
    simp only [Blk.at] at hx
    rw [setMany_nth m l j x hj] at hx
    rw [eaddr, h8]
    split at hx
    · rename_i hc
      obtain ⟨v, hv, rv⟩ := Rvs.nth m ms (x - j) sv hm hx
      refine ⟨v, ?_, rv⟩
      rw [if_pos (by omega), show (g.f h).off + x - ((g.f h).off + j + 0) = x - j from by omega]
      exact hv
    · rename_i hc
      obtain ⟨v, hv, rv⟩ := hB.cell 0 x sv rfl (by simp only [Blk.at]; exact hx)
      refine ⟨v, ?_, rv⟩
      rw [if_neg (by omega)]
      rw [eaddr] at hv
      exact hv
  refine ⟨R.env, R.size, R.defers, R.next, R.le, ⟨?_, ?_⟩, ?_, ?_⟩
  · intro k hb hk
    rw [aget_cons] at hk
    split at hk
    · rename_i e'; subst e'; simp only [Option.some.injEq] at hk; subst hk; exact ⟨hlt, hBnew⟩
    · rename_i hne
      obtain ⟨k1, k2⟩ := R.heap.blk k hb hk
      refine ⟨k1, blkAt_mono k2 (G.le.refl _) (by omega) (fun hl => h6 _ ?_)⟩
      exact (R.heap.sep h k _ hb hne hH hk rfl hl).symm
  · intro k k' hb hb' hne hk hk' hro hlv
    rw [aget_cons] at hk hk'
    split at hk
    · rename_i e1; subst e1
      split at hk'
      · rename_i e2; exact absurd e2 hne
      · exact R.heap.sep h k' _ hb' hne hH hk' rfl hlv
    · split at hk'
      · rename_i e2; subst e2
        exact R.heap.sep k h hb _ hne hk hH hro (.inl rfl)
      · exact R.heap.sep k k' hb hb' hne hk hk' hro hlv
  · refine ⟨by rw [h3]; exact R.fr.os, by rw [h4]; exact R.fr.tape, by rw [h5]; exact R.fr.output, by rw [h2]; exact R.fr.size, ?_⟩
    intro k hk hW
    rw [h6 k ?_]
    · exact R.fr.block k hk hW
    · intro e
      rcases R.own h _ hH rfl with ho | ho
      · exact hW (e ▸ ho)
      · rw [← e] at ho; omega
  · intro k hb hk hro
    rw [aget_cons] at hk
    split at hk
    · rename_i e'; subst e'; exact R.own h _ hH rfl
    · exact R.own k hb hk hro
end
end Go.Sx
