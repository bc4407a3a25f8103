/- Sorting of structs: the library's SortFunc as a contract of the layer, from what the kit proves of it. No program in sight. -/
import Derived.Test.YtkdjnmcaifejjaaGreatDoorYSort
import Derived.Shelf.SlSortCmp.WholeK
namespace Go.Sy
open Go.RowKit
set_option linter.unusedVariables false

section
variable {P : Program}

/-- What is asked of a sort by a function: it lays the elements of the row in order. -/
def SortsF {α : Type} [Inhabited α] (P : Program) (f g : FuncId) (enc : α → List Value) (k : Nat) (srt : List α → List α) : Prop :=
  ∀ (blk off cap : Nat) (ss : List α) (W : World), Go.Sort.HoldsK enc k W blk off ss.toArray → blk < W.heap.size → ss.length < 4611686018427387904 →
    Calls P f #[.slice (some ⟨blk, off, none⟩) ss.length cap, .func (.func g) #[] #[]] W fun e w' => e = .returned (.tuple #[]) ∧ ∃ m os, w' = Go.Proofs.sortWorldK enc k W blk off m (srt ss).toArray os

theorem upCols_nth : ∀ (l : List Col) (j : Nat), nth (upCols l) j = (nth l j).map BCol.sc
  | [], j => rfl
  | c :: l, 0 => rfl
  | c :: l, j + 1 => upCols_nth l j
theorem upCols_len : ∀ (l : List Col), (upCols l).length = l.length
  | [] => rfl
  | c :: l => by simp [upCols, upCols_len l]
theorem nth_some {α : Type} : ∀ {l : List α} {j : Nat}, j < l.length → ∃ c, nth l j = some c
  | [], j, h => by simp at h
  | c :: l, 0, h => ⟨c, rfl⟩
  | c :: l, j + 1, h => nth_some (l := l) (j := j) (by simpa using h)
theorem nth_lt' {α : Type} : ∀ {l : List α} {j : Nat} {c : α}, nth l j = some c → j < l.length
  | [], j, c, h => by simp [nth] at h
  | a :: l, 0, c, h => by simp
  | a :: l, j + 1, c, h => by
    have := nth_lt' (l := l) (j := j) h
    simp; omega

theorem fc_sortK {α : Type} [Inhabited α] {f gf : FuncId} {enc : α → List Value} {k : Nat} {srt : List α → List α} (mk : List α → List Col) (hs : SortsF P f gf enc k srt) (hbd : bodied P f) (hk0 : 0 < k) (hk : ∀ x, (enc x).length = k) (hml : ∀ l, (mk l).length = k) (hl : ∀ l j c, nth (mk l) j = some c → c.len = l.length)
    (hv : ∀ l i j c, i < l.length → nth (mk l) j = some c → c.val i = (enc (l.toArray[i]!))[j]!) (h1 : ∀ x, ∀ v ∈ enc x, v.oneCell' = true) (hp : ∀ l, (srt l).length = l.length)
    (n : Nat) (l : List α) (hn : n < 4611686018427387904) (hln : l.length = n) (hz : n = 0 → FC P 2 f [.sl 1 0 0 n, .fn gf []] [(1, some (.one false (.cols n (upCols (mk l)))))] (isOut (.tup []) [(1, some (.one false (.cols n (upCols (mk l)))))] 2)) :
    FC P 2 f [.sl 1 0 0 n, .fn gf []] [(1, some (.one false (.cols n (upCols (mk l)))))] (isOut (.tup []) [(1, some (.one false (.cols n (upCols (mk (srt l))))))] 2) := by
  by_cases h0 : n = 0
  · have hnil : l = [] := List.eq_nil_of_length_eq_zero (by omega)
    have hsn : srt l = l := by rw [hnil]; exact List.eq_nil_of_length_eq_zero (by rw [hp]; rfl)
    rw [hsn]
    exact hz h0
  clear hz
  refine Or.inl ⟨hbd, fun g w vals hg hu hH hvs => ?_⟩
  obtain ⟨v, vs', rfl, hv0, hv1⟩ := hvs
  obtain ⟨v2, vs2, rfl, hv2, hv3⟩ := hv1
  simp only [Rvs] at hv3
  subst hv3
  simp only [Rv] at hv2
  obtain ⟨cs, rfl, hcs⟩ := hv2
  have hcs0 : cs = #[] := by
    have : cs.toList = [] := by
      cases hc : cs.toList with
      | nil => rfl
      | cons a b => rw [hc] at hcs; simp [Rvs] at hcs
    exact Array.toList_inj.1 (by rw [this])
  subst hcs0
  obtain ⟨a, c, rfl, hnc, hc⟩ := rsv hv0
  have hE : Ent [(1, some (HB.one false (Blk.cols n (upCols (mk l)))))] 1 0 false (Blk.cols n (upCols (mk l))) := ⟨_, rfl, ⟨rfl, rfl⟩, rfl⟩
  obtain ⟨β, hgβ, hB⟩ := hH.blk 1 0 false _ hE
  have hes : β.es = k := by rw [hB.es]; simp [Blk.es, upCols_len, hml]
  have only : ∀ {b : Blk} {h q : Nat} {ro : Bool} {b' : Blk}, Ent [(1, some (HB.one false b))] h q ro b' → h = 1 ∧ q = 0 ∧ ro = false ∧ b' = b := by
    rintro b h q ro b' ⟨hb, e, hi, hr⟩
    rw [hget_cons] at e
    split at e
    · cases e
      rename_i e1
      exact ⟨e1.symm, hi.1, hr.symm, hi.2⟩
    · cases e
  obtain hc | ⟨β', hg', ha, hcap⟩ := hc
  · omega
  rw [hgβ] at hg'
  cases hg'
  have hcp : 0 < β.cap := by omega
  subst ha
  have ea : ∀ i j, β.addr i j = ⟨β.blk, β.off + (i * k + j), none⟩ := by intro i j; unfold Base.addr; rw [hes]; congr 1; omega
  have hHo : Go.Sort.HoldsK enc k w β.blk β.off l.toArray := by
    intro t ht
    have ht' : t < n * k := by rw [Go.Sort.size_flatK] at ht; simpa [hln] using ht
    have hi : t / k < n := (Nat.div_lt_iff_lt_mul hk0).2 ht'
    have hj : t % k < k := Nat.mod_lt _ hk0
    have et : t / k * k + t % k = t := by rw [Nat.mul_comm]; exact Nat.div_add_mod _ _
    obtain ⟨cc, hcc⟩ := nth_some (l := mk l) (j := t % k) (by rw [hml]; exact hj)
    obtain ⟨x, hx, hr⟩ := hB.cell (t / k) (t % k) (cc.at (t / k)) hi (by simp only [Blk.at, upCols_nth, hcc, Option.map_some]; rfl)
    rw [ea, et] at hx
    rw [Go.Sort.get_flatK _ _ _ _ (by simpa [hln] using ht')]
    refine ⟨?_, ?_⟩
    · rw [hx]
      have := hv l (t / k) (t % k) cc (by omega) hcc
      rw [id, ← this]
      have h2 := Col.at_ok g cc (t / k)
      revert hr h2
      cases cc <;> simp [Col.at, Col.val, Rv]
    · have := (hB.rw rfl (t / k) (t % k) (by have := hB.cap _ hi; omega) (by omega)).1
      rwa [ea, et] at this
  have hlt := hB.lt hcp
  have hca := hs β.blk β.off c l w hHo hlt (by omega)
  rw [hln] at hca
  have ea0 : β.addr 0 0 = ⟨β.blk, β.off, none⟩ := by rw [ea]; simp
  rw [ea0]
  refine hca.mono ?_
  rintro e w' ⟨rfl, m, os, rfl⟩
  have hss : (srt l).toArray.size = n := by simp [hp, hln]
  have hPs : (Go.Sort.putRowK enc k (Go.Sort.ahead w m) β.blk β.off (srt l).toArray).heap.size = w.heap.size := by rw [Go.Sort.size_putRowK]; rfl
  have hHo2 : Go.Sort.HoldsK enc k (Go.Proofs.sortWorldK enc k w β.blk β.off m (srt l).toArray os) β.blk β.off (srt l).toArray := by
    unfold Go.Proofs.sortWorldK
    exact Go.Sort.holdsK_grow enc k _ os _ _ _ (by rw [hPs]; exact hlt) (Go.Sort.holdsK_putRowK enc k _ _ _ l.toArray _ (Go.Sort.holdsK_ahead enc k w m _ _ _ hHo) (by simp [hp]))
  have cellP : ∀ i j, i < n → j < k → (Go.Proofs.sortWorldK enc k w β.blk β.off m (srt l).toArray os).cell? (β.addr i j) = some ((enc ((srt l).toArray[i]!))[j]!) := by
    intro i j hi hj
    have := (hHo2.cell (i := i) (c := j) (by rw [hss]; exact hi) hj).1
    rw [ea, ← Nat.add_assoc]; exact this
  have frz : ∀ a, a.block < w.heap.size → (Go.Proofs.sortWorldK enc k w β.blk β.off m (srt l).toArray os).frozen? a = w.frozen? a := by
    intro a ha
    unfold Go.Proofs.sortWorldK Go.Sort.putRowK
    rw [Go.Sort.frozen?_grow _ _ _ (by show a.block < (Go.Sort.putRowK enc k (Go.Sort.ahead w m) β.blk β.off (srt l).toArray).heap.size; rw [hPs]; exact ha), Go.Sort.frozen?_putRow]
    rfl
  have cellO : ∀ i j, n ≤ i → (Go.Proofs.sortWorldK enc k w β.blk β.off m (srt l).toArray os).cell? (β.addr i j) = w.cell? (β.addr i j) := by
    intro i j hi
    unfold Go.Proofs.sortWorldK Go.Sort.putRowK
    rw [ea, Go.Sort.cell?_grow _ _ _ (by show β.blk < (Go.Sort.putRowK enc k (Go.Sort.ahead w m) β.blk β.off (srt l).toArray).heap.size; rw [hPs]; exact hlt)]
    rw [Go.Sort.cell?_putRow_other _ _ _ _ _ _ (.inr (.inr (by
      rw [Go.Sort.size_flatK, hss]
      show β.off + n * k ≤ β.off + (i * k + j)
      have := Nat.mul_le_mul_right k hi
      omega)))]
    rfl
  refine ⟨_, rfl, _, _, _, g, ⟨rfl, rfl, rfl⟩, Nat.le_refl _, hu, fun _ _ _ => rfl, ?_, ⟨?_, ?_⟩, allRw_cons allRw_nil, ⟨rfl, rfl, rfl, ?_, ?_⟩, ?_⟩
  · simp only [Rv]; exact ⟨_, rfl, by simp [Rvs]⟩
  · intro h q ro b he
    obtain ⟨rfl, rfl, rfl, rfl⟩ := only he
    refine ⟨β, hgβ, ?_⟩
    refine ⟨fun _ => ?_, by rw [hes]; simp [Blk.es, upCols_len, hml], ?_, hB.cap, ?_, ?_, ?_, trivial⟩
    · unfold Go.Proofs.sortWorldK
      rw [Go.Sort.size_grow, hPs]; omega
    · intro c' hc'
      obtain ⟨j, hj⟩ := mem_nth hc'
      rw [upCols_nth] at hj
      cases hm : nth (mk (srt l)) j with
      | none => rw [hm] at hj; cases hj
      | some cc =>
        rw [hm] at hj
        simp only [Option.map_some, Option.some.injEq] at hj
        subst hj
        show cc.len = n
        rw [hl _ _ _ hm, hp, hln]
    · intro i j sv hi hj
      have hi' : i < n := hi
      simp only [Blk.at, upCols_nth] at hj
      cases hm : nth (mk (srt l)) j with
      | none => rw [hm] at hj; cases hj
      | some cc =>
        rw [hm] at hj
        simp only [Option.map_some, Option.some.injEq] at hj
        subst hj
        have hjk : j < k := by rw [← hml (srt l)]; exact nth_lt' hm
        refine ⟨_, cellP i j hi' hjk, ?_⟩
        rw [← hv (srt l) i j cc (by rw [hp]; omega) hm]
        exact Col.at_ok g cc i
    · intro i j v hi hj hx
      have hi' : i < n := hi
      have hjk : j < k := by omega
      rw [cellP i j hi' hjk] at hx
      cases hx
      generalize (srt l).toArray[i]! = a
      refine h1 a _ ?_
      rw [getElem!_pos (enc a) j (by rw [hk]; exact hjk)]
      exact List.getElem_mem _
    · intro _ i j hi hj
      have hx := hB.rw rfl i j hi hj
      refine ⟨?_, ?_⟩
      · rw [frz _ (by rw [ea]; exact hlt)]; exact hx.1
      · by_cases hi2 : i < n
        · exact ⟨_, cellP i j hi2 (by omega)⟩
        · rw [cellO i j (by omega)]; exact hx.2
  · intro h q h' q' b ro' b' β1 β2 hne he he' _ _ _ _
    obtain ⟨rfl, rfl, _, _⟩ := only he
    obtain ⟨rfl, rfl, _, _⟩ := only he'
    exact absurd ⟨rfl, rfl⟩ hne
  · unfold Go.Proofs.sortWorldK
    rw [Go.Sort.size_grow, hPs]; omega
  · intro x hx hW
    have hne : x ≠ β.blk := fun e => hW ⟨1, 0, _, β, hE, hgβ, hcp, e.symm⟩
    unfold Go.Proofs.sortWorldK Go.Sort.putRowK
    rw [Go.Sort.heap_grow_old _ _ (by show x < (Go.Sort.putRowK enc k (Go.Sort.ahead w m) β.blk β.off (srt l).toArray).heap.size; rw [hPs]; exact hx)]
    simp only [Go.Sort.putRow, Go.Sort.mapBlock, Array.getElem?_modify, if_neg (Ne.symm hne), Go.Sort.heap_ahead]
  · intro h q b β' he hg' hc'
    obtain ⟨rfl, rfl, _, _⟩ := only he
    rw [hgβ] at hg'
    cases hg'
    exact .inl ⟨1, 0, _, β, hE, hgβ, hc', rfl⟩
end
end Go.Sy
