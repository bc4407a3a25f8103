/- What is handed in, as the generator of conditions wants it: scalars, structs of scalars, slices of these. No program in sight. -/
import Derived.Test.YtllgfdogieohaaaSxSound6
import Derived.Deep.Slices
import Derived.OpenShut
import Derived.ChangeOld
namespace Go.Sx
open Go.RowKit Go.ChangeShapes Go.WideShapes Go.Deep

/-- The kinds of cells. -/
inductive CK where
  | int (k : IntKind)
  | bool
  | str

def CellOk : CK → Value → Prop
  | .int k, v => ∃ n, v = .int k n ∧ (Lit.int k n).wf = true
  | .bool, v => ∃ b, v = .bool b
  | .str, v => ∃ s, v = .string s ∧ s.size ≤ maxLen

def AllOk : List CK → List Value → Prop
  | [], vs => vs = []
  | c :: cs, vs => ∃ v r, vs = v :: r ∧ CellOk c v ∧ AllOk cs r

theorem AllOk.length : ∀ (ks : List CK) (vs : List Value), AllOk ks vs → vs.length = ks.length
  | [], vs, h => by simp only [AllOk] at h; simp [h]
  | c :: cs, vs, h => by simp only [AllOk] at h; obtain ⟨v, r, rfl, _, h⟩ := h; simp [AllOk.length cs r h]

theorem AllOk.append : ∀ (a b : List CK) (vs : List Value), AllOk a (vs.take a.length) → AllOk b (vs.drop a.length) → AllOk (a ++ b) vs
  | [], b, vs, _, h => by simpa using h
  | c :: a, b, vs, h1, h2 => by
    cases vs with
    | nil => simp only [List.length_cons, List.take_nil, AllOk] at h1; obtain ⟨v, r, e, _⟩ := h1; cases e
    | cons v vs =>
      simp only [List.length_cons, List.take_succ_cons, AllOk] at h1
      obtain ⟨v', r, e, hc, hr⟩ := h1
      simp only [List.cons.injEq] at e
      obtain ⟨rfl, rfl⟩ := e
      simp only [List.cons_append, AllOk]
      exact ⟨v, vs, rfl, hc, AllOk.append a b vs hr (by simpa using h2)⟩

mutual
/-- The cells of a type, where all of them are scalars. -/
def flatK (P : Program) : Nat → TypeId → Option (List CK)
  | 0, _ => none
  | n + 1, t => match P.underlying t with
    | some .bool => some [.bool]
    | some (.int k) => some [.int k]
    | some .string => some [.str]
    | some (.struct fs) => match flatFs P n 0 fs.toList with
      | some ks => bif Nat.beq (P.cellsOf t) ks.length then some ks else none
      | none => none
    | _ => none
def flatFs (P : Program) : Nat → Nat → List Field → Option (List CK)
  | 0, _, _ => none
  | _ + 1, _, [] => some []
  | n + 1, o, f :: r => bif Nat.beq f.offset o then (match flatK P n f.type with
    | some a => bif Nat.beq (P.cellsOf f.type) a.length then (match flatFs P n (o + a.length) r with | some b => some (a ++ b) | none => none) else none
    | none => none) else none
end

section
variable {H : Type} {enc : TypeId × Value → H} {P : Program} {w : World} {base : Nat} {spare : Nat → Bool} {held : Bool}

theorem trod_flat_both : ∀ m : Nat, (∀ (t : TypeId) (ks : List CK) (fuel : Nat) (cs : List Value) (x : DataW H × List MemPlace), flatK P m t = some ks → DataW.trod enc P w base spare held fuel t cs = some x → AllOk ks cs) ∧
    (∀ (o : Nat) (fs : List Field) (ks : List CK) (cs : List Value) (n : Nat), flatFs P m o fs = some ks → cs.length = o + ks.length → (∀ f ∈ fs, ∃ y, DataW.trod enc P w base spare held n f.type ((cs.drop f.offset).take (P.cellsOf f.type)) = some y) → AllOk ks (cs.drop o)) := by
  intro m
  induction m with
  | zero => exact ⟨fun t ks fuel cs x h => by simp [flatK] at h, fun o fs ks cs n h => by simp [flatFs] at h⟩
  | succ m ih =>
    refine ⟨?_, ?_⟩
    · intro t ks fuel cs x h ht
      simp only [flatK] at h
      split at h
      · rename_i hu; simp only [Option.some.injEq] at h; subst h
        obtain ⟨b, rfl, _⟩ := DataW.trod_bool hu ht
        simp only [AllOk, CellOk]; exact ⟨_, _, rfl, ⟨b, rfl⟩, rfl⟩
      · rename_i k hu; simp only [Option.some.injEq] at h; subst h
        obtain ⟨n, rfl, _, hw⟩ := DataW.trod_int hu ht
        simp only [AllOk, CellOk]; exact ⟨_, _, rfl, ⟨n, rfl, hw⟩, rfl⟩
      · rename_i hu; simp only [Option.some.injEq] at h; subst h
        obtain ⟨s, rfl, _, hw⟩ := DataW.trod_string hu ht
        simp only [AllOk, CellOk]; exact ⟨_, _, rfl, ⟨s, rfl, hw⟩, rfl⟩
      · rename_i fs hu
        split at h
        · rename_i ks' hks
          cases hb : Nat.beq (P.cellsOf t) ks'.length with
          | false => rw [hb] at h; simp at h
          | true =>
            rw [hb] at h
            simp only [cond_true, Option.some.injEq] at h
            subst h
            obtain ⟨xs, n, _, _, hlen, hxl, hf⟩ := DataW.trod_struct hu ht
            have := ih.2 0 fs.toList ks' cs n hks (by rw [hlen, Nat.eq_of_beq_eq_true hb]; simp) (by
              intro f hf'
              obtain ⟨i, hi, rfl⟩ := List.getElem_of_mem hf'
              have hi' : i < fs.size := by simpa using hi
              have h1 := hf i fs[i] (by simp [hi'])
              have h2 : xs[i]? = some (xs[i]'(by omega)) := List.getElem?_eq_getElem (by omega)
              refine ⟨xs[i]'(by omega), ?_⟩
              have : fs.toList[i] = fs[i] := by simp
              rw [this, h1, h2])
            simpa using this
        · cases h
      · cases h
    · intro o fs ks cs n h hlen hall
      cases fs with
      | nil =>
        simp only [flatFs, Option.some.injEq] at h
        subst h
        simp only [AllOk]
        exact List.drop_eq_nil_of_le (by simp at hlen; omega)
      | cons f r =>
        simp only [flatFs] at h
        cases ho : Nat.beq f.offset o with
        | false => rw [ho] at h; simp at h
        | true =>
          rw [ho] at h
          simp only [cond_true] at h
          split at h
          · rename_i a ha
            cases hb : Nat.beq (P.cellsOf f.type) a.length with
            | false => rw [hb] at h; simp at h
            | true =>
              rw [hb] at h
              simp only [cond_true] at h
              split at h
              · rename_i b hbb
                simp only [Option.some.injEq] at h
                subst h
                have eo := Nat.eq_of_beq_eq_true ho
                have ea := Nat.eq_of_beq_eq_true hb
                obtain ⟨y, hy⟩ := hall f (by simp)
                have h1 := ih.1 f.type a n _ y ha hy
                rw [eo, ea] at h1
                refine AllOk.append a b (cs.drop o) h1 ?_
                rw [List.drop_drop]
                exact ih.2 (o + a.length) r b cs n hbb (by simp at hlen; omega) (fun f' hf' => hall f' (by simp [hf']))
              · cases h
          · cases h

theorem trod_flat {m : Nat} {t : TypeId} {ks : List CK} {fuel : Nat} {cs : List Value} {x : DataW H × List MemPlace} (h : flatK P m t = some ks) (ht : DataW.trod enc P w base spare held fuel t cs = some x) : AllOk ks cs := (trod_flat_both m).1 t ks fuel cs x h ht

def intOf' : Value → Int | .int _ n => n | _ => 0
def strOf' : Value → ByteArray | .string s => s | _ => ⟨#[]⟩
def boolOf' : Value → Bool | .bool b => b | _ => false

def ColOk : CK → Col → Nat → Prop
  | .int k, c, n => ∃ l, c = .ints k l ∧ l.length = n ∧ ∀ x ∈ l, (Lit.int k x).wf = true
  | .bool, c, n => ∃ l, c = .bools l ∧ l.length = n
  | .str, c, n => ∃ l, c = .strs l ∧ l.length = n ∧ ∀ x ∈ l, x.size ≤ maxLen

def ColsOk : List CK → List Col → Nat → Prop
  | [], l, _ => l = []
  | c :: cs, l, n => ∃ x r, l = x :: r ∧ ColOk c x n ∧ ColsOk cs r n

/-- Columns out of a table of values. -/
def colOf (n : Nat) (v : Nat → Value) : CK → Col
  | .int k => .ints k ((List.range n).map fun i => intOf' (v i))
  | .bool => .bools ((List.range n).map fun i => boolOf' (v i))
  | .str => .strs ((List.range n).map fun i => strOf' (v i))

def colsOf (n : Nat) (v : Nat → Nat → Value) : Nat → List CK → List Col
  | _, [] => []
  | j, c :: cs => colOf n (fun i => v i j) c :: colsOf n v (j + 1) cs

theorem getD_map_range {α : Type} (n : Nat) (f : Nat → α) (d : α) (i : Nat) (h : i < n) : ((List.range n).map f).getD i d = f i := by
  simp [List.getD, h]

theorem colOf_at {n : Nat} {v : Nat → Value} {c : CK} {g : G} {i : Nat} (hi : i < n) (h : CellOk c (v i)) : Rv g ((colOf n v c).at i) (v i) := by
  cases c with
  | int k => obtain ⟨m, e, _⟩ := h; simp only [colOf, Col.at, getD_map_range n _ _ i hi, e, intOf', Rv]
  | bool => obtain ⟨b, e⟩ := h; simp only [colOf, Col.at, getD_map_range n _ _ i hi, e, boolOf', Rv]
  | str => obtain ⟨s, e, _⟩ := h; simp only [colOf, Col.at, getD_map_range n _ _ i hi, e, strOf', Rv]

theorem colsOf_nth (n : Nat) (v : Nat → Nat → Value) : ∀ (cs : List CK) (j k : Nat), nth (colsOf n v j cs) k = (nth cs k).map (fun c => colOf n (fun i => v i (j + k)) c)
  | [], j, k => by simp [colsOf, nth]
  | c :: cs, j, 0 => by simp [colsOf, nth]
  | c :: cs, j, k + 1 => by
    simp only [colsOf, nth]
    rw [colsOf_nth n v cs (j + 1) k, show j + 1 + k = j + (k + 1) from by omega]

theorem colsOf_length (n : Nat) (v : Nat → Nat → Value) : ∀ (cs : List CK) (j : Nat), (colsOf n v j cs).length = cs.length
  | [], j => rfl
  | c :: cs, j => by simp [colsOf, colsOf_length n v cs (j + 1)]

theorem colsOf_ok (n : Nat) (v : Nat → Nat → Value) : ∀ (cs : List CK) (j : Nat), (∀ i, i < n → ∀ k c, nth cs k = some c → CellOk c (v i (j + k))) → ColsOk cs (colsOf n v j cs) n
  | [], j, _ => by simp [colsOf, ColsOk]
  | c :: cs, j, h => by
    simp only [colsOf, ColsOk]
    refine ⟨_, _, rfl, ?_, colsOf_ok n v cs (j + 1) (fun i hi k c' hc => by rw [show j + 1 + k = j + (k + 1) from by omega]; exact h i hi (k + 1) c' hc)⟩
    have h0 : ∀ i, i < n → CellOk c (v i j) := fun i hi => h i hi 0 c rfl
    cases c with
    | int k =>
      refine ⟨_, rfl, by simp, ?_⟩
      intro x hx
      simp only [List.mem_map, List.mem_range] at hx
      obtain ⟨i, hi, rfl⟩ := hx
      obtain ⟨m, e, hw⟩ := h0 i hi
      rw [e]; exact hw
    | bool => exact ⟨_, rfl, by simp⟩
    | str =>
      refine ⟨_, rfl, by simp, ?_⟩
      intro x hx
      simp only [List.mem_map, List.mem_range] at hx
      obtain ⟨i, hi, rfl⟩ := hx
      obtain ⟨m, e, hw⟩ := h0 i hi
      rw [e]; exact hw

theorem AllOk.nth : ∀ (ks : List CK) (vs : List Value) (j : Nat) (c : CK), AllOk ks vs → Sx.nth ks j = some c → ∃ v, vs[j]? = some v ∧ CellOk c v
  | [], vs, j, c, _, h => by simp [Sx.nth] at h
  | k :: ks, vs, j, c, h, hj => by
    simp only [AllOk] at h
    obtain ⟨v, r, rfl, h1, h2⟩ := h
    cases j with
    | zero => simp [Sx.nth] at hj; subst hj; exact ⟨v, by simp, h1⟩
    | succ j => simp only [Sx.nth] at hj; obtain ⟨u, h3, h4⟩ := AllOk.nth ks r j c h2 hj; exact ⟨u, by simpa using h3, h4⟩

/-- A SLICE THAT IS HANDED IN: at its place lie its elements, column by column. -/
theorem slice_in {t e : TypeId} {m fuel : Nat} {v : Value} {ks : List CK} {x : DataW H × List MemPlace} (ht : P.underlying t = some (.slice e)) (hk : flatK P m e = some ks) (hlen : P.cellsOf e = ks.length) (h0 : 0 < ks.length)
    (h : DataW.trod enc P w base (fun _ => true) held fuel t [v] = some x) :
    ∃ (n c : Nat) (β : Base) (cols : List Col), n ≤ c ∧ c ≤ maxLen ∧ ColsOk ks cols n ∧ (∀ (g : G) (h : Nat), h < g.n → g.f h = β → Rv g (.sl h 0 n c) v) ∧ (∀ g : G, BlkAt g β ⟨true, .cols n cols⟩ w) := by
  rcases open_slice ht h with ⟨hv, _⟩ | ⟨a, len, cap, mm, nn, D, Pl, hv, _, hl, hm, hmm, hx, hi⟩
  · simp only [List.cons.injEq, and_true] at hv
    subst hv
    refine ⟨0, 0, ⟨0, 0, ks.length⟩, colsOf 0 (fun _ _ => undef) 0 ks, Nat.le_refl _, Nat.zero_le _, colsOf_ok _ _ _ _ (fun i hi => absurd hi (Nat.not_lt_zero _)), ?_, ?_⟩
    · intro g h hh _
      simp only [Rv]
      exact ⟨hh, none, rfl, by simp⟩
    · intro g
      refine ⟨?_, by simp [Blk.es, colsOf_length], ?_, ?_⟩
      · rintro (h | h)
        · cases h
        · simp [Blk.has] at h
      · intro i j sv hi
        simp [Blk.has] at hi
      · intro h; cases h
  · simp only [List.cons.injEq, and_true] at hv
    subst hv
    simp only [if_true] at hmm
    subst hmm
    have cell : ∀ i, i < mm → ∀ j c, nth ks j = some c → ∃ u, w.cell? (a.add (i * ks.length + j)) = some u ∧ CellOk c u := by
      intro i him j c hj
      obtain ⟨cs', hc, ht'⟩ := hi i him
      have hall := trod_flat hk ht'
      obtain ⟨u, hu, hok⟩ := AllOk.nth ks cs' j c hall hj
      rw [hlen] at hc
      obtain ⟨_, hcl, hat⟩ := World.cells?_some hc
      have hjl : j < ks.length := by
        rcases Nat.lt_or_ge j ks.length with h | h
        · exact h
        · rw [nth_eq, List.getElem?_eq_none h] at hj; cases hj
      refine ⟨u, ?_, hok⟩
      rw [← Go.Deep.add_add, hat j hjl]
      exact hu
    by_cases hz : mm = 0
    · subst hz
      have hl0 : len = 0 := by omega
      subst hl0
      refine ⟨0, 0, ⟨0, 0, ks.length⟩, colsOf 0 (fun _ _ => undef) 0 ks, Nat.le_refl _, Nat.zero_le _, colsOf_ok _ _ _ _ (fun i hi => absurd hi (Nat.not_lt_zero _)), ?_, ?_⟩
      · intro g h hh _
        simp only [Rv]
        exact ⟨hh, some a, rfl, by simp⟩
      · intro g
        refine ⟨?_, by simp [Blk.es, colsOf_length], ?_, ?_⟩
        · rintro (h | h)
          · cases h
          · simp [Blk.has] at h
        · intro i j sv hi
          simp [Blk.has] at hi
        · intro h; cases h
    · have hc0 : ∃ c0, nth ks 0 = some c0 := by
        cases ks with
        | nil => simp at h0
        | cons c r => exact ⟨c, rfl⟩
      obtain ⟨c0, hc0⟩ := hc0
      obtain ⟨u0, hu0, _⟩ := cell 0 (by omega) 0 c0 hc0
      simp only [Nat.zero_mul, Nat.add_zero] at hu0
      have ha0 : a.add 0 = a := by simp [Addr.add]
      rw [ha0] at hu0
      have hspot : a.spot = none := by
        unfold World.cell? at hu0
        split at hu0
        · split at hu0
          · cases hu0
          · rename_i hs; simpa using hs
        · cases hu0
      have hblk : a.block < w.heap.size := by
        unfold World.cell? at hu0
        split at hu0
        · rename_i hh; exact (Array.getElem?_eq_some_iff.1 hh).1
        · cases hu0
      let β : Base := ⟨a.block, a.off, ks.length⟩
      have haddr : ∀ i j, a.add (i * ks.length + j) = β.addr i j := by
        intro i j
        obtain ⟨b, o, s⟩ := a
        simp only at hspot
        subst hspot
        unfold Addr.add Base.addr
        split
        · rename_i h; simp only [β]; congr 1; omega
        · simp only [β]; congr 1; omega
      let val : Nat → Nat → Value := fun i j => (w.cell? (β.addr i j)).getD undef
      refine ⟨len, mm, β, colsOf len val 0 ks, hl, hm, ?_, ?_, ?_⟩
      · refine colsOf_ok len val ks 0 (fun i hi' k c hc => ?_)
        obtain ⟨u, hu, hok⟩ := cell i (by omega) k c hc
        rw [haddr] at hu
        simp only [val, Nat.zero_add, hu, Option.getD_some]; exact hok
      · intro g h hh hg
        simp only [Rv]
        refine ⟨hh, some a, rfl, .inr ?_⟩
        rw [hg]
        have := haddr 0 0
        simp only [Nat.zero_mul, Nat.add_zero, ha0] at this
        rw [this]
      · intro g
        refine ⟨fun _ => hblk, by simp [Blk.es, colsOf_length, β], ?_, fun h => by cases h⟩
        intro i j sv hi' hj
        simp only [Blk.has] at hi'
        simp only [Blk.at] at hj
        rw [colsOf_nth] at hj
        cases hc : nth ks j with
        | none => rw [hc] at hj; simp at hj
        | some c =>
          rw [hc] at hj
          simp only [Option.map_some, Option.some.injEq, Nat.zero_add] at hj
          subst hj
          obtain ⟨u, hu, hok⟩ := cell i (by omega) j c hc
          rw [haddr] at hu
          have hval : val i j = u := by simp only [val, hu, Option.getD_some]
          refine ⟨u, hu, ?_⟩
          rw [← hval]
          exact colOf_at (v := fun i => val i j) hi' (by rw [hval]; exact hok)

theorem holds_ro {g : G} {w : World} : ∀ (Hp : Heap), (∀ p ∈ Hp, p.1 < g.n ∧ p.2.ro = true ∧ BlkAt g (g.f p.1) p.2 w) → Holds g Hp w := by
  intro Hp hall
  have mem : ∀ (l : Heap) (h : Nat) (hb : HB), aget l h = some hb → (h, hb) ∈ l := by
    intro l
    induction l with
    | nil => intro h hb e; simp [aget] at e
    | cons p l ih =>
      intro h hb e
      obtain ⟨k, x⟩ := p
      rw [aget_cons] at e
      split at e
      · rename_i e'; subst e'; simp only [Option.some.injEq] at e; subst e; simp
      · simp [ih h hb e]
  refine ⟨fun h hb hh => ?_, fun h h' hb hb' _ hh _ hro => ?_⟩
  · obtain ⟨h1, _, h3⟩ := hall _ (mem Hp h hb hh); exact ⟨h1, h3⟩
  · obtain ⟨_, h2, _⟩ := hall _ (mem Hp h hb hh); simp only at h2; rw [h2] at hro; cases hro

theorem ro_all : ∀ (Hp : Heap), (∀ p ∈ Hp, p.2.ro = true) → ∀ h hb, aget Hp h = some hb → hb.ro = true := by
  intro Hp
  induction Hp with
  | nil => intro _ h hb e; simp [aget] at e
  | cons p l ih =>
    intro hall h hb e
    obtain ⟨k, x⟩ := p
    rw [aget_cons] at e
    split at e
    · simp only [Option.some.injEq] at e; subst e; exact hall (k, x) (by simp)
    · exact ih (fun p hp => hall p (by simp [hp])) h hb e
end
end Go.Sx
