/- What is handed in: slices whose elements have one slice of their own besides scalars. No program in sight. -/
import Derived.Test.YtjjnbhbendlnhaaDoorYLaw
namespace Go.Sy
open Go.RowKit Go.ChangeShapes Go.WideShapes Go.Deep
set_option linter.unusedVariables false

/-- The kinds of cells: scalars, slices of flat elements. -/
inductive K2 where
  | sc (c : CK)
  | sl (ks : List CK)

/-- A slice that is only read, by its columns. -/
def InSl (w : World) (ks : List CK) (v : Value) (n : Nat) (β : Base) (cols : List Col) : Prop :=
  n ≤ maxLen ∧ ColsOk ks cols n ∧ (∀ (g : G) (h q : Nat), g h q = some β → Rv g (.sl h q 0 n) v) ∧ (∀ g : G, BlkAt g β true (.cols n (upCols cols)) w)

def Cell2 (w : World) : K2 → Value → Prop
  | .sc c, v => CellOk c v
  | .sl ks, v => v.oneCell' = true ∧ ∃ n β cols, InSl w ks v n β cols

def AllOk2 (w : World) : List K2 → List Value → Prop
  | [], vs => vs = []
  | c :: cs, vs => ∃ v r, vs = v :: r ∧ Cell2 w c v ∧ AllOk2 w cs r

theorem AllOk2.append {w : World} : ∀ (a b : List K2) (vs : List Value), AllOk2 w a (vs.take a.length) → AllOk2 w b (vs.drop a.length) → AllOk2 w (a ++ b) vs
  | [], b, vs, _, h => by simpa using h
  | c :: a, b, vs, h1, h2 => by
    cases vs with
    | nil => simp only [List.length_cons, List.take_nil, AllOk2] at h1; obtain ⟨v, r, e, _⟩ := h1; cases e
    | cons v vs =>
      simp only [List.length_cons, List.take_succ_cons, AllOk2] at h1
      obtain ⟨v', r, e, hc, hr⟩ := h1
      simp only [List.cons.injEq] at e
      obtain ⟨rfl, rfl⟩ := e
      simp only [List.cons_append, AllOk2]
      exact ⟨v, vs, rfl, hc, AllOk2.append a b vs hr (by simpa using h2)⟩
theorem AllOk2.nth {w : World} : ∀ (ks : List K2) (vs : List Value) (j : Nat) (c : K2), AllOk2 w ks vs → Sy.nth ks j = some c → ∃ v, vs[j]? = some v ∧ Cell2 w c v
  | [], vs, j, c, _, h => by simp [Sy.nth] at h
  | k :: ks, vs, j, c, h, hj => by
    simp only [AllOk2] at h
    obtain ⟨v, r, rfl, h1, h2⟩ := h
    cases j with
    | zero => simp [Sy.nth] at hj; subst hj; exact ⟨v, by simp, h1⟩
    | succ j => simp only [Sy.nth] at hj; obtain ⟨u, h3, h4⟩ := AllOk2.nth ks r j c h2 hj; exact ⟨u, by simpa using h3, h4⟩

mutual
/-- The cells of a type, where all of them are scalars or slices of flat elements. -/
def flat2 (P : Program) : Nat → TypeId → Option (List K2)
  | 0, _ => none
  | n + 1, t => match P.underlying t with
    | some .bool => some [.sc .bool]
    | some (.int k) => some [.sc (.int k)]
    | some .string => some [.sc .str]
    | some (.slice e) => (match flatK P n e with
      | some ks => bif Nat.beq (P.cellsOf e) ks.length && Nat.blt 0 ks.length then some [.sl ks] else none
      | none => none)
    | some (.struct fs) => (match flat2Fs P n 0 fs.toList with
      | some ks => bif Nat.beq (P.cellsOf t) ks.length then some ks else none
      | none => none)
    | _ => none
def flat2Fs (P : Program) : Nat → Nat → List Field → Option (List K2)
  | 0, _, _ => none
  | _ + 1, _, [] => some []
  | n + 1, o, f :: r => bif Nat.beq f.offset o then (match flat2 P n f.type with
    | some a => bif Nat.beq (P.cellsOf f.type) a.length then (match flat2Fs P n (o + a.length) r with | some b => some (a ++ b) | none => none) else none
    | none => none) else none
end

section
variable {H : Type} {enc : TypeId × Value → H} {P : Program} {w : World} {base : Nat} {held : Bool}

theorem rv_any {v : Value} {n : Nat} {β : Base} (hR : ∀ (g : G) (h : Nat), g h 0 = some β → Rv g (.sl h 0 0 n) v) (g : G) (h q : Nat) (hg : g h q = some β) : Rv g (.sl h q 0 n) v := by
  have := hR (fun _ _ => some β) h rfl
  simp only [Rv] at this ⊢
  obtain ⟨a, c, e1, e2, e3⟩ := this
  refine ⟨a, c, e1, e2, ?_⟩
  rcases e3 with e3 | ⟨β', e4, e5, e6⟩
  · exact .inl e3
  · simp only [Option.some.injEq] at e4
    subst e4
    exact .inr ⟨_, hg, e5, e6⟩

theorem trod_flat2_both : ∀ m : Nat, (∀ (t : TypeId) (ks : List K2) (fuel : Nat) (cs : List Value) (x : DataW H × List MemPlace), flat2 P m t = some ks → DataW.trod enc P w base (fun _ => true) held fuel t cs = some x → AllOk2 w ks cs) ∧
    (∀ (o : Nat) (fs : List Field) (ks : List K2) (cs : List Value) (n : Nat), flat2Fs P m o fs = some ks → cs.length = o + ks.length → (∀ f ∈ fs, ∃ y, DataW.trod enc P w base (fun _ => true) held n f.type ((cs.drop f.offset).take (P.cellsOf f.type)) = some y) → AllOk2 w ks (cs.drop o)) := by
  intro m
  induction m with
  | zero => exact ⟨fun t ks fuel cs x h => by simp [flat2] at h, fun o fs ks cs n h => by simp [flat2Fs] at h⟩
  | succ m ih =>
    refine ⟨?_, ?_⟩
    · intro t ks fuel cs x h ht
      simp only [flat2] at h
      split at h
      · rename_i hu; simp only [Option.some.injEq] at h; subst h
        obtain ⟨b, rfl, _⟩ := DataW.trod_bool hu ht
        simp only [AllOk2, Cell2, CellOk]; exact ⟨_, _, rfl, ⟨b, rfl⟩, rfl⟩
      · rename_i k hu; simp only [Option.some.injEq] at h; subst h
        obtain ⟨n, rfl, _, hw⟩ := DataW.trod_int hu ht
        simp only [AllOk2, Cell2, CellOk]; exact ⟨_, _, rfl, ⟨n, rfl, hw⟩, rfl⟩
      · rename_i hu; simp only [Option.some.injEq] at h; subst h
        obtain ⟨s, rfl, _, hw⟩ := DataW.trod_string hu ht
        simp only [AllOk2, Cell2, CellOk]; exact ⟨_, _, rfl, ⟨s, rfl, hw⟩, rfl⟩
      · rename_i e hu
        split at h
        · rename_i ks' hks
          cases hb : (Nat.beq (P.cellsOf e) ks'.length && Nat.blt 0 ks'.length) with
          | false => rw [hb] at h; simp at h
          | true =>
            rw [hb] at h
            simp only [cond_true, Option.some.injEq] at h
            subst h
            simp only [Bool.and_eq_true] at hb
            have hl := Nat.eq_of_beq_eq_true hb.1
            have h0 : 0 < ks'.length := Nat.le_of_ble_eq_true hb.2
            have key : ∀ a n c, cs = [.slice a n c] → AllOk2 w [.sl ks'] cs := by
              intro a n c hv
              subst hv
              obtain ⟨n', β, cols, k1, k2, k3, k4⟩ := slice_in hu hks hl h0 ht
              simp only [AllOk2, Cell2]
              exact ⟨_, _, rfl, ⟨rfl, n', β, cols, k1, k2, rv_any k3, k4⟩, rfl⟩
            rcases open_slice hu ht with ⟨hv, _⟩ | ⟨a, len, cap, mm, nn, D, Pl, hv, _⟩
            · exact key _ _ _ hv
            · exact key _ _ _ hv
        · cases h
      · rename_i fs hu
        split at h
        · rename_i ks' hks
          cases hb : Nat.beq (P.cellsOf t) ks'.length with
          | false => rw [hb] at h; simp at h
          | true =>
            rw [hb] at h
            simp only [cond_true, Option.some.injEq] at h
            subst h
            obtain ⟨xs, n, _, _, hlen, hxl, hf⟩ := DataW.trod_struct hu ht
            have := ih.2 0 fs.toList ks' cs n hks (by rw [hlen, Nat.eq_of_beq_eq_true hb]; simp) (by
              intro f hf'
              obtain ⟨i, hi, rfl⟩ := List.getElem_of_mem hf'
              have hi' : i < fs.size := by simpa using hi
              have h1 := hf i fs[i] (by simp [hi'])
              have h2 : xs[i]? = some (xs[i]'(by omega)) := List.getElem?_eq_getElem (by omega)
              refine ⟨xs[i]'(by omega), ?_⟩
              have : fs.toList[i] = fs[i] := by simp
              rw [this, h1, h2])
            simpa using this
        · cases h
      · cases h
    · intro o fs ks cs n h hlen hall
      cases fs with
      | nil =>
        simp only [flat2Fs, Option.some.injEq] at h
        subst h
        simp only [AllOk2]
        exact List.drop_eq_nil_of_le (by simp at hlen; omega)
      | cons f r =>
        simp only [flat2Fs] at h
        cases ho : Nat.beq f.offset o with
        | false => rw [ho] at h; simp at h
        | true =>
          rw [ho] at h
          simp only [cond_true] at h
          split at h
          · rename_i a ha
            cases hb : Nat.beq (P.cellsOf f.type) a.length with
            | false => rw [hb] at h; simp at h
            | true =>
              rw [hb] at h
              simp only [cond_true] at h
              split at h
              · rename_i b hbb
                simp only [Option.some.injEq] at h
                subst h
                have eo := Nat.eq_of_beq_eq_true ho
                have ea := Nat.eq_of_beq_eq_true hb
                obtain ⟨y, hy⟩ := hall f (by simp)
                have h1 := ih.1 f.type a n _ y ha hy
                rw [eo, ea] at h1
                refine AllOk2.append a b (cs.drop o) h1 ?_
                rw [List.drop_drop]
                exact ih.2 (o + a.length) r b cs n hbb (by simp at hlen; omega) (fun f' hf' => hall f' (by simp [hf']))
              · cases h
          · cases h

theorem trod_flat2 {m : Nat} {t : TypeId} {ks : List K2} {fuel : Nat} {cs : List Value} {x : DataW H × List MemPlace} (h : flat2 P m t = some ks) (ht : DataW.trod enc P w base (fun _ => true) held fuel t cs = some x) : AllOk2 w ks cs := (trod_flat2_both m).1 t ks fuel cs x h ht

/-- A slice that is handed in: at its place lie its elements, cell by cell. -/
theorem slice2_base {t e : TypeId} {m fuel : Nat} {v : Value} {ks : List K2} {x : DataW H × List MemPlace} (ht : P.underlying t = some (.slice e)) (hk : flat2 P m e = some ks) (hlen : P.cellsOf e = ks.length) (h0 : 0 < ks.length)
    (h : DataW.trod enc P w base (fun _ => true) held fuel t [v] = some x) :
    ∃ (n : Nat) (β : Base) (val : Nat → Nat → Value), n ≤ maxLen ∧ (∀ (g : G) (h q : Nat), g h q = some β → Rv g (.sl h q 0 n) v) ∧ β.es = ks.length ∧ n ≤ β.cap ∧ (0 < β.cap → β.blk < w.heap.size) ∧
      ∀ i, i < n → ∀ j c, nth ks j = some c → w.cell? (β.addr i j) = some (val i j) ∧ Cell2 w c (val i j) := by
  have dead : ∀ a, v = .slice a 0 0 → ∃ (n : Nat) (β : Base) (val : Nat → Nat → Value), n ≤ maxLen ∧ (∀ (g : G) (h q : Nat), g h q = some β → Rv g (.sl h q 0 n) v) ∧ β.es = ks.length ∧ n ≤ β.cap ∧ (0 < β.cap → β.blk < w.heap.size) ∧
      ∀ i, i < n → ∀ j c, nth ks j = some c → w.cell? (β.addr i j) = some (val i j) ∧ Cell2 w c (val i j) := by
    intro a hv
    refine ⟨0, ⟨0, 0, ks.length, 0⟩, fun _ _ => undef, Nat.zero_le _, ?_, rfl, Nat.le_refl _, fun h => absurd h (Nat.lt_irrefl _), fun i hi => absurd hi (Nat.not_lt_zero _)⟩
    intro g h q _
    subst hv
    simp only [Rv]
    exact ⟨a, 0, rfl, Nat.le_refl _, .inl rfl⟩
  rcases open_slice ht h with ⟨hv, _⟩ | ⟨a, len, cap, mm, nn, D, Pl, hv, _, hl, hm, hmm, hx, hi⟩
  · simp only [List.cons.injEq, and_true] at hv
    exact dead none hv
  · simp only [List.cons.injEq, and_true] at hv
    simp only [if_true] at hmm
    subst hmm
    have cell : ∀ i, i < mm → ∀ j c, nth ks j = some c → ∃ u, w.cell? (a.add (i * ks.length + j)) = some u ∧ Cell2 w c u := by
      intro i him j c hj
      obtain ⟨cs', hc, ht'⟩ := hi i him
      have hall := trod_flat2 hk ht'
      obtain ⟨u, hu, hok⟩ := AllOk2.nth ks cs' j c hall hj
      rw [hlen] at hc
      obtain ⟨_, hcl, hat⟩ := World.cells?_some hc
      have hjl := nth_lt hj
      refine ⟨u, ?_, hok⟩
      rw [← Go.Deep.add_add, hat j hjl]
      exact hu
    by_cases hz : mm = 0
    · subst hz
      have hl0 : len = 0 := by omega
      subst hl0
      exact dead (some a) hv
    · subst hv
      obtain ⟨c0, hc0⟩ : ∃ c0, nth ks 0 = some c0 := by
        cases ks with
        | nil => simp at h0
        | cons c r => exact ⟨c, rfl⟩
      obtain ⟨u0, hu0, _⟩ := cell 0 (by omega) 0 c0 hc0
      simp only [Nat.zero_mul, Nat.add_zero] at hu0
      have ha0 : a.add 0 = a := by simp [Addr.add]
      rw [ha0] at hu0
      have hspot : a.spot = none := by
        unfold World.cell? at hu0
        split at hu0
        · split at hu0
          · cases hu0
          · rename_i hs; simpa using hs
        · cases hu0
      have hblk : a.block < w.heap.size := by
        unfold World.cell? at hu0
        split at hu0
        · rename_i hh; exact (Array.getElem?_eq_some_iff.1 hh).1
        · cases hu0
      obtain ⟨β, hβ⟩ : ∃ β : Base, β = ⟨a.block, a.off, ks.length, mm⟩ := ⟨_, rfl⟩
      have haddr : ∀ i j, a.add (i * ks.length + j) = β.addr i j := by
        intro i j
        obtain ⟨b, o, s⟩ := a
        simp only at hspot
        subst hspot
        unfold Addr.add Base.addr
        split
        · rename_i h; simp only [hβ]; congr 1; omega
        · simp only [hβ]; congr 1; omega
      have hcap : β.cap = mm := by rw [hβ]
      refine ⟨len, β, fun i j => (w.cell? (β.addr i j)).getD undef, Nat.le_trans hl hm, ?_, by rw [hβ], by omega, fun _ => by rw [hβ]; exact hblk, ?_⟩
      · intro g h q hg
        simp only [Rv]
        refine ⟨some a, mm, rfl, hl, .inr ⟨β, hg, ?_, by omega⟩⟩
        have := haddr 0 0
        simp only [Nat.zero_mul, Nat.add_zero, ha0] at this
        rw [this]
      · intro i hi' j c hc
        obtain ⟨u, hu, hok⟩ := cell i (by omega) j c hc
        rw [haddr] at hu
        refine ⟨by simp only [hu, Option.getD_some], ?_⟩
        simp only [hu, Option.getD_some]; exact hok

/-- The columns: of scalars, and one that owns slices. -/
def cols2 (n : Nat) (val : Nat → Nat → Value) (h : Nat) (ns : List Nat) : Nat → List K2 → List BCol
  | _, [] => []
  | j, .sc c :: r => .sc (kcolOf n (fun i => val i j) c) :: cols2 n val h ns (j + 1) r
  | j, .sl _ :: r => .own h ns :: cols2 n val h ns (j + 1) r
def Bc2Ok (n h : Nat) (ns : List Nat) : List K2 → List BCol → Prop
  | [], l => l = []
  | .sc c :: r, l => ∃ x t, l = .sc x :: t ∧ ColOk c x n ∧ Bc2Ok n h ns r t
  | .sl _ :: r, l => ∃ t, l = .own h ns :: t ∧ Bc2Ok n h ns r t
theorem cols2_nth (n : Nat) (val : Nat → Nat → Value) (h : Nat) (ns : List Nat) : ∀ (ks : List K2) (j k : Nat), nth (cols2 n val h ns j ks) k = (nth ks k).map (fun c => match c with | .sc c => .sc (kcolOf n (fun i => val i (j + k)) c) | .sl _ => .own h ns)
  | [], j, k => by simp [cols2, nth]
  | .sc c :: ks, j, 0 => by simp [cols2, nth]
  | .sl c :: ks, j, 0 => by simp [cols2, nth]
  | .sc c :: ks, j, k + 1 => by simp only [cols2, nth]; rw [cols2_nth n val h ns ks (j + 1) k, show j + 1 + k = j + (k + 1) from by omega]
  | .sl c :: ks, j, k + 1 => by simp only [cols2, nth]; rw [cols2_nth n val h ns ks (j + 1) k, show j + 1 + k = j + (k + 1) from by omega]
theorem cols2_length (n : Nat) (val : Nat → Nat → Value) (h : Nat) (ns : List Nat) : ∀ (ks : List K2) (j : Nat), (cols2 n val h ns j ks).length = ks.length
  | [], j => rfl
  | .sc c :: ks, j => by simp [cols2, cols2_length n val h ns ks (j + 1)]
  | .sl c :: ks, j => by simp [cols2, cols2_length n val h ns ks (j + 1)]
theorem kcol_ok {n : Nat} {v : Nat → Value} {c : CK} (h : ∀ i, i < n → CellOk c (v i)) : ColOk c (kcolOf n v c) n := by
  have := kcolsOf_ok n (fun i _ => v i) [c] 0 (fun i hi k c' hc => by
    cases k with
    | zero => simp [nth] at hc; subst hc; exact h i hi
    | succ k => simp [nth] at hc)
  simp only [kcolsOf, ColsOk] at this
  obtain ⟨x, r, e, k, _⟩ := this
  simp only [List.cons.injEq] at e
  rw [e.1]; exact k
theorem cols2_ok {n : Nat} {val : Nat → Nat → Value} {h : Nat} {ns : List Nat} : ∀ (ks : List K2) (j : Nat), (∀ i, i < n → ∀ k c, nth ks k = some c → Cell2 w c (val i (j + k))) → Bc2Ok n h ns ks (cols2 n val h ns j ks)
  | [], j, _ => by simp [cols2, Bc2Ok]
  | .sc c :: cs, j, hh => by
    simp only [cols2, Bc2Ok]
    exact ⟨_, _, rfl, kcol_ok (fun i hi => hh i hi 0 (.sc c) rfl), cols2_ok cs (j + 1) (fun i hi k c' hc => by rw [show j + 1 + k = j + (k + 1) from by omega]; exact hh i hi (k + 1) c' hc)⟩
  | .sl c :: cs, j, hh => by
    simp only [cols2, Bc2Ok]
    exact ⟨_, rfl, cols2_ok cs (j + 1) (fun i hi k c' hc => by rw [show j + 1 + k = j + (k + 1) from by omega]; exact hh i hi (k + 1) c' hc)⟩
theorem colOk_len : ∀ {k : CK} {c : Col} {n : Nat}, ColOk k c n → c.len = n
  | .int k, c, n, h => by obtain ⟨l, rfl, e, _⟩ := h; exact e
  | .bool, c, n, h => by obtain ⟨l, rfl, e⟩ := h; exact e
  | .str, c, n, h => by obtain ⟨l, rfl, e, _⟩ := h; exact e
theorem bc2_len {n h : Nat} {ns : List Nat} (hn : ns.length = n) : ∀ {ks : List K2} {cols : List BCol}, Bc2Ok n h ns ks cols → ∀ c ∈ cols, c.len = n
  | [], cols, hh, c, hc => by simp only [Bc2Ok] at hh; subst hh; cases hc
  | .sc k :: ks, cols, hh, c, hc => by
    simp only [Bc2Ok] at hh
    obtain ⟨x, t, rfl, h1, h2⟩ := hh
    rcases List.mem_cons.1 hc with rfl | hc
    · exact colOk_len h1
    · exact bc2_len hn h2 c hc
  | .sl k :: ks, cols, hh, c, hc => by
    simp only [Bc2Ok] at hh
    obtain ⟨t, rfl, h2⟩ := hh
    rcases List.mem_cons.1 hc with rfl | hc
    · exact hn
    · exact bc2_len hn h2 c hc

/-- The one place of a slice. -/
def isSc : K2 → Bool
  | .sc _ => true
  | .sl _ => false
def onlySl : Nat → List K2 → Bool
  | _, [] => true
  | 0, _ :: r => r.all isSc
  | p + 1, .sc _ :: r => onlySl p r
  | _ + 1, .sl _ :: _ => false
theorem allSc : ∀ {r : List K2} {j : Nat} {k : List CK}, r.all isSc = true → nth r j ≠ some (.sl k)
  | [], j, k, h => by simp [nth]
  | c :: r, 0, k, h => by
    simp only [List.all_cons, Bool.and_eq_true] at h
    intro e
    simp only [nth, Option.some.injEq] at e
    rw [e] at h
    exact absurd h.1 (by simp [isSc])
  | c :: r, j + 1, k, h => by
    simp only [List.all_cons, Bool.and_eq_true] at h
    exact allSc (r := r) (j := j) h.2
theorem only_sl : ∀ {ks : List K2} {p j : Nat} {k : List CK}, onlySl p ks = true → nth ks j = some (.sl k) → j = p
  | [], p, j, k, _, h => by simp [nth] at h
  | c :: r, 0, 0, k, _, _ => rfl
  | c :: r, 0, j + 1, k, h, e => by
    simp only [onlySl] at h
    exact absurd e (allSc (r := r) (j := j) h)
  | .sl c :: r, p + 1, j, k, h, e => by simp [onlySl] at h
  | .sc c :: r, p + 1, 0, k, h, e => by simp [nth] at e
  | .sc c :: r, p + 1, j + 1, k, h, e => by
    simp only [onlySl] at h
    simp only [nth] at e
    rw [only_sl h e]

/-- A SLICE WHOSE ELEMENTS OWN SLICES IS HANDED IN: its columns, and the rows of the inner slices as a family under the handle h'. -/
theorem slice2_in {t e : TypeId} {m fuel : Nat} {v : Value} {ks : List K2} {x : DataW H × List MemPlace} (h' p : Nat) (k : List CK) (hp : nth ks p = some (.sl k)) (hu : onlySl p ks = true) (ht : P.underlying t = some (.slice e)) (hk : flat2 P m e = some ks) (hlen : P.cellsOf e = ks.length)
    (h : DataW.trod enc P w base (fun _ => true) held fuel t [v] = some x) :
    ∃ (n : Nat) (β : Base) (ns : List Nat) (rows : Nat → List Col) (bs : Nat → Base) (cols : List BCol), n ≤ maxLen ∧ ns.length = n ∧ Bc2Ok n h' ns ks cols ∧ (∀ i, i < n → ns.getD i 0 ≤ maxLen ∧ ColsOk k (rows i) (ns.getD i 0) ∧ ∀ g : G, BlkAt g (bs i) true (.cols (ns.getD i 0) (upCols (rows i))) w) ∧
      (∀ (g : G) (h q : Nat), g h q = some β → Rv g (.sl h q 0 n) v) ∧ (∀ g : G, (∀ i, i < n → g h' i = some (bs i)) → BlkAt g β true (.cols n cols) w) := by
  have h0 : 0 < ks.length := Nat.lt_of_le_of_lt (Nat.zero_le _) (nth_lt hp)
  obtain ⟨n, β, val, h1, h2, h3, h4, h5, h6⟩ := slice2_base ht hk hlen h0 h
  have hin : ∀ i, ∃ y : Nat × Base × List Col, i < n → InSl w k (val i p) y.1 y.2.1 y.2.2 := by
    intro i
    by_cases hi : i < n
    · obtain ⟨_, m', β', cols', hc⟩ := (h6 i hi p _ hp).2
      exact ⟨⟨m', β', cols'⟩, fun _ => hc⟩
    · exact ⟨⟨0, β, []⟩, fun q => absurd q hi⟩
  obtain ⟨F, hF⟩ := Classical.axiomOfChoice hin
  have hns : ∀ i, i < n → ((List.range n).map (fun i => (F i).1)).getD i 0 = (F i).1 := fun i hi => getD_map_range n _ 0 i hi
  refine ⟨n, β, (List.range n).map (fun i => (F i).1), fun i => (F i).2.2, fun i => (F i).2.1, cols2 n val h' ((List.range n).map (fun i => (F i).1)) 0 ks, h1, by simp, cols2_ok ks 0 (fun i hi k c hc => by rw [Nat.zero_add]; exact (h6 i hi k c hc).2), ?_, h2, ?_⟩
  · intro i hi
    obtain ⟨a1, a2, _, a4⟩ := hF i hi
    rw [hns i hi]
    exact ⟨a1, a2, a4⟩
  · intro g hg
    refine ⟨h5, by rw [h3]; simp [Blk.es, cols2_length], bc2_len (by simp) (cols2_ok (w := w) ks 0 (fun i hi k c hc => by rw [Nat.zero_add]; exact (h6 i hi k c hc).2)), fun i hi => by simp only [Blk.has] at hi; omega, ?_, ?_, (fun h => by cases h), trivial⟩
    · intro i j sv hi hj
      simp only [Blk.has] at hi
      simp only [Blk.at, cols2_nth] at hj
      cases hc : nth ks j with
      | none => rw [hc] at hj; simp at hj
      | some c =>
        rw [hc] at hj
        obtain ⟨k1, k2⟩ := h6 i hi j c hc
        cases c with
        | sc c =>
          simp only [Option.map_some, Option.some.injEq, Nat.zero_add] at hj
          subst hj
          exact ⟨_, k1, kcolOf_at (v := fun i => val i j) hi k2⟩
        | sl k' =>
          have ej := only_sl hu hc
          subst ej
          simp only [Option.map_some, Option.some.injEq] at hj
          subst hj
          obtain ⟨_, _, a3, _⟩ := hF i hi
          refine ⟨_, k1, ?_⟩
          show Rv g (.sl h' i 0 (((List.range n).map (fun i => (F i).1)).getD i 0)) _
          rw [hns i hi]
          exact a3 g h' i (hg i hi)
    · intro i j v' hi hj hv'
      simp only [Blk.has] at hi
      rw [h3] at hj
      obtain ⟨c, hc⟩ : ∃ c, nth ks j = some c := ⟨ks[j], by rw [nth_eq]; exact List.getElem?_eq_getElem hj⟩
      obtain ⟨k1, k2⟩ := h6 i hi j c hc
      rw [hv'] at k1
      cases k1
      cases c with
      | sc c => exact cellOk_one k2
      | sl k' => exact k2.1

/-- The columns of a row of a family. -/
def gS (k : Nat) (l : List Col) : List ByteArray := match nth l k with | some (.strs m) => m | _ => []
def gI (k : Nat) (l : List Col) : List Int := match nth l k with | some (.ints _ m) => m | _ => []
def gB (k : Nat) (l : List Col) : List Bool := match nth l k with | some (.bools m) => m | _ => []

/-- A row of a heap that is only read: a block, or a family. -/
def RowRo (g : G) (w : World) (p : Nat × Option HB) : Prop :=
  (∃ b β, p.2 = some (.one true b) ∧ g p.1 0 = some β ∧ BlkAt g β true b w) ∨ (∃ dom f, p.2 = some (.fam true dom f) ∧ ∀ q, dom q → ∃ β, g p.1 q = some β ∧ BlkAt g β true (f q) w)
theorem holds_ro2 {g : G} {w : World} : ∀ (Hp : Heap), (∀ p ∈ Hp, RowRo g w p) → Holds g Hp w ∧ ∀ h q ro b, Ent Hp h q ro b → ro = true := by
  intro Hp hall
  have key : ∀ h q ro b, Ent Hp h q ro b → ro = true ∧ ∃ β, g h q = some β ∧ BlkAt g β ro b w := by
    intro h q ro b he
    have : ∀ (L : Heap), (∀ p ∈ L, RowRo g w p) → Ent L h q ro b → ro = true ∧ ∃ β, g h q = some β ∧ BlkAt g β ro b w := by
      intro L
      induction L with
      | nil => intro _ he; obtain ⟨hb, e, _⟩ := he; simp [hget] at e
      | cons p L ih =>
        intro hL he
        obtain ⟨k, o⟩ := p
        rcases ent_cons.1 he with ⟨rfl, hb', e1, e2, e3⟩ | ⟨_, he⟩
        · rcases hL (k, o) (by simp) with ⟨b', β, f1, f2, f3⟩ | ⟨dom, f, f1, f2⟩
          · simp only at f1 f2
            rw [f1] at e1; cases e1
            simp only [HB.is] at e2
            obtain ⟨rfl, rfl⟩ := e2
            simp only [HB.ro] at e3
            subst e3
            exact ⟨rfl, β, f2, f3⟩
          · simp only at f1 f2
            rw [f1] at e1; cases e1
            simp only [HB.is] at e2
            obtain ⟨e2, rfl⟩ := e2
            simp only [HB.ro] at e3
            subst e3
            exact ⟨rfl, f2 q e2⟩
        · exact ih (fun p hp => hL p (by simp [hp])) he
    exact this Hp hall he
  refine ⟨⟨fun h q ro b he => (key h q ro b he).2, ?_⟩, fun h q ro b he => (key h q ro b he).1⟩
  intro h q h' q' b ro' b' β β' _ he
  have := (key h q false b he).1
  cases this
end
end Go.Sy
