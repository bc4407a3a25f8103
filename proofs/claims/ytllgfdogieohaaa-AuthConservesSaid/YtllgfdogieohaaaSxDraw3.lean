/- The generator is right: regions whose order is open, whatever the order: the proof. No program in sight. -/
import Derived.Test.YtllgfdogieohaaaSxDraw2
namespace Go.Sx
open Go.RowKit

/-- Memory, where just the operations in L have been carried out. -/
def hpR (H : Heap) (tc : Nat → Option Nat) (nb : Nat → HB) (L : Nat → Bool) : Nat → Nat → Option HB
  | 0, h => aget H h
  | k + 1, h => if L k = true ∧ tc k = some h then some (nb k) else hpR H tc nb L k h

/-- What is given: the states of the region in the order of the text. -/
structure Trace (P : Program) (T : Tab) (C : Ctx) (ops : Array Oper) (vs : VS) (at_ mid : Nat → VS) (res : Nat → SV) (tc : Nat → Option Nat) (nb : Nat → HB) : Prop where
  zero : at_ 0 = vs
  menv : ∀ (i : Nat) (o : Oper), ops[i]? = some o → ∀ t, aget (mid i).env t = aget (at_ i).env t
  mheap : ∀ (i : Nat) (o : Oper), ops[i]? = some o → (mid i).heap = (at_ i).heap
  mnext : ∀ (i : Nat) (o : Oper), ops[i]? = some o → (mid i).next = (at_ i).next
  step : ∀ (i : Nat) (o : Oper), ops[i]? = some o → StepR P T ops.toList o (mid i) (at_ (i + 1)) (res i) (tc i) (nb i)

structure InvD (C : Ctx) (ops : Array Oper) (g : G) (vs : VS) (at_ : Nat → VS) (res : Nat → SV) (tc : Nat → Option Nat) (nb : Nat → HB) (L : Nat → Bool) (a : Act) (w : World) (loc : Nat → Base) : Prop where
  size : a.tmps.size = C.N
  defers : a.defers = []
  loc0 : ∀ h, h < g.n → loc h = g.f h
  old : ∀ t sv, (∀ (k : Nat) (o : Oper), ops[k]? = some o → o.dst = some t → L k = false) → aget vs.env t = some sv → Rv g sv (a.tmps.getD t undef)
  new : ∀ (k : Nat) (o : Oper) (t : Nat), ops[k]? = some o → o.dst = some t → L k = true → (at_ (k + 1)).next = (at_ k).next → Rv g (res k) (a.tmps.getD t undef)
  newA : ∀ (k : Nat) (o : Oper) (t : Nat), ops[k]? = some o → o.dst = some t → L k = true → (at_ (k + 1)).next ≠ (at_ k).next → a.tmps.getD t undef = .pointer (some ((loc (at_ k).next).addr 0 0))
  heap : ∀ h hb, hpR vs.heap tc nb L ops.size h = some hb → BlkAt g (loc h) hb w
  sep : ∀ h h' hb hb', h ≠ h' → hpR vs.heap tc nb L ops.size h = some hb → hpR vs.heap tc nb L ops.size h' = some hb' → hb.ro = false → hb'.live → (loc h).blk ≠ (loc h').blk
  fr : Fr C.W C.w w
  own : ∀ h hb, hpR vs.heap tc nb L ops.size h = some hb → hb.ro = false → C.W (loc h).blk ∨ C.w.heap.size ≤ (loc h).blk

section
variable {P : Program} {T : Tab} {C : Ctx} {ops : Array Oper} {g : G} {vs : VS} {at_ mid : Nat → VS} {res : Nat → SV} {tc : Nat → Option Nat} {nb : Nat → HB}

theorem lt_of_get {ops : Array Oper} {i : Nat} {o : Oper} (h : ops[i]? = some o) : i < ops.size := (Array.getElem?_eq_some_iff.1 h).1
theorem get_of_lt {ops : Array Oper} {i : Nat} (h : i < ops.size) : ∃ o, ops[i]? = some o := ⟨ops[i], Array.getElem?_eq_getElem h⟩

/-- The kinds of a step. -/
theorem Trace.next (tr : Trace P T C ops vs at_ mid res tc nb) {i : Nat} {o : Oper} (hi : ops[i]? = some o) :
    ((at_ (i + 1)).next = (at_ i).next ∧ (tc i = none ∨ (isStore o.op = true ∧ ∃ h, tc i = some h))) ∨ ((at_ (i + 1)).next = (at_ i).next + 1 ∧ tc i = some (at_ i).next ∧ isNew o.op = true ∧ res i = .ptr (at_ i).next 0 0) := by
  have s := (tr.step i o hi).sem
  have hm := tr.mnext i o hi
  rcases s with ⟨_, _, h1, h2⟩ | ⟨_, ⟨_, h1, h2⟩ | ⟨_, _, _, _, _, _, _, _, _, _, _, h1, h2⟩ | ⟨t, ti, hop, _, _, h0, h1, _, h2⟩ | ⟨t, x, y, h, j, v, ti, l, m, hop, _, _, _, _, _, _, _, _, _, h1, _, h2⟩⟩
  · exact .inl ⟨by rw [h2, hm], .inl h1⟩
  · exact .inl ⟨by rw [h2, hm], .inl h1⟩
  · exact .inl ⟨by rw [h2, hm], .inl h1⟩
  · exact .inr ⟨by rw [h2, hm], by rw [h1, hm], by rw [hop]; rfl, by rw [h0, hm]⟩
  · exact .inl ⟨by rw [h2, hm], .inr ⟨by rw [hop]; rfl, h, h1⟩⟩

theorem Trace.mono (tr : Trace P T C ops vs at_ mid res tc nb) : ∀ i j, i ≤ j → j ≤ ops.size → (at_ i).next ≤ (at_ j).next := by
  intro i j hij hj
  induction j with
  | zero => have : i = 0 := by omega
            subst this; exact Nat.le_refl _
  | succ j ih =>
    by_cases e : i = j + 1
    · subst e; exact Nat.le_refl _
    · obtain ⟨o, ho⟩ := get_of_lt (ops := ops) (i := j) (by omega)
      have h1 := ih (by omega) (by omega)
      rcases tr.next ho with ⟨h2, _⟩ | ⟨h2, _⟩ <;> omega

theorem Trace.env_none (tr : Trace P T C ops vs at_ mid res tc nb) (t : Nat) : ∀ i, i ≤ ops.size → (∀ (k : Nat) (o : Oper), k < i → ops[k]? = some o → o.dst ≠ some t) → aget (at_ i).env t = aget vs.env t := by
  intro i
  induction i with
  | zero => intro _ _; rw [tr.zero]
  | succ i ih =>
    intro hi h
    obtain ⟨o, ho⟩ := get_of_lt (ops := ops) (i := i) (by omega)
    rw [(tr.step i o ho).env t, if_neg (h i o (by omega) ho), tr.menv i o ho]
    exact ih (by omega) (fun k o hk => h k o (by omega))

theorem Trace.env_some (tr : Trace P T C ops vs at_ mid res tc nb) (hD : Draw ops) {k : Nat} {ok : Oper} {t : Nat} (hk : ops[k]? = some ok) (ht : ok.dst = some t) : ∀ i, k < i → i ≤ ops.size → aget (at_ i).env t = some (res k) := by
  intro i
  induction i with
  | zero => intro h; omega
  | succ i ih =>
    intro hki hi
    obtain ⟨o, ho⟩ := get_of_lt (ops := ops) (i := i) (by omega)
    rw [(tr.step i o ho).env t]
    by_cases e : k = i
    · subst e; rw [hk] at ho; cases ho; rw [if_pos ht]
    · rw [if_neg (hD.uniq k i ok o t e hk ho ht), tr.menv i o ho]
      exact ih (by omega) (by omega)

theorem Trace.heap_at (tr : Trace P T C ops vs at_ mid res tc nb) (L : Nat → Bool) (h : Nat) : ∀ i, i ≤ ops.size → (∀ k, k < i → tc k = some h → L k = true) → hpR vs.heap tc nb L i h = aget (at_ i).heap h := by
  intro i
  induction i with
  | zero => intro _ _; rw [tr.zero]; rfl
  | succ i ih =>
    intro hi hL
    obtain ⟨o, ho⟩ := get_of_lt (ops := ops) (i := i) (by omega)
    rw [(tr.step i o ho).heap h, hpR, tr.mheap i o ho]
    by_cases e : tc i = some h
    · rw [if_pos ⟨hL i (by omega) e, e⟩, if_pos e]
    · rw [if_neg (fun x => e x.2), if_neg e]
      exact ih (by omega) (fun k hk => hL k (by omega))

theorem hpR_rest (L : Nat → Bool) (h : Nat) (i : Nat) : ∀ n, i ≤ n → (∀ k, i ≤ k → k < n → tc k = some h → L k = false) → hpR vs.heap tc nb L n h = hpR vs.heap tc nb L i h := by
  intro n
  induction n with
  | zero => intro h _; have : i = 0 := by omega
            subst this; rfl
  | succ n ih =>
    intro hi hL
    by_cases e : i = n + 1
    · subst e; rfl
    · rw [hpR, if_neg (fun x => by have := hL n (by omega) (by omega) x.2; rw [x.1] at this; cases this)]
      exact ih (by omega) (fun k hk hkn => hL k hk (by omega))

/-- The operations that have been carried out: with each, all that it comes after. -/
def Closed (ops : Array Oper) (L : Nat → Bool) : Prop := ∀ (i : Nat) (o : Oper), ops[i]? = some o → L i = true → ∀ e ∈ o.after, Region.binds .any e = true → L e.on = true

theorem before_of {L : Nat → Bool} (hc : Closed ops L) {i j : Nat} {oi oj : Oper} (_hi : ops[i]? = some oi) (hj : ops[j]? = some oj) (hLi : L i = false) (hr : ∀ e ∈ oi.after, Region.binds .any e = true → L e.on = true) (h : ordered i j oi oj = true) :
    (j < i ∧ L j = true) ∨ (i < j ∧ L j = false) := by
  rcases ordered_lt h with ⟨h1, h2⟩ | ⟨h1, h2⟩
  · obtain ⟨e, he, hb, hon⟩ := edgeTo_ok h2
    refine .inr ⟨h1, ?_⟩
    cases hl : L j with
    | false => rfl
    | true => have := hc j oj hj hl e he hb; rw [hon, hLi] at this; cases this
  · obtain ⟨e, he, hb, hon⟩ := edgeTo_ok h2
    exact .inl ⟨h1, by have := hr e he hb; rw [hon] at this; exact this⟩

theorem Rv.wf {g : G} : ∀ (sv : SV) (v : Value), Rv g sv v → SV.wf g.n sv = true := by
  intro sv
  have key : (∀ (sv : SV) (v : Value), Rv g sv v → SV.wf g.n sv = true) := by
    intro sv
    refine SV.rec (motive_1 := fun sv => ∀ v, Rv g sv v → SV.wf g.n sv = true) (motive_2 := fun l => ∀ vs, Rvs g l vs → SV.wfs g.n l = true) ?_ ?_ ?_ ?_ ?_ ?_ ?_ ?_ ?_ ?_ ?_ ?_ ?_ sv
    · intro b v _; simp [SV.wf]
    · intro k n v _; simp [SV.wf]
    · intro s v _; simp [SV.wf]
    · intro h i j v r; simp only [Rv] at r; simp only [SV.wf]; exact Nat.ble_eq_true_of_le r.1
    · intro v _; simp [SV.wf]
    · intro h i n c v r; simp only [Rv] at r; simp only [SV.wf]; exact Nat.ble_eq_true_of_le r.1
    · intro v _; simp [SV.wf]
    · intro l ih v r; simp only [Rv] at r; obtain ⟨vs, _, h⟩ := r; simp only [SV.wf]; exact ih _ h
    · intro l ih v r; simp only [Rv] at r; obtain ⟨vs, _, h⟩ := r; simp only [SV.wf]; exact ih _ h
    · intro x v _; simp [SV.wf]
    · intro v _; simp [SV.wf]
    · intro vs _; simp [SV.wfs]
    · intro s l h1 h2 vs r; simp only [Rvs] at r; obtain ⟨v, vs', _, k1, k2⟩ := r; simp only [SV.wfs, h1 v k1, h2 vs' k2, Bool.and_self]
  exact key sv

def addL (L : Nat → Bool) (i : Nat) : Nat → Bool := fun k => if k = i then true else L k

theorem hpR_add {H : Heap} (L : Nat → Bool) (i h : Nat) (hne : tc i ≠ some h) : ∀ n, hpR H tc nb (addL L i) n h = hpR H tc nb L n h := by
  intro n
  induction n with
  | zero => rfl
  | succ n ih =>
    simp only [hpR, ih, addL]
    by_cases e : n = i
    · subst e; simp [hne]
    · simp [e]

theorem hpR_new {H : Heap} (L : Nat → Bool) (i h : Nat) (he : tc i = some h) : ∀ n, i < n → (∀ k, i < k → k < n → tc k = some h → L k = false) → hpR H tc nb (addL L i) n h = some (nb i) := by
  intro n
  induction n with
  | zero => intro h; omega
  | succ n ih =>
    intro hi hL
    simp only [hpR]
    by_cases e : n = i
    · subst e; simp [he, addL]
    · have hA : addL L i n = L n := by simp [addL, e]
      rw [if_neg (fun x => by have := hL n (by omega) (by omega) x.2; rw [← hA, x.1] at this; cases this)]
      exact ih (by omega) (fun k hk hkn => hL k hk (by omega))

theorem getD_put (a : Act) (N d t : Nat) (v : Value) (hs : a.tmps.size = N) (hd : d < N) : (a.put (some d) v).tmps.getD t undef = if d = t then v else a.tmps.getD t undef := by
  simp only [Act.put]
  by_cases e : d = t
  · subst e; rw [if_pos rfl]; exact getD_put_same (by omega)
  · rw [if_neg e]; exact getD_put_ne e

theorem put_tmps_size (a : Act) (d : Option Nat) (v : Value) : (a.put d v).tmps.size = a.tmps.size ∧ (a.put d v).defers = a.defers := by
  cases d <;> simp [Act.put]

theorem invD_put {L : Nat → Bool} {a : Act} {w w' : World} {loc loc' : Nat → Base} {i : Nat} {o : Oper} {v : Value} (hD : Draw ops) (hdst : dstsOk C.N ops.toList = true) (I : InvD C ops g vs at_ res tc nb L a w loc) (hi : ops[i]? = some o) (hLi : L i = false)
    (hlo : ∀ h, h < g.n → loc' h = g.f h)
    (hl : ∀ (k : Nat) (ok : Oper), ops[k]? = some ok → k ≠ i → L k = true → (at_ (k + 1)).next ≠ (at_ k).next → loc' (at_ k).next = loc (at_ k).next)
    (hv : (at_ (i + 1)).next = (at_ i).next → Rv g (res i) v) (hvA : (at_ (i + 1)).next ≠ (at_ i).next → v = .pointer (some ((loc' (at_ i).next).addr 0 0)))
    (hheap : ∀ h hb, hpR vs.heap tc nb (addL L i) ops.size h = some hb → BlkAt g (loc' h) hb w')
    (hsep : ∀ h h' hb hb', h ≠ h' → hpR vs.heap tc nb (addL L i) ops.size h = some hb → hpR vs.heap tc nb (addL L i) ops.size h' = some hb' → hb.ro = false → hb'.live → (loc' h).blk ≠ (loc' h').blk)
    (hfr : Fr C.W C.w w') (hown : ∀ h hb, hpR vs.heap tc nb (addL L i) ops.size h = some hb → hb.ro = false → C.W (loc' h).blk ∨ C.w.heap.size ≤ (loc' h).blk) :
    InvD C ops g vs at_ res tc nb (addL L i) (a.put o.dst v) w' loc' := by
  have hdN : ∀ d, o.dst = some d → d < C.N := by
    have : ∀ (l : List Oper) (i : Nat), dstsOk C.N l = true → l[i]? = some o → ∀ d, o.dst = some d → d < C.N := by
      intro l
      induction l with
      | nil => intro i _ h; simp at h
      | cons x l ih =>
        intro i hd h d e
        simp only [dstsOk, Bool.and_eq_true] at hd
        cases i with
        | zero => simp at h; subst h; rw [e] at hd; exact Nat.le_of_ble_eq_true hd.1
        | succ i => exact ih i hd.2 (by simpa using h) d e
    exact this ops.toList i hdst (by simpa using hi)
  have keep : ∀ t, o.dst ≠ some t → (a.put o.dst v).tmps.getD t undef = a.tmps.getD t undef := by
    intro t ht
    cases hd : o.dst with
    | none => rfl
    | some d => rw [getD_put a C.N d t v I.size (hdN d hd), if_neg (fun e => ht (by rw [hd, e]))]
  have here : ∀ t, o.dst = some t → (a.put o.dst v).tmps.getD t undef = v := by
    intro t ht
    rw [ht, getD_put a C.N t t v I.size (hdN t ht), if_pos rfl]
  refine ⟨by rw [(put_tmps_size a o.dst v).1]; exact I.size, by rw [(put_tmps_size a o.dst v).2]; exact I.defers, hlo, ?_, ?_, ?_, hheap, hsep, hfr, hown⟩
  · intro t sv hno hsv
    have hne : o.dst ≠ some t := by
      intro e
      have := hno i o hi e
      simp [addL] at this
    rw [keep t hne]
    refine I.old t sv (fun k ok hk ht => ?_) hsv
    have := hno k ok hk ht
    simp only [addL] at this
    split at this
    · cases this
    · exact this
  · intro k ok t hk ht hLk hn
    by_cases e : k = i
    · subst e
      rw [hi] at hk; cases hk
      rw [here t ht]; exact hv hn
    · have hLk' : L k = true := by simpa [addL, e] using hLk
      rw [keep t (hD.uniq k i ok o t e hk hi ht)]
      exact I.new k ok t hk ht hLk' hn
  · intro k ok t hk ht hLk hn
    by_cases e : k = i
    · subst e
      rw [hi] at hk; cases hk
      rw [here t ht]; exact hvA hn
    · have hLk' : L k = true := by simpa [addL, e] using hLk
      rw [keep t (hD.uniq k i ok o t e hk hi ht), hl k ok hk e hLk' hn]
      exact I.newA k ok t hk ht hLk' hn

/-- What an operation looks at is as it was in the order of the text. -/
theorem slot_ok {L : Nat → Bool} {a : Act} {w : World} {loc : Nat → Base} (tr : Trace P T C ops vs at_ mid res tc nb) (hD : Draw ops) (I : InvD C ops g vs at_ res tc nb L a w loc) (hc : Closed ops L) {i : Nat} {o : Oper} (hi : ops[i]? = some o) (hLi : L i = false)
    (hr : ∀ e ∈ o.after, Region.binds .any e = true → L e.on = true) {t : Nat} (ht : t ∈ looks ops.toList o) {sv : SV} (hsv : aget (mid i).env t = some sv) :
    Rv g sv (a.tmps.getD t undef) ∨ (onlyAddr ops.toList o t = true ∧ ∃ h, sv = .ptr h 0 0 ∧ a.tmps.getD t undef = .pointer (some ((loc h).addr 0 0)) ∧ ∃ (k : Nat) (ok : Oper), ops[k]? = some ok ∧ k < i ∧ L k = true ∧ h = (at_ k).next ∧ (at_ (k + 1)).next ≠ (at_ k).next) := by
  have hlt := lt_of_get hi
  rw [tr.menv i o hi] at hsv
  by_cases hw : ∃ (k : Nat) (ok : Oper), ops[k]? = some ok ∧ ok.dst = some t
  · obtain ⟨k, ok, hk, hkt⟩ := hw
    have hki : i ≠ k := by
      intro e; subst e
      rw [hi] at hk; cases hk
      exact hD.self i o t hi hkt ht
    obtain ⟨hord, hnew⟩ := hD.look i k o ok t hki hi hk hkt ht
    rcases before_of hc hi hk hLi hr hord with ⟨h1, h2⟩ | ⟨h1, h2⟩
    · rw [tr.env_some hD hk hkt i h1 (by omega)] at hsv
      simp only [Option.some.injEq] at hsv
      subst hsv
      rcases tr.next hk with ⟨hn, _⟩ | ⟨hn, _, hisn, hres⟩
      · exact .inl (I.new k ok t hk hkt h2 hn)
      · have hne : (at_ (k + 1)).next ≠ (at_ k).next := by omega
        exact .inr ⟨hnew hisn, (at_ k).next, hres, I.newA k ok t hk hkt h2 hne, k, ok, hk, h1, h2, rfl, hne⟩
    · have huniq : ∀ (j : Nat) (oj : Oper), ops[j]? = some oj → oj.dst = some t → j = k := by
        intro j oj hj hjt
        by_cases e : j = k
        · exact e
        · exact absurd hjt (hD.uniq k j ok oj t (Ne.symm e) hk hj hkt)
      rw [tr.env_none t i (by omega) (fun j oj hj hjo hjt => by have := huniq j oj hjo hjt; omega)] at hsv
      exact .inl (I.old t sv (fun j oj hj hjt => by rw [huniq j oj hj hjt]; exact h2) hsv)
  · have hno : ∀ (j : Nat) (oj : Oper), ops[j]? = some oj → oj.dst ≠ some t := fun j oj hj e => hw ⟨j, oj, hj, e⟩
    rw [tr.env_none t i (by omega) (fun j oj _ hj => hno j oj hj)] at hsv
    exact .inl (I.old t sv (fun j oj hj e => absurd e (hno j oj hj)) hsv)

/-- Memory at an operation of memory is as it was in the order of the text. -/
theorem mem_ok {L : Nat → Bool} (tr : Trace P T C ops vs at_ mid res tc nb) (hD : Draw ops) (hc : Closed ops L) {i : Nat} {o : Oper} (hi : ops[i]? = some o) (hLi : L i = false)
    (hr : ∀ e ∈ o.after, Region.binds .any e = true → L e.on = true) (hm : isMem o.op = true) {h : Nat}
    (hnew : ∀ (k : Nat) (ok : Oper), ops[k]? = some ok → (at_ (k + 1)).next ≠ (at_ k).next → h = (at_ k).next → k < i ∧ L k = true) :
    hpR vs.heap tc nb L ops.size h = aget (at_ i).heap h := by
  have hlt := lt_of_get hi
  have key : ∀ k, k < ops.size → k ≠ i → tc k = some h → (k < i ∧ L k = true) ∨ (i < k ∧ L k = false) := by
    intro k hk hki htk
    obtain ⟨ok, hok⟩ := get_of_lt hk
    rcases tr.next hok with ⟨_, h1 | ⟨h1, _⟩⟩ | ⟨h1, h2, _⟩
    · rw [h1] at htk; cases htk
    · exact before_of hc hi hok hLi hr (hD.mem i k o ok (Ne.symm hki) hi hok h1 hm)
    · rw [h2] at htk
      simp only [Option.some.injEq] at htk
      exact .inl (hnew k ok hok (by omega) htk.symm)
  rw [hpR_rest L h i ops.size (by omega) (fun k hk hkn htk => ?_)]
  · exact tr.heap_at L h i (by omega) (fun k hk htk => by
      rcases key k (by omega) (by omega) htk with ⟨_, h2⟩ | ⟨h1, _⟩
      · exact h2
      · omega)
  · by_cases e : k = i
    · subst e; exact hLi
    · rcases key k hkn e htk with ⟨h1, _⟩ | ⟨_, h2⟩
      · omega
      · exact h2


theorem blk_keep {β : Base} {hb : HB} {w w' : World} (h : BlkAt g β hb w) (hs : w.heap.size ≤ w'.heap.size) (hw : ∀ k, k < w.heap.size → w'.heap[k]? = w.heap[k]?) : BlkAt g β hb w' := blkAt_mono h (G.le.refl g) hs (fun hl => hw _ (h.lt hl))

theorem cells_blk0 {l : List SV} {cs : Array Value} {t : TypeId} (hl : Rvs g l cs.toList) (w : World) : BlkAt g ⟨w.heap.size, 0, l.length⟩ ⟨false, .cells l⟩ (w.alloc (.cells cs t)) := by
  refine ⟨fun _ => by simp, rfl, ?_, ?_⟩
  · intro i j sv hi hj
    simp only [Blk.has] at hi
    subst hi
    simp only [Blk.at] at hj
    obtain ⟨v, hv, rv⟩ := Rvs.nth l cs.toList j sv hl hj
    refine ⟨v, ?_, rv⟩
    have e : (⟨w.heap.size, 0, l.length⟩ : Base).addr 0 j = ⟨w.heap.size, j, none⟩ := by simp [Base.addr]
    rw [e, World.cell?_alloc_new]
    simpa using hv
  · intro _ o
    exact World.frozen?_alloc_new w cs t o

theorem cv_not_ptr {v : Value} {h i j : Nat} : cv v ≠ .ptr h i j := by
  unfold cv
  split <;> simp

theorem gv_ptr {x : Operand} {s : VS} {h i j : Nat} (hx : gv s x = some (.ptr h i j)) : ∃ t, x = .tmp t ∧ aget s.env t = some (.ptr h i j) := by
  cases x with
  | tmp t => exact ⟨t, rfl, hx⟩
  | const v => simp only [gv, Option.some.injEq] at hx; exact absurd hx cv_not_ptr
  | global n => simp [gv] at hx
  | func f => simp [gv] at hx

theorem Trace.inj (tr : Trace P T C ops vs at_ mid res tc nb) {k k' : Nat} {ok ok' : Oper} (hk : ops[k]? = some ok) (hk' : ops[k']? = some ok') (hne : (at_ (k + 1)).next ≠ (at_ k).next) (hne' : (at_ (k' + 1)).next ≠ (at_ k').next) (h : (at_ k).next = (at_ k').next) : k = k' := by
  have h1 : (at_ (k + 1)).next = (at_ k).next + 1 := by rcases tr.next hk with ⟨h1, _⟩ | ⟨h1, _⟩; exact absurd h1 hne; exact h1
  have h2 : (at_ (k' + 1)).next = (at_ k').next + 1 := by rcases tr.next hk' with ⟨h1, _⟩ | ⟨h1, _⟩; exact absurd h1 hne'; exact h1
  rcases Nat.lt_trichotomy k k' with h3 | h3 | h3
  · have := tr.mono (k + 1) k' (by omega) (Nat.le_of_lt (lt_of_get hk')); omega
  · exact h3
  · have := tr.mono (k' + 1) k (by omega) (Nat.le_of_lt (lt_of_get hk)); omega

/-- What an operation that has been carried out looked at. -/
theorem exec_src {L : Nat → Bool} {a : Act} {w : World} {loc : Nat → Base} (tr : Trace P T C ops vs at_ mid res tc nb) (hD : Draw ops) (hE : ∀ t sv, aget vs.env t = some sv → SV.wf g.n sv = true) (I : InvD C ops g vs at_ res tc nb L a w loc) (hc : Closed ops L)
    {k : Nat} {ok : Oper} (hk : ops[k]? = some ok) (hLk : L k = true) {t : Nat} (ht : t ∈ looks ops.toList ok) {sv : SV} (hsv : aget (mid k).env t = some sv) :
    SV.wf g.n sv = true ∨ ∃ (j : Nat) (oj : Oper), ops[j]? = some oj ∧ j < k ∧ L j = true ∧ (at_ (j + 1)).next ≠ (at_ j).next ∧ sv = .ptr (at_ j).next 0 0 := by
  have hlt := lt_of_get hk
  rw [tr.menv k ok hk] at hsv
  by_cases hw : ∃ (j : Nat) (oj : Oper), ops[j]? = some oj ∧ oj.dst = some t
  · obtain ⟨j, oj, hj, hjt⟩ := hw
    have hkj : k ≠ j := by
      intro e; subst e
      rw [hk] at hj; cases hj
      exact hD.self k ok t hk hjt ht
    rcases ordered_lt (hD.look k j ok oj t hkj hk hj hjt ht).1 with ⟨h1, h2⟩ | ⟨h1, h2⟩
    · rw [tr.env_none t k (by omega) (fun j' oj' hj' hjo' hjt' => by
        by_cases e : j' = j
        · omega
        · exact hD.uniq j j' oj oj' t (Ne.symm e) hj hjo' hjt hjt')] at hsv
      exact .inl (hE t sv hsv)
    · obtain ⟨e, he, hb, hon⟩ := edgeTo_ok h2
      have hLj : L j = true := by have := hc k ok hk hLk e he hb; rw [hon] at this; exact this
      rw [tr.env_some hD hj hjt k h1 (by omega)] at hsv
      simp only [Option.some.injEq] at hsv
      subst hsv
      rcases tr.next hj with ⟨hn, _⟩ | ⟨hn, _, _, hres⟩
      · exact .inl (Rv.wf _ _ (I.new j oj t hj hjt hLj hn))
      · exact .inr ⟨j, oj, hj, h1, hLj, by omega, hres⟩
  · rw [tr.env_none t k (by omega) (fun j oj _ hj e => hw ⟨j, oj, hj, e⟩)] at hsv
    exact .inl (hE t sv hsv)

theorem step_any {L : Nat → Bool} {a : Act} {w : World} {loc : Nat → Base} {Q : Exit → Act → World → Prop} {K : Act → World → Prop} (hT : TabOk P T) (tr : Trace P T C ops vs at_ mid res tc nb) (hD : Draw ops) (hdst : dstsOk C.N ops.toList = true) (hnx : g.n = vs.next)
    (hE : ∀ t sv, aget vs.env t = some sv → SV.wf g.n sv = true) (I : InvD C ops g vs at_ res tc nb L a w loc) (hc : Closed ops L) {i : Nat} {o : Oper} (hi : ops[i]? = some o) (hLi : L i = false) (hr : ∀ e ∈ o.after, Region.binds .any e = true → L e.on = true)
    (hK : ∀ a' w' loc', InvD C ops g vs at_ res tc nb (addL L i) a' w' loc' → K a' w') : wpOp P ops Q i K a w := by
  have hlt := lt_of_get hi
  have hst := tr.step i o hi
  have hm := tr.mnext i o hi
  have slot := fun {t : Nat} (ht : t ∈ looks ops.toList o) {sv : SV} (hsv : aget (mid i).env t = some sv) => slot_ok tr hD I hc hi hLi hr ht hsv
  have notStore : isStore o.op = false → ∀ t, onlyAddr ops.toList o t = false := by
    intro h t
    unfold onlyAddr
    split
    · rename_i heq; rw [heq] at h; cases h
    · rfl
  have guardLook : ∀ d, guardSlot ops.toList o = some d → d ∈ looks ops.toList o := by
    intro d h; simp [looks, h]
  have opLook : ∀ t, t ∈ opSlots o.op.operands.toList → t ∈ looks ops.toList o := by
    intro t h; unfold looks; split <;> simp [h]
  have guardVal : ∀ d sv, guardSlot ops.toList o = some d → aget (mid i).env d = some sv → Rv g sv (a.tmps.getD d undef) := by
    intro d sv h hsv
    rcases slot (guardLook d h) hsv with h1 | ⟨h1, _⟩
    · exact h1
    · exfalso
      unfold onlyAddr at h1
      split at h1
      · simp only [Bool.and_eq_true] at h1
        rw [h] at h1
        simp only [Nat.beq_refl, Bool.not_true] at h1
        exact absurd h1.2 (by simp)
      · cases h1
  unfold wpOp
  simp only [hi]
  have fin : ∀ (w' : World) (v : Value), (tc i = none) → (at_ (i + 1)).next = (at_ i).next → w.heap.size ≤ w'.heap.size → (∀ k, k < w.heap.size → w'.heap[k]? = w.heap[k]?) → w'.os = w.os → w'.tape = w.tape → w'.output = w.output → Rv g (res i) v → K (a.put o.dst v) w' := by
    intro w' v htc hn hs hb ho ht hout hv
    refine hK _ w' loc (invD_put hD hdst I hi hLi I.loc0 (fun _ _ _ _ _ _ => rfl) (fun _ => hv) (fun h => absurd hn h) ?_ ?_ ?_ ?_)
    · intro h hbk hh
      rw [hpR_add L i h (by rw [htc]; simp)] at hh
      exact blk_keep (I.heap h hbk hh) hs hb
    · intro h h' hbk hbk' hne hh hh' hro hlv
      rw [hpR_add L i h (by rw [htc]; simp)] at hh
      rw [hpR_add L i h' (by rw [htc]; simp)] at hh'
      exact I.sep h h' hbk hbk' hne hh hh' hro hlv
    · refine ⟨ho.trans I.fr.os, ht.trans I.fr.tape, hout.trans I.fr.output, Nat.le_trans I.fr.size hs, fun k hk hW => ?_⟩
      rw [hb k (Nat.lt_of_lt_of_le hk I.fr.size)]; exact I.fr.block k hk hW
    · intro h hbk hh hro
      rw [hpR_add L i h (by rw [htc]; simp)] at hh
      exact I.own h hbk hh hro
  have fins : ∀ v, tc i = none → (at_ (i + 1)).next = (at_ i).next → Rv g (res i) v → K (a.put o.dst v) w := fun v h1 h2 h3 => fin w v h1 h2 (Nat.le_refl _) (fun _ _ => rfl) rfl rfl rfl h3
  rcases hst.sem with ⟨⟨j, want, oj, d, hg, hj, hdj, hv⟩, hres, htc, hn⟩ | ⟨hg, hsem⟩
  · have hgs : guardSlot ops.toList o = some d := by simp [guardSlot, hg, hj, hdj]
    have hw : Region.wanted o (yielded ops a.tmps) = false := by
      rcases hv with ⟨b, hb, hne⟩ | ⟨x, hx⟩
      · have hy := yielded_bool (a := a) hj hdj (rbv (guardVal d _ hgs hb))
        simp [Region.wanted, hg, hy, hne]
      · have hy := yielded_none (a := a) hj hdj (by have := guardVal d _ hgs hx; simpa only [Rv] using this)
        simp [Region.wanted, hg, hy]
    rw [if_neg (by simp [hw])]
    exact fins undef htc (by rw [hn, hm]) (by rw [hres]; simp only [Rv])
  · have hw : Region.wanted o (yielded ops a.tmps) = true := by
      rcases hg with hg | ⟨j, want, oj, d, hg, hj, hdj, hv⟩
      · simp [Region.wanted, hg]
      · have hgs : guardSlot ops.toList o = some d := by simp [guardSlot, hg, hj, hdj]
        have hy := yielded_bool (a := a) hj hdj (rbv (guardVal d _ hgs hv))
        simp [Region.wanted, hg, hy]
    rw [if_pos hw]
    refine .inl ?_
    -- the state that the operation looks at
    let e0 : Env := restr (mid i).env (opSlots o.op.operands.toList)
    have envOk : isStore o.op = false → ∀ H : Heap, EnvOk g ⟨e0, H, g.n⟩ a := by
      intro hns H t sv ht
      obtain ⟨h1, h2⟩ := restr_get _ _ t sv ht
      rcases slot (opLook t h1) h2 with h3 | ⟨h3, _⟩
      · exact h3
      · rw [notStore hns t] at h3; cases h3
    have gvEq : ∀ H : Heap, ∀ x ∈ o.op.operands.toList, gv ⟨e0, H, g.n⟩ x = gv (mid i) x := by
      intro H x hx
      cases x with
      | tmp t => exact restr_put _ _ t (opSlots_ok _ t hx)
      | _ => rfl
    rcases hsem with ⟨hev, htc, hn⟩ | ⟨fo, args, ts, f, l, hop, hf, hl, hpure, hpa, hpr, htc, hn⟩ | ⟨t, ti, hop, hti, hz, hres, htc, hnb, hn⟩ | ⟨t, x, y, h, j, v, ti, l, m, hop, hx, hy, hti, hH, hcells, hone, hlen, hle, hres, htc, hnb, hn⟩
    · -- it looks
      have hns : isStore o.op = false := by
        cases hop : o.op <;> first | rfl | (rw [hop] at hev; simp only [evR] at hev)
      let H0 : Heap := if isMem o.op = true then restr (mid i).heap (List.range g.n) else []
      have hH0 : isMem o.op = true → ∀ h, h < g.n → hpR vs.heap tc nb L ops.size h = aget (mid i).heap h := by
        intro hmem h hh
        rw [tr.mheap i o hi]
        refine mem_ok tr hD hc hi hLi hr hmem (fun k ok hk hne he => ?_)
        have := tr.mono 0 k (by omega) (Nat.le_of_lt (lt_of_get hk))
        rw [tr.zero, ← hnx] at this
        omega
      have hHolds : Holds g H0 w := by
        refine ⟨?_, ?_⟩
        · intro h hb hh
          by_cases hmem : isMem o.op = true
          · simp only [H0, hmem, if_true] at hh
            obtain ⟨h1, h2⟩ := restr_get _ _ h hb hh
            have hlt' : h < g.n := by simpa using h1
            refine ⟨hlt', ?_⟩
            have := I.heap h hb (by rw [hH0 hmem h hlt']; exact h2)
            rw [I.loc0 h hlt'] at this; exact this
          · simp only [H0, hmem] at hh; simp [aget] at hh
        · intro h h' hb hb' hne hh hh' hro hlv
          by_cases hmem : isMem o.op = true
          · simp only [H0, hmem, if_true] at hh hh'
            obtain ⟨h1, h2⟩ := restr_get _ _ h hb hh
            obtain ⟨h1', h2'⟩ := restr_get _ _ h' hb' hh'
            have k1 : h < g.n := by simpa using h1
            have k2 : h' < g.n := by simpa using h1'
            have := I.sep h h' hb hb' hne (by rw [hH0 hmem h k1]; exact h2) (by rw [hH0 hmem h' k2]; exact h2') hro hlv
            rw [I.loc0 h k1, I.loc0 h' k2] at this; exact this
          · simp only [H0, hmem] at hh; simp [aget] at hh
      have hev' : evR T ⟨e0, H0, g.n⟩ o.op (fun v => v = res i) := by
        refine evR_congr (gvEq H0) ?_ ?_ hev
        · intro hmem h hh
          simp only [H0, hmem, if_true]
          exact restr_put _ _ h (by simpa using hh)
        · intro x hx sv hsv
          exact Rv.wf sv _ (gv_ok (envOk hns H0) hsv)
      obtain ⟨sv, v, hsv, hrv, hy⟩ := evR_ok (w := w) hT (envOk hns H0) hHolds hev'
      subst hsv
      simp only [Oper.wp, hy o rfl, Oper.upon_value]
      exact fins v htc (by rw [hn, hm]) hrv
    · -- a call
      have hns : isStore o.op = false := by rw [hop]; rfl
      have hops : o.op.operands.toList = fo :: args.toList := by simp [hop, Op.operands, Call.operands]
      have hE := envOk hns []
      have hfv : a.eval fo = .func (.func f) #[] #[] := by
        have := gv_ok hE (x := fo) (sv := .raw (.func (.func f) #[] #[])) (by rw [gvEq [] fo (by rw [hops]; simp)]; exact hf)
        simpa only [Rv] using this
      have hvals : Rvs g l (args.toList.map a.eval) := gvs_ok hE args.toList l (by rw [gvs_congr args.toList (fun x hx => gvEq [] x (by rw [hops]; simp [hx]))]; exact hl)
      obtain ⟨⟨fn, c, hfn, hbody, hname⟩, hfc⟩ := hpure
      have hrun : (execOp a.eval o).run P w = .ok (.enter f (args.map a.eval)) w := by
        have hname' : ¬ fn.name = "runtime.NumGoroutine" := by simpa using hname
        simp [execOp, hop, resolve, hfv, Deferred.ofValue, invoke, callFunc, hfn, hname', hbody]
      simp only [Oper.wp, hrun, Oper.upon_enter]
      have hcall := hfc ⟨0, g.f⟩ w (args.toList.map a.eval) rfl ⟨fun h hb hh => by simp [aget] at hh, fun h h' hb hb' _ hh => by simp [aget] at hh⟩ (Rvs.any _ _ hpa hvals)
      have ha : (args.toList.map a.eval).toArray = args.map a.eval := by apply Array.ext'; simp
      rw [ha] at hcall
      refine hcall.mono ?_
      rintro e' w' ⟨v, rfl, sv, H', g', _, hrv, rfl, _, hfr, _⟩
      exact fin w' v htc (by rw [hn, hm]) hfr.size (fun k hk => hfr.block k hk (by rintro ⟨h, hb, hh, _⟩; simp [aget] at hh)) hfr.os hfr.tape hfr.output (Rv.any _ _ hpr hrv)
    · -- a new variable
      have hnext : (at_ (i + 1)).next = (at_ i).next + 1 := by rw [hn, hm]
      rw [hm] at htc
      obtain ⟨z, hzr, hzc⟩ : ∃ z, (zeroValue t).run P w = .ok z w ∧ Rvs g ti.zero z.cells.toList := by
        have := hT _ _ hti
        unfold tiOf at this
        split at this
        · rename_i inf d hinf hd
          simp only [Option.some.injEq] at this
          cases hz0 : inf.zero with
          | none => rw [← this] at hz; simp [hz0] at hz
          | some z => exact ⟨z, by simp [zeroValue, typeInfo, hinf, hz0], by rw [← this]; simp only [hz0]; exact cvs_ok g _⟩
        · cases this
      have hnew : ∀ o : Obj, (newObj o).run P w = .ok w.heap.size (w.alloc o) := fun _ => rfl
      have hrun : (execOp a.eval o).run P w = .ok (.value (.pointer (some ⟨w.heap.size, 0, none⟩))) (w.alloc (.cells z.cells t)) := by
        simp only [execOp, hop, Instr.alloc, Sem.run_bind, hzr, Result.andThen_ok, newVar, newRow, hnew, Sem.run_pure]
      simp only [Oper.wp, hrun, Oper.upon_value]
      let β : Base := ⟨w.heap.size, 0, ti.zero.length⟩
      let loc' : Nat → Base := fun h => if h = (at_ i).next then β else loc h
      have hge : g.n ≤ (at_ i).next := by
        have := tr.mono 0 i (by omega) (Nat.le_of_lt hlt)
        rw [tr.zero, ← hnx] at this; exact this
      have hother : ∀ (k : Nat) (ok : Oper), ops[k]? = some ok → k ≠ i → (at_ (k + 1)).next ≠ (at_ k).next → (at_ k).next ≠ (at_ i).next := by
        intro k ok hk hki hne
        have hk1 : (at_ (k + 1)).next = (at_ k).next + 1 := by rcases tr.next hk with ⟨h1, _⟩ | ⟨h1, _⟩; exact absurd h1 hne; exact h1
        rcases Nat.lt_or_ge k i with h | h
        · have := tr.mono (k + 1) i (by omega) (Nat.le_of_lt hlt); omega
        · have := tr.mono (i + 1) k (by omega) (Nat.le_of_lt (lt_of_get hk)); omega
      -- a store into the new block comes behind it
      have hlate : ∀ k, i < k → k < ops.size → tc k = some (at_ i).next → L k = false := by
        intro k hik hkn htk
        obtain ⟨ok, hok⟩ := get_of_lt hkn
        cases hlk : L k with
        | false => rfl
        | true =>
          exfalso
          have hsk := (tr.step k ok hok).sem
          rcases tr.next hok with ⟨_, h1 | ⟨h1, _⟩⟩ | ⟨h1, h2, _⟩
          · rw [h1] at htk; cases htk
          · rcases hsk with ⟨_, _, h3, _⟩ | ⟨_, ⟨h2, h3, _⟩ | ⟨_, _, _, _, _, h2, _, _, _, _, _, h3, _⟩ | ⟨_, _, h2, _⟩ | ⟨t', x', y', h', j', v', ti', l', m', hop', hx', _, _, _, _, _, _, _, _, h3, _⟩⟩
            · rw [h3] at htk; cases htk
            · rw [h3] at htk; cases htk
            · rw [h3] at htk; cases htk
            · rw [h2] at h1; cases h1
            · -- its address is the new variable's
              rw [h3] at htk
              simp only [Option.some.injEq] at htk
              subst htk
              obtain ⟨t'', hxt, hxe⟩ := gv_ptr hx'
              have hlk' : t'' ∈ looks ops.toList ok := by
                have : t'' ∈ opSlots ok.op.operands.toList := opSlots_ok _ _ (by rw [hop', hxt]; simp [Op.operands])
                unfold looks; split <;> simp [this]
              rcases exec_src tr hD hE I hc hok hlk hlk' hxe with h4 | ⟨j2, oj2, hj2, _, hL2, hne2, h4⟩
              · have := Nat.le_of_ble_eq_true h4; omega
              · simp only [SV.ptr.injEq] at h4
                have : i = j2 := tr.inj hi hj2 (by omega) hne2 h4.1
                subst this; rw [hLi] at hL2; cases hL2
          · rw [h2] at htk
            simp only [Option.some.injEq] at htk
            exact hother k ok hok (by omega) (by omega) htk
      refine hK _ _ loc' (invD_put hD hdst I hi hLi ?_ ?_ (fun h => by omega) ?_ ?_ ?_ ?_ ?_)
      · intro h hh
        have : h ≠ (at_ i).next := by omega
        simp only [loc', if_neg this]; exact I.loc0 h hh
      · intro k ok hk hki _ hne
        simp only [loc', if_neg (hother k ok hk hki hne)]
      · intro _; simp [loc', β, Base.addr]
      · intro h hb hh
        by_cases e : h = (at_ i).next
        · subst e
          rw [hpR_new L i _ htc ops.size hlt hlate] at hh
          simp only [Option.some.injEq] at hh
          subst hh
          rw [hnb]
          simp only [loc', if_true]
          exact cells_blk0 hzc w
        · rw [hpR_add L i h (by rw [htc]; simp; exact fun x => e x.symm)] at hh
          simp only [loc', if_neg e]
          exact blk_keep (I.heap h hb hh) (by simp) (fun k hk => Below.heap_alloc w _ k hk)
      · intro h h' hb hb' hne hh hh' hro hlv
        have oldlt : ∀ x xb, x ≠ (at_ i).next → hpR vs.heap tc nb (addL L i) ops.size x = some xb → xb.live → (loc x).blk < w.heap.size := by
          intro x xb hx hxx hll
          rw [hpR_add L i x (by rw [htc]; simp; exact fun y => hx y.symm)] at hxx
          exact (I.heap x xb hxx).lt hll
        by_cases e : h = (at_ i).next
        · have e' : h' ≠ (at_ i).next := fun y => hne (by rw [e, y])
          have := oldlt h' hb' e' hh' hlv
          simp only [loc', if_pos e, if_neg e', β]; omega
        · by_cases e' : h' = (at_ i).next
          · have := oldlt h hb e hh (.inl hro)
            simp only [loc', if_pos e', if_neg e, β]; omega
          · rw [hpR_add L i h (by rw [htc]; simp; exact fun y => e y.symm)] at hh
            rw [hpR_add L i h' (by rw [htc]; simp; exact fun y => e' y.symm)] at hh'
            simp only [loc', if_neg e, if_neg e']
            exact I.sep h h' hb hb' hne hh hh' hro hlv
      · refine ⟨I.fr.os, I.fr.tape, I.fr.output, by simp only [World.size_alloc]; have := I.fr.size; omega, fun k hk hW => ?_⟩
        rw [Below.heap_alloc w _ k (Nat.lt_of_lt_of_le hk I.fr.size)]; exact I.fr.block k hk hW
      · intro h hb hh hro
        by_cases e : h = (at_ i).next
        · right; simp only [loc', if_pos e, β]; exact I.fr.size
        · rw [hpR_add L i h (by rw [htc]; simp; exact fun y => e y.symm)] at hh
          simp only [loc', if_neg e]
          exact I.own h hb hh hro
    · -- a store
      have hmem : isMem o.op = true := by rw [hop]; rfl
      have hstor : isStore o.op = true := by rw [hop]; rfl
      obtain ⟨tx, hxt, hxe⟩ := gv_ptr hx
      have hxl : tx ∈ looks ops.toList o := opLook tx (opSlots_ok _ _ (by rw [hop, hxt]; simp [Op.operands]))
      have haddr : a.eval x = .pointer (some ((loc h).addr 0 j)) ∧ (h < g.n ∨ ∃ (k : Nat) (ok : Oper), ops[k]? = some ok ∧ k < i ∧ L k = true ∧ h = (at_ k).next ∧ (at_ (k + 1)).next ≠ (at_ k).next) := by
        rcases slot hxl hxe with h1 | ⟨_, h', h2, h3, k, ok, h4, h5, h6, h7, h8⟩
        · obtain ⟨h2, h3⟩ := rpv h1
          rw [hxt]
          refine ⟨?_, .inl h2⟩
          show a.tmps.getD tx undef = _
          rw [h3, I.loc0 h h2]
        · simp only [SV.ptr.injEq, true_and] at h2
          obtain ⟨e1, e2⟩ := h2
          subst e1; subst e2
          rw [hxt]
          exact ⟨h3, .inr ⟨k, ok, h4, h5, h6, h7, h8⟩⟩
      have hyv : Rv g v (a.eval y) := by
        cases y with
        | tmp ty =>
          have hyl : ty ∈ looks ops.toList o := opLook ty (opSlots_ok _ _ (by rw [hop]; simp [Op.operands]))
          rcases slot hyl hy with h1 | ⟨h1, _⟩
          · exact h1
          · exfalso
            unfold onlyAddr at h1
            rw [hop, hxt] at h1
            simp [opSlots, hasSlot] at h1
        | const c => simp only [gv, Option.some.injEq] at hy; subst hy; exact cv_ok g c
        | global n => simp [gv] at hy
        | func f => simp only [gv, Option.some.injEq] at hy; subst hy; simp [Rv, Act.eval]
      have hsrc : ∀ (k : Nat) (ok : Oper), ops[k]? = some ok → (at_ (k + 1)).next ≠ (at_ k).next → h = (at_ k).next → k < i ∧ L k = true := by
        intro k ok hk hne he
        rcases haddr.2 with h1 | ⟨k2, ok2, h4, h5, h6, h7, h8⟩
        · have := tr.mono 0 k (by omega) (Nat.le_of_lt (lt_of_get hk))
          rw [tr.zero, ← hnx] at this; omega
        · have := tr.inj hk h4 hne h8 (by rw [← he, ← h7])
          subst this; exact ⟨h5, h6⟩
      have hhp := mem_ok tr hD hc hi hLi hr hmem hsrc
      rw [← tr.mheap i o hi, hH] at hhp
      have hB := I.heap h _ hhp
      have rc := SV.cells_ok hcells hyv
      have lc := Rvs.length _ _ rc
      have hsz := run_sizeOf' (hT _ _ hti)
      have eaddr : ∀ z, (loc h).addr 0 z = ⟨(loc h).blk, (loc h).off + z, none⟩ := by intro z; simp [Base.addr]
      have es : (loc h).es = l.length := hB.es
      obtain ⟨w', k1, k2, k3, k4, k5, k6, k7, k8⟩ := storeCells_ok P (loc h).blk ((loc h).off + j) (a.eval y).cells.toList 0 w (allOne_ok m _ hone rc) (by
        intro z hz
        have hz' : j + z < l.length := by omega
        obtain ⟨u, hu, _⟩ := hB.cell 0 (j + z) l[j + z] rfl (by simp only [Blk.at]; rw [nth_eq]; simp [hz'])
        rw [eaddr] at hu
        exact ⟨u, by rw [show (loc h).off + j + 0 + z = (loc h).off + (j + z) from by omega]; exact hu⟩) (hB.rw rfl)
      have hrun : (execOp a.eval o).run P w = .ok .skip w' := by
        have e1 : (a.eval y).cells.size = ti.size := by simp only [Array.length_toList] at lc; omega
        simp only [execOp, hop, Instr.storeAt, haddr.1, Instr.sureAddr, storeVar, Sem.run_bind, Sem.run_pure, Result.andThen_ok, hsz, e1, ne_eq, not_true_eq_false, if_false]
        rw [eaddr]
        simp [k1]
      simp only [Oper.wp, hrun, Oper.upon_skip]
      have hlate : ∀ k, i < k → k < ops.size → tc k = some h → L k = false := by
        intro k hik hkn htk
        obtain ⟨ok, hok⟩ := get_of_lt hkn
        rcases tr.next hok with ⟨_, h1 | ⟨h1, _⟩⟩ | ⟨h1, h2, _⟩
        · rw [h1] at htk; cases htk
        · rcases before_of hc hi hok hLi hr (hD.mem i k o ok (by omega) hi hok h1 hmem) with ⟨h3, _⟩ | ⟨_, h3⟩
          · omega
          · exact h3
        · rw [h2] at htk
          simp only [Option.some.injEq] at htk
          have := hsrc k ok hok (by omega) htk.symm
          omega
      have hnx2 : (at_ (i + 1)).next = (at_ i).next := by rw [hn, hm]
      refine hK _ _ loc (invD_put hD hdst I hi hLi I.loc0 (fun _ _ _ _ _ _ => rfl) (fun _ => by rw [hres]; simp only [Rv]) (fun x => absurd hnx2 x) ?_ ?_ ?_ ?_)
      · intro h' hb hh
        by_cases e : h' = h
        · subst e
          rw [hpR_new L i _ htc ops.size hlt hlate] at hh
          simp only [Option.some.injEq] at hh
          subst hh
          rw [hnb]
          refine ⟨fun _ => by rw [k2]; exact hB.lt (.inl rfl), by rw [es]; simp [Blk.es, setMany_length], ?_, fun _ => k7⟩
          intro i' z sv hi' hz
          simp only [Blk.has] at hi'
          subst hi'
          simp only [Blk.at] at hz
          rw [setMany_nth m l j z hle] at hz
          rw [eaddr, k8]
          split at hz
          · rename_i hcnd
            obtain ⟨u, hu, ru⟩ := Rvs.nth m _ (z - j) sv rc hz
            refine ⟨u, ?_, ru⟩
            rw [if_pos (by omega), show (loc h').off + z - ((loc h').off + j + 0) = z - j from by omega]
            exact hu
          · rename_i hcnd
            obtain ⟨u, hu, ru⟩ := hB.cell 0 z sv rfl (by simp only [Blk.at]; exact hz)
            refine ⟨u, ?_, ru⟩
            rw [if_neg (by omega)]
            rw [eaddr] at hu
            exact hu
        · rw [hpR_add L i h' (by rw [htc]; simp; exact fun y => e y.symm)] at hh
          have hB' := I.heap h' hb hh
          exact blkAt_mono hB' (G.le.refl g) (by omega) (fun hl => k6 _ (fun y => I.sep h h' _ hb (fun y => e y.symm) hhp hh rfl hl y.symm))
      · intro h1 h2 hb1 hb2 hne hh1 hh2 hro hlv
        have conv : ∀ z zb, hpR vs.heap tc nb (addL L i) ops.size z = some zb → ∃ zb', hpR vs.heap tc nb L ops.size z = some zb' ∧ (zb.ro = false → zb'.ro = false) ∧ (zb.live → zb'.live) := by
          intro z zb hz
          by_cases e : z = h
          · subst e; exact ⟨_, hhp, fun _ => rfl, fun _ => .inl rfl⟩
          · rw [hpR_add L i z (by rw [htc]; simp; exact fun y => e y.symm)] at hz; exact ⟨zb, hz, id, id⟩
        obtain ⟨b1, c1, d1, _⟩ := conv h1 hb1 hh1
        obtain ⟨b2, c2, _, d2⟩ := conv h2 hb2 hh2
        exact I.sep h1 h2 b1 b2 hne c1 c2 (d1 hro) (d2 hlv)
      · refine ⟨by rw [k3]; exact I.fr.os, by rw [k4]; exact I.fr.tape, by rw [k5]; exact I.fr.output, by rw [k2]; exact I.fr.size, fun k hk hW => ?_⟩
        rw [k6 k ?_]
        · exact I.fr.block k hk hW
        · intro e
          rcases I.own h _ hhp rfl with ho | ho
          · exact hW (e ▸ ho)
          · rw [← e] at ho; omega
      · intro h1 hb1 hh1 hro
        by_cases e : h1 = h
        · subst e; exact I.own h1 _ hhp rfl
        · rw [hpR_add L i h1 (by rw [htc]; simp; exact fun y => e y.symm)] at hh1
          exact I.own h1 hb1 hh1 hro

theorem region_any {id : Nat} {a : Act} {w : World} {Q : Exit → Act → World → Prop} {K : VS → Prop} (hm : P.follows .mixedOrders = true) (hT : TabOk P T) (hD : Draw ops) (hdst : dstsOk C.N ops.toList = true) (R : Rel C g vs a w) (h : vopsD P T ops.toList ops.toList vs K)
    (hq : ∀ vs' g' a' w', K vs' → Rel C g' vs' a' w' → Q .normal a' w') : (Code.region id ops true).wp P Q a w := by
  obtain ⟨at_, mid, res, tc, nb, h0, hKf, hst⟩ := vopsD_trace ops.toList vs K h
  have conv : ∀ (i : Nat) (o : Oper), ops[i]? = some o → ops.toList[i]? = some o := fun i o h => by simpa using h
  have tr : Trace P T C ops vs at_ mid res tc nb := ⟨h0, fun i o ho => (hst i o (conv i o ho)).1, fun i o ho => (hst i o (conv i o ho)).2.1, fun i o ho => (hst i o (conv i o ho)).2.2.1, fun i o ho => (hst i o (conv i o ho)).2.2.2⟩
  have hE : ∀ t sv, aget vs.env t = some sv → SV.wf g.n sv = true := fun t sv ht => Rv.wf sv _ (R.env t sv ht)
  have hKf : K (at_ ops.size) := by simpa using hKf
  have close : ∀ (L : Nat → Bool) a w loc, (∀ (k : Nat) (o : Oper), ops[k]? = some o → L k = true) → InvD C ops g vs at_ res tc nb L a w loc → Q .normal a w := by
    intro L a w loc hall I
    have hgn : g.n ≤ (at_ ops.size).next := by
      have := tr.mono 0 ops.size (by omega) (Nat.le_refl _)
      rw [tr.zero, ← R.next] at this; exact this
    have hle : G.le g ⟨(at_ ops.size).next, loc⟩ := ⟨hgn, fun h hh => I.loc0 h hh⟩
    have htcL : ∀ k h, k < ops.size → tc k = some h → L k = true := by
      intro k h hk _
      obtain ⟨o, ho⟩ := get_of_lt hk
      exact hall k o ho
    have hheap : ∀ h, hpR vs.heap tc nb L ops.size h = aget (at_ ops.size).heap h := fun h => tr.heap_at L h ops.size (Nat.le_refl _) (fun k hk htk => htcL k h hk htk)
    refine hq _ ⟨(at_ ops.size).next, loc⟩ a w hKf ⟨?_, I.size, I.defers, rfl, R.le.trans hle, ⟨?_, ?_⟩, I.fr, ?_⟩
    · intro t sv hsv
      by_cases hw : ∃ (k : Nat) (ok : Oper), ops[k]? = some ok ∧ ok.dst = some t
      · obtain ⟨k, ok, hk, hkt⟩ := hw
        rw [tr.env_some hD hk hkt ops.size (lt_of_get hk) (Nat.le_refl _)] at hsv
        simp only [Option.some.injEq] at hsv
        subst hsv
        rcases tr.next hk with ⟨hn, _⟩ | ⟨hn, _, _, hres⟩
        · exact Rv.mono hle _ _ (I.new k ok t hk hkt (hall k ok hk) hn)
        · rw [hres]
          simp only [Rv]
          refine ⟨?_, I.newA k ok t hk hkt (hall k ok hk) (by omega)⟩
          have := tr.mono (k + 1) ops.size (lt_of_get hk) (Nat.le_refl _)
          show (at_ k).next < (at_ ops.size).next
          omega
      · rw [tr.env_none t ops.size (Nat.le_refl _) (fun j oj _ hj e => hw ⟨j, oj, hj, e⟩)] at hsv
        exact Rv.mono hle _ _ (I.old t sv (fun j oj hj e => absurd ⟨j, oj, hj, e⟩ hw) hsv)
    · intro h hb hh
      have hh' := hh
      rw [← hheap h] at hh
      refine ⟨?_, blkAt_mono (I.heap h hb hh) hle (Nat.le_refl _) (fun _ => rfl)⟩
      -- the handle is one of the known
      show h < (at_ ops.size).next
      have key : ∀ n, n ≤ ops.size → (∀ hb, hpR vs.heap tc nb L n h = some hb → h < (at_ ops.size).next) := by
        intro n
        induction n with
        | zero =>
          intro _ hb hx
          have := (R.heap.blk h hb hx).1
          omega
        | succ n ih =>
          intro hn hb hx
          rw [hpR] at hx
          split at hx
          · rename_i hc
            obtain ⟨o, ho⟩ := get_of_lt (ops := ops) (i := n) (by omega)
            rcases tr.next ho with ⟨_, h1 | ⟨h1, _⟩⟩ | ⟨h1, h2, _⟩
            · rw [h1] at hc; cases hc.2
            · -- a store: its handle was known
              rcases (tr.step n o ho).sem with ⟨_, _, h3, _⟩ | ⟨_, ⟨_, h3, _⟩ | ⟨_, _, _, _, _, _, _, _, _, _, _, h3, _⟩ | ⟨_, _, h2, _⟩ | ⟨t', x', y', h', j', v', ti', l', m', _, _, _, _, hH', _, _, _, _, _, h3, _⟩⟩
              · rw [h3] at hc; cases hc.2
              · rw [h3] at hc; cases hc.2
              · rw [h3] at hc; cases hc.2
              · rw [h2] at h1; cases h1
              · rw [h3] at hc
                have e := hc.2
                simp only [Option.some.injEq] at e
                subst e
                rw [tr.mheap n o ho] at hH'
                have := tr.heap_at L h' n (by omega) (fun k hk htk => htcL k h' (by omega) htk)
                exact ih (by omega) _ (by rw [this]; exact hH')
            · rw [h2] at hc
              have e := hc.2
              simp only [Option.some.injEq] at e
              have := tr.mono (n + 1) ops.size hn (Nat.le_refl _)
              omega
          · exact ih (by omega) hb hx
      exact key ops.size (Nat.le_refl _) hb hh
    · intro h h' hb hb' hne hh hh' hro hlv
      rw [← hheap h] at hh
      rw [← hheap h'] at hh'
      exact I.sep h h' hb hb' hne hh hh' hro hlv
    · intro h hb hh hro
      rw [← hheap h] at hh
      exact I.own h hb hh hro
  refine wp_region_any hm ?_
  have main : ∀ (fuel : Nat) (listed : Array Bool) (a : Act) (w : World) (loc : Nat → Base), listed.size = ops.size → (listed.toList.countP (fun b => !b)) ≤ fuel → Closed ops (fun k => listed.getD k false) → InvD C ops g vs at_ res tc nb (fun k => listed.getD k false) a w loc →
      wpAny P .any ops Q fuel listed a w := by
    intro fuel
    have stuck : ∀ (listed : Array Bool), listed.size = ops.size → Region.ready .any ops listed = [] → ∀ (k : Nat) (o : Oper), ops[k]? = some o → listed.getD k false = true := by
      intro listed hs hr k
      induction k using Nat.strongRecOn with
      | _ k ih =>
        intro o ho
        cases hl : listed.getD k false with
        | true => rfl
        | false =>
          exfalso
          have hlt : k < listed.size := by rw [hs]; exact lt_of_get ho
          have hl' : listed.getD k true = false := by
            simp only [Array.getD, hlt, dif_pos] at hl ⊢; exact hl
          have : k ∈ Region.ready .any ops listed := mem_ready.2 ⟨hl', o, ho, fun e he hb => by
            have hb' := hD.back k o ho e he hb
            obtain ⟨oe, hoe⟩ := get_of_lt (ops := ops) (i := e.on) (by have := lt_of_get ho; omega)
            exact ih e.on hb' oe hoe⟩
          rw [hr] at this; cases this
    induction fuel with
    | zero =>
      intro listed a w loc hs hcnt hc I
      have hallt : ∀ (k : Nat) (o : Oper), ops[k]? = some o → listed.getD k false = true := by
        intro k o ho
        have hlt : k < listed.size := by rw [hs]; exact lt_of_get ho
        have h0 : listed.toList.countP (fun b => !b) = 0 := by omega
        rw [List.countP_eq_zero] at h0
        have := h0 listed[k] (by simp)
        simp only [Array.getD, hlt, dif_pos]
        simpa using this
      refine ⟨?_, close _ a w loc hallt I⟩
      cases hr : Region.ready .any ops listed with
      | nil => rfl
      | cons x xs =>
        have hx : x ∈ Region.ready .any ops listed := by rw [hr]; simp
        obtain ⟨h1, o, ho, _⟩ := mem_ready.1 hx
        have hlt : x < listed.size := by rw [hs]; exact lt_of_get ho
        have := hallt x o ho
        simp only [Array.getD, hlt, dif_pos] at h1 this
        rw [this] at h1; cases h1
    | succ fuel ih =>
      intro listed a w loc hs hcnt hc I
      refine ⟨fun hr => close _ a w loc (stuck listed hs hr) I, ?_⟩
      intro i hi
      obtain ⟨h1, o, ho, h2⟩ := mem_ready.1 hi
      have hlt : i < listed.size := by rw [hs]; exact lt_of_get ho
      have hLi : (fun k => listed.getD k false) i = false := by
        simp only [Array.getD, hlt, dif_pos] at h1 ⊢; exact h1
      refine step_any hT tr hD hdst R.next hE I hc ho hLi h2 ?_
      intro a' w' loc' I'
      have hL' : (fun k => (listed.setIfInBounds i true).getD k false) = addL (fun k => listed.getD k false) i := by
        funext k
        simp only [addL]
        by_cases e : k = i
        · subst e; simp [Array.getD, hlt]
        · rw [if_neg e]
          simp only [Array.getD_eq_getD_getElem?, Array.getElem?_setIfInBounds_ne (Ne.symm e)]
      refine ih _ a' w' loc' (by simp [hs]) ?_ ?_ (by rw [hL']; exact I')
      · have hget : listed[i] = false := by simp only [Array.getD, hlt, dif_pos] at h1; exact h1
        have e1 : (listed.setIfInBounds i true).toList = listed.toList.set i true := by simp
        rw [e1]
        have e2 : (listed.toList.set i true).countP (fun b => !b) + 1 = listed.toList.countP (fun b => !b) := by
          have : ∀ (l : List Bool) (i : Nat) (hi : i < l.length), l[i] = false → (l.set i true).countP (fun b => !b) + 1 = l.countP (fun b => !b) := by
            intro l
            induction l with
            | nil => intro i hi; simp at hi
            | cons b l ihl =>
              intro i hi hb
              cases i with
              | zero => simp at hb; subst hb; simp
              | succ i =>
                have := ihl i (by simpa using hi) (by simpa using hb)
                simp only [List.set_cons_succ, List.countP_cons]
                omega
          exact this listed.toList i (by simpa using hlt) (by simpa using hget)
        omega
      · rw [hL']
        intro k ok hk hLk e he hb
        simp only [addL] at hLk ⊢
        split
        · rfl
        · split at hLk
          · rename_i e1; subst e1; rw [ho] at hk; cases hk; exact h2 e he hb
          · exact hc k ok hk hLk e he hb
  refine main ops.size _ a _ g.f (by simp) ?_ ?_ ?_
  · have : ∀ n, (List.replicate n false).countP (fun b => !b) ≤ n := fun n => by simpa using List.countP_le_length (p := fun b => !b) (l := List.replicate n false)
    simpa using this ops.size
  · intro i o hi hL
    simp [Array.getD] at hL
  · have hno : ∀ h, hpR vs.heap tc nb (fun k => (Array.replicate ops.size false).getD k false) ops.size h = aget vs.heap h := by
      intro h
      have : ∀ n, hpR vs.heap tc nb (fun k => (Array.replicate ops.size false).getD k false) n h = aget vs.heap h := by
        intro n
        induction n with
        | zero => rfl
        | succ n ih => rw [hpR, if_neg (by simp [Array.getD]), ih]
      exact this _
    refine ⟨R.size, R.defers, fun _ _ => rfl, fun t sv _ ht => R.env t sv ht, fun k o t _ _ hL _ => by simp [Array.getD] at hL, fun k o t _ _ hL _ => by simp [Array.getD] at hL, ?_, ?_, ⟨R.fr.os, R.fr.tape, R.fr.output, R.fr.size, R.fr.block⟩, ?_⟩
    · intro h hb hh
      rw [hno] at hh
      exact blk_keep (R.heap.blk h hb hh).2 (Nat.le_refl _) (fun _ _ => rfl)
    · intro h h' hb hb' hne hh hh' hro hlv
      rw [hno] at hh hh'
      exact R.heap.sep h h' hb hb' hne hh hh' hro hlv
    · intro h hb hh hro
      rw [hno] at hh
      exact R.own h hb hh hro
end
end Go.Sx
