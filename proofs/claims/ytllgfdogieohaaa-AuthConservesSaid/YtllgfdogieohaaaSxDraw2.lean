/- The generator is right: regions whose order is open, whatever the order. No program in sight. -/
import Derived.Test.YtllgfdogieohaaaSxDraw
import Derived.Test.YtllgfdogieohaaaSxSound5
namespace Go.Sx
open Go.RowKit

theorem hasSlot_ok : ∀ (l : List Nat) (t : Nat), hasSlot l t = true ↔ t ∈ l
  | [], t => by simp [hasSlot]
  | x :: r, t => by
    simp only [hasSlot, Bool.or_eq_true, List.mem_cons, hasSlot_ok r t]
    constructor
    · rintro (h | h)
      · exact .inl (Nat.eq_of_beq_eq_true h).symm
      · exact .inr h
    · rintro (h | h)
      · subst h; exact .inl (Nat.beq_refl t)
      · exact .inr h

theorem beqF {a b : Nat} (h : a ≠ b) : Nat.beq a b = false := by
  cases hb : Nat.beq a b with
  | true => exact absurd (Nat.eq_of_beq_eq_true hb) h
  | false => rfl

theorem opSlots_ok : ∀ (l : List Operand) (t : Nat), Operand.tmp t ∈ l → t ∈ opSlots l
  | [], t, h => by cases h
  | x :: r, t, h => by
    cases h with
    | head => simp [opSlots]
    | tail _ h => have := opSlots_ok r t h; cases x <;> simp [opSlots, this]

/-- What 'drawOk' says. -/
structure Draw (ops : Array Oper) : Prop where
  back : ∀ (i : Nat) (o : Oper), ops[i]? = some o → ∀ e ∈ o.after, Region.binds .any e = true → e.on < i
  self : ∀ (i : Nat) (o : Oper) (t : Nat), ops[i]? = some o → o.dst = some t → t ∉ looks ops.toList o
  uniq : ∀ (i j : Nat) (oi oj : Oper) (t : Nat), i ≠ j → ops[i]? = some oi → ops[j]? = some oj → oi.dst = some t → oj.dst ≠ some t
  look : ∀ (i j : Nat) (oi oj : Oper) (t : Nat), i ≠ j → ops[i]? = some oi → ops[j]? = some oj → oj.dst = some t → t ∈ looks ops.toList oi → ordered i j oi oj = true ∧ (isNew oj.op = true → onlyAddr ops.toList oi t = true)
  mem : ∀ (i j : Nat) (oi oj : Oper), i ≠ j → ops[i]? = some oi → ops[j]? = some oj → isStore oj.op = true → isMem oi.op = true → ordered i j oi oj = true

theorem rowOk_ok (l : List Oper) (i : Nat) (oi : Oper) : ∀ (r : List Oper) (j : Nat), rowOk l i oi j r = true → ∀ k o, r[k]? = some o → pairOk l i (j + k) oi o = true
  | [], j, _, k, o, h => by simp at h
  | x :: r, j, hr, k, o, h => by
    simp only [rowOk, Bool.and_eq_true] at hr
    cases k with
    | zero => simp at h; subst h; exact hr.1
    | succ k =>
      have := rowOk_ok l i oi r (j + 1) hr.2 k o (by simpa using h)
      rw [show j + (k + 1) = j + 1 + k from by omega]; exact this

theorem rowsOk_ok (l : List Oper) : ∀ (r : List Oper) (i : Nat), rowsOk l i r = true → ∀ k o, r[k]? = some o → selfOk l (i + k) o = true ∧ rowOk l (i + k) o 0 l = true
  | [], i, _, k, o, h => by simp at h
  | x :: r, i, hr, k, o, h => by
    simp only [rowsOk, Bool.and_eq_true] at hr
    cases k with
    | zero => simp at h; subst h; exact hr.1
    | succ k =>
      have := rowsOk_ok l r (i + 1) hr.2 k o (by simpa using h)
      rw [show i + (k + 1) = i + 1 + k from by omega]; exact this

theorem draw_of {ops : Array Oper} (h : drawOk ops.toList = true) : Draw ops := by
  have rows : ∀ (i : Nat) (o : Oper), ops[i]? = some o → selfOk ops.toList i o = true ∧ ∀ (j : Nat) (oj : Oper), ops[j]? = some oj → pairOk ops.toList i j o oj = true := by
    intro i o hi
    have := rowsOk_ok ops.toList ops.toList 0 h i o (by simpa using hi)
    simp only [Nat.zero_add] at this
    refine ⟨this.1, fun j oj hj => ?_⟩
    have h2 := rowOk_ok ops.toList i o ops.toList 0 this.2 j oj (by simpa using hj)
    simpa using h2
  refine ⟨?_, ?_, ?_, ?_, ?_⟩
  · intro i o hi e he hb
    have := (rows i o hi).1
    simp only [selfOk, Bool.and_eq_true, edgesBack, List.all_eq_true] at this
    have := this.1.2 e (by simpa using he)
    simp only [hb, Bool.not_true, Bool.false_or] at this
    exact Nat.lt_of_lt_of_le (Nat.lt_succ_self _) (Nat.le_of_ble_eq_true this)
  · intro i o t hi ht hm
    have := (rows i o hi).1
    simp only [selfOk, Bool.and_eq_true, ht, Bool.not_eq_true'] at this
    rw [(hasSlot_ok _ t).2 hm] at this
    simp at this
  · intro i j oi oj t hne hi hj hdi hdj
    have := (rows i oi hi).2 j oj hj
    simp only [pairOk, beqF hne, Bool.false_or, Bool.and_eq_true, hdj, hdi, Nat.beq_refl] at this
    simp at this
  · intro i j oi oj t hne hi hj hdj hm
    have := (rows i oi hi).2 j oj hj
    simp only [pairOk, beqF hne, Bool.false_or, Bool.and_eq_true, hdj, (hasSlot_ok _ t).2 hm, Bool.not_true, Bool.or_eq_true, Bool.not_eq_true'] at this
    exact ⟨this.1.2.1, fun hn => by rcases this.1.2.2 with h | h; (rw [hn] at h; cases h); exact h⟩
  · intro i j oi oj hne hi hj hs hm
    have := (rows i oi hi).2 j oj hj
    simp only [pairOk, beqF hne, Bool.false_or, Bool.and_eq_true, hs, hm, Bool.and_self, Bool.not_true] at this
    exact this.2

theorem ordered_lt {i j : Nat} {oi oj : Oper} (h : ordered i j oi oj = true) : (i < j ∧ edgeTo oj i = true) ∨ (j < i ∧ edgeTo oi j = true) := by
  simp only [ordered, Bool.or_eq_true, Bool.and_eq_true] at h
  rcases h with ⟨h1, h2⟩ | ⟨h1, h2⟩
  · exact .inl ⟨Nat.le_of_ble_eq_true h1, h2⟩
  · exact .inr ⟨Nat.le_of_ble_eq_true h1, h2⟩

theorem edgeTo_ok {o : Oper} {j : Nat} (h : edgeTo o j = true) : ∃ e ∈ o.after, Region.binds .any e = true ∧ e.on = j := by
  simp only [edgeTo, List.any_eq_true, Bool.and_eq_true] at h
  obtain ⟨e, h1, h2, h3⟩ := h
  exact ⟨e, by simpa using h1, h2, Nat.eq_of_beq_eq_true h3⟩

def restr {α : Type} (e : List (Nat × α)) : List Nat → List (Nat × α)
  | [] => []
  | t :: r => match aget e t with
    | some v => (t, v) :: restr e r
    | none => restr e r

theorem restr_get {α : Type} (e : List (Nat × α)) : ∀ (ts : List Nat) (t : Nat) (v : α), aget (restr e ts) t = some v → t ∈ ts ∧ aget e t = some v
  | [], t, v, h => by simp [restr, aget] at h
  | x :: r, t, v, h => by
    simp only [restr] at h
    split at h
    · rename_i u hu
      rw [aget_cons] at h
      split at h
      · rename_i e'; subst e'; exact ⟨by simp, by rw [hu]; exact h⟩
      · have := restr_get e r t v h; exact ⟨by simp [this.1], this.2⟩
    · have := restr_get e r t v h; exact ⟨by simp [this.1], this.2⟩

theorem restr_put {α : Type} (e : List (Nat × α)) : ∀ (ts : List Nat) (t : Nat), t ∈ ts → aget (restr e ts) t = aget e t
  | [], t, h => by cases h
  | x :: r, t, h => by
    simp only [restr]
    by_cases hx : x = t
    · subst hx
      cases hu : aget e x with
      | some u => simp [aget_cons]
      | none =>
        simp only
        cases hr : aget (restr e r) x with
        | none => rfl
        | some v => have := (restr_get e r x v hr).2; rw [hu] at this; cases this
    · have hr : t ∈ r := by cases h with | head => exact absurd rfl hx | tail _ h => exact h
      cases hu : aget e x with
      | some u => simp only; rw [aget_cons, if_neg hx]; exact restr_put e r t hr
      | none => exact restr_put e r t hr

/-- The operation looks at its operands, and at memory only where it is one of memory. -/
theorem gv_congr {vs vs' : VS} {xs : List Operand} (h : ∀ t ∈ opSlots xs, aget vs'.env t = aget vs.env t) {x : Operand} (hx : x ∈ xs) : gv vs' x = gv vs x := by
  cases x with
  | tmp t => exact h t (opSlots_ok xs t hx)
  | _ => rfl

theorem gvs_congr {vs vs' : VS} : ∀ (xs : List Operand), (∀ x ∈ xs, gv vs' x = gv vs x) → gvs vs' xs = gvs vs xs
  | [], _ => rfl
  | x :: r, h => by
    simp only [gvs, h x (by simp), gvs_congr r (fun y hy => h y (by simp [hy]))]

theorem buildL_congr {vs vs' : VS} (ti : TI) : ∀ (ps : List (Nat × Operand)) (l : List SV), (∀ p ∈ ps, gv vs' p.2 = gv vs p.2) → buildL vs' ti ps l = buildL vs ti ps l
  | [], l, _ => rfl
  | (i, x) :: r, l, h => by
    simp only [buildL, h (i, x) (by simp)]
    have ih := fun m => buildL_congr ti r m (fun p hp => h p (by simp [hp]))
    simp only [ih]

section
variable {P : Program} {T : Tab} {g : G} {a : Act} {w : World}

theorem evR_congr {vs vs' : VS} {op : Op} {K : SV → Prop} (hs : ∀ x ∈ op.operands.toList, gv vs' x = gv vs x) (hh : isMem op = true → ∀ h, h < vs'.next → aget vs'.heap h = aget vs.heap h)
    (hb : ∀ x ∈ op.operands.toList, ∀ sv, gv vs' x = some sv → SV.wf vs'.next sv = true) (h : evR T vs op K) : evR T vs' op K := by
  cases op with
  | move x => simp only [evR] at h ⊢; rw [hs x (by simp [Op.operands])]; exact h
  | assign x => simp only [evR] at h ⊢; rw [hs x (by simp [Op.operands])]; exact h
  | pick c x y => simp only [evR] at h ⊢; rw [hs c (by simp [Op.operands]), hs x (by simp [Op.operands]), hs y (by simp [Op.operands])]; exact h
  | binOp op t x y t' => simp only [evR] at h ⊢; rw [hs x (by simp [Op.operands]), hs y (by simp [Op.operands])]; exact h
  | unOp op t x => simp only [evR] at h ⊢; rw [hs x (by simp [Op.operands])]; exact h
  | fieldAddr s x f => simp only [evR] at h ⊢; rw [hs x (by simp [Op.operands])]; exact h
  | field s x f => simp only [evR] at h ⊢; rw [hs x (by simp [Op.operands])]; exact h
  | load t x =>
    simp only [evR] at h ⊢
    have e := hs x (by simp [Op.operands])
    have b := hb x (by simp [Op.operands])
    cases hv : gv vs' x with
    | none => rw [hv] at e; rw [← e] at h; exact h
    | some sv =>
      have b := b sv hv
      rw [hv] at e
      rw [← e] at h
      cases sv with
      | ptr hd i j =>
        have hlt : hd < vs'.next := Nat.le_of_ble_eq_true b
        have := hh rfl hd hlt
        cases hti : aget T t with
        | none => rw [hti] at h; exact h
        | some ti => rw [hti] at h; simp only [this]; exact h
      | _ => exact h
  | extract x ix => simp only [evR] at h ⊢; rw [hs x (by simp [Op.operands])]; exact h
  | index t x ix => simp only [evR] at h ⊢; rw [hs x (by simp [Op.operands]), hs ix (by simp [Op.operands])]; exact h
  | indexAddr t x ix =>
    simp only [evR] at h ⊢
    have e := hs x (by simp [Op.operands])
    have b := hb x (by simp [Op.operands])
    rw [hs ix (by simp [Op.operands])]
    split at h
    · rename_i hd i n c k m ti hx hi hti
      rw [hx] at e
      have hlt : hd < vs'.next := Nat.le_of_ble_eq_true (b _ e)
      have := hh rfl hd hlt
      simp only [e, hi, hti, this]
      exact h
    · exact h.elim
  | build t parts =>
    simp only [evR] at h ⊢
    have : ∀ ti l, buildL vs' ti parts.toList l = buildL vs ti parts.toList l := fun ti l => buildL_congr ti parts.toList l (fun p hp => hs p.2 (by
      simp only [Op.operands, List.mem_map]
      exact ⟨p, hp, rfl⟩))
    simp only [this]; exact h
  | call c =>
    obtain ⟨callee, args, ts⟩ := c
    cases callee with
    | value f => simp only [evR] at h
    | invoke r m => simp only [evR] at h
    | builtin b =>
      have hs' : ∀ x ∈ args.toList, gv vs' x = gv vs x := fun x hx => hs x (by simpa [Op.operands, Call.operands] using hx)
      simp only [evR] at h ⊢
      split at h
      · rename_i x hx; simp only [hs' x (by rw [hx]; simp)]; exact h
      · rename_i x y hx; simp only [hs' x (by rw [hx]; simp), hs' y (by rw [hx]; simp)]; exact h
      · rename_i x y hx; simp only [hs' x (by rw [hx]; simp), hs' y (by rw [hx]; simp)]; exact h
      · exact h.elim
  | convert s d x => simp only [evR] at h ⊢; rw [hs x (by simp [Op.operands])]; exact h
  | _ => simp only [evR] at h
end
end Go.Sx
