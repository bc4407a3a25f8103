/- The generator is right: regions whose order is open. No program in sight. -/
import Derived.Test.YtllgfdogieohaaaSxSound4
import Derived.Orders
namespace Go.Sx
open Go.RowKit

/-- What an operation does to the state, step by step in the order of the text. -/
structure StepR (P : Program) (T : Tab) (ops : List Oper) (o : Oper) (vs vs' : VS) (r : SV) (tc : Option Nat) (nb : HB) : Prop where
  env : ∀ t, aget vs'.env t = if o.dst = some t then some r else aget vs.env t
  heap : ∀ h, aget vs'.heap h = if tc = some h then some nb else aget vs.heap h
  sem :
    ((∃ j want oj d, o.guard = some (j, want) ∧ nth ops j = some oj ∧ oj.dst = some d ∧ ((∃ b, aget vs.env d = some (.bool b) ∧ b ≠ want) ∨ (∃ x, aget vs.env d = some (.raw (.tuple x))))) ∧ r = .raw undef ∧ tc = none ∧ vs'.next = vs.next) ∨
    ((o.guard = none ∨ ∃ j want oj d, o.guard = some (j, want) ∧ nth ops j = some oj ∧ oj.dst = some d ∧ aget vs.env d = some (.bool want)) ∧
      ((evR T vs o.op (fun v => v = r) ∧ tc = none ∧ vs'.next = vs.next) ∨
       (∃ fo args ts f l, o.op = .call ⟨.value fo, args, ts⟩ ∧ gv vs fo = some (.raw (.func (.func f) #[] #[])) ∧ gvs vs args.toList = some l ∧ Pure P f l r ∧ SV.plains l = true ∧ SV.plain r = true ∧ tc = none ∧ vs'.next = vs.next) ∨
       (∃ t ti, o.op = .alloc t ∧ aget T t = some ti ∧ ti.zero.isEmpty = false ∧ r = .ptr vs.next 0 0 ∧ tc = some vs.next ∧ nb = ⟨false, .cells ti.zero⟩ ∧ vs'.next = vs.next + 1) ∨
       (∃ t x y h j v ti l m, o.op = .store t x y ∧ gv vs x = some (.ptr h 0 j) ∧ gv vs y = some v ∧ aget T t = some ti ∧ aget vs.heap h = some ⟨false, .cells l⟩ ∧ v.cells = some m ∧ allOne m = true ∧ m.length = ti.size ∧ j + m.length ≤ l.length ∧
          r = .raw undef ∧ tc = some h ∧ nb = ⟨false, .cells (setMany l j m)⟩ ∧ vs'.next = vs.next)))

theorem br_cases {b : Bool} {p q : Prop} (h : br b p q) : (b = true ∧ p) ∨ (b = false ∧ q) := by cases b; exact .inr ⟨rfl, h⟩; exact .inl ⟨rfl, h⟩

theorem putK_env {vs : VS} {d : Option Nat} {r : SV} {K : VS → Prop} (h : putK vs d r K) : ∃ vs', K vs' ∧ (∀ t, aget vs'.env t = if d = some t then some r else aget vs.env t) ∧ vs'.heap = vs.heap ∧ vs'.next = vs.next := by
  obtain ⟨e, H, n⟩ := vs
  cases d with
  | none => exact ⟨_, h, by simp, rfl, rfl⟩
  | some d => exact ⟨_, h, fun t => by simp [aget_cons], rfl, rfl⟩

section
variable {P : Program} {T : Tab} {ops : List Oper}

theorem evR_ext {vs : VS} {op : Op} {K : SV → Prop} (h : evR T vs op K) : ∃ r, K r ∧ evR T vs op (fun v => v = r) := by
  have bi : ∀ (op : BinOp) (k : IntKind) (x y : Int), binInt op k x y K → ∃ r, K r ∧ binInt op k x y (fun v => v = r) := by
    intro op k x y h
    cases op <;> simp only [binInt] at h ⊢ <;> first | exact ⟨_, h, rfl⟩ | exact ⟨_, h.2, h.1, rfl⟩ | exact h.elim
  have bs : ∀ (op : BinOp) (x y : ByteArray), binStr op x y K → ∃ r, K r ∧ binStr op x y (fun v => v = r) := by
    intro op x y h
    cases op <;> simp only [binStr] at h ⊢ <;> first | exact ⟨_, h, rfl⟩ | exact ⟨_, h.2, h.1, rfl⟩ | exact h.elim
  have bk : ∀ (op : BinOp) (t : TypeId) (a b : SV), binK T op t a b K → ∃ r, K r ∧ binK T op t a b (fun v => v = r) := by
    intro op t a b h
    unfold binK at h ⊢
    split at h
    · rename_i p x q y
      obtain ⟨h1, h2⟩ := bif_elim h
      simp only [h1, cond_true]
      exact bi op p x y h2
    · exact bs _ _ _ h
    · split at h
      · rename_i ti hti
        obtain ⟨h1, h2⟩ := bif_elim h
        simp only [h1, cond_true]
        split at h2 <;> first | exact ⟨_, h2, rfl⟩ | exact h2.elim
      · exact h.elim
    · split at h
      · rename_i ti hti
        obtain ⟨h1, h2⟩ := bif_elim h
        simp only [h1, cond_true]
        split at h2
        · split at h2 <;> first | exact ⟨_, h2, rfl⟩ | exact h2.elim
        · exact h2.elim
      · exact h.elim
    · exact h.elim
  cases op with
  | move x => simp only [evR] at h ⊢; split at h <;> first | (rename_i v hv; exact ⟨v, h, rfl⟩) | exact h.elim
  | assign x => simp only [evR] at h ⊢; split at h <;> first | (rename_i v hv; exact ⟨v, h, rfl⟩) | exact h.elim
  | pick c x y =>
    simp only [evR] at h ⊢
    split at h
    · split at h <;> first | (rename_i v hv; exact ⟨v, h, rfl⟩) | exact h.elim
    · split at h <;> first | (rename_i v hv; exact ⟨v, h, rfl⟩) | exact h.elim
    · exact h.elim
  | binOp op t x y t' =>
    simp only [evR] at h ⊢
    split at h
    · exact bk _ _ _ _ h
    · exact h.elim
  | unOp op t x => simp only [evR] at h ⊢; split at h <;> first | exact ⟨_, h, rfl⟩ | exact h.elim
  | fieldAddr s x f =>
    simp only [evR] at h ⊢
    split at h
    · obtain ⟨h1, h2⟩ := bif_elim' h
      simp only [h1, cond_false]
      split at h2
      · obtain ⟨h3, h4⟩ := bif_elim' h2
        simp only [h3, cond_false]
        exact ⟨_, h4, rfl⟩
      · exact h2.elim
    · exact h.elim
  | field s x f =>
    simp only [evR] at h ⊢
    split at h
    · obtain ⟨h1, h2⟩ := bif_elim' h
      simp only [h1, cond_false]
      split at h2
      · rename_i o n ag hf
        obtain ⟨h3, h4⟩ := bif_elim' h2
        simp only [h3, cond_false]
        cases ag
        · simp only [cond_false] at h4 ⊢; split at h4 <;> first | exact ⟨_, h4, rfl⟩ | exact h4.elim
        · simp only [cond_true] at h4 ⊢; split at h4 <;> first | exact ⟨_, h4, rfl⟩ | exact h4.elim
      · exact h2.elim
    · exact h.elim
  | load t x =>
    simp only [evR] at h ⊢
    split at h
    · rename_i hd i j ti hx hti
      split at h
      · rename_i hb hhb
        obtain ⟨hi, h2⟩ := need_ok h
        have back : ∀ p : Prop, p → hb.b.need i p := by
          intro p hp
          cases hbb : hb.b with
          | cells l => rw [hbb] at hi; simp only [Blk.has] at hi; subst hi; exact hp
          | cols n l => rw [hbb] at hi; exact ⟨hi, hp⟩
        cases hag : ti.agg
        · rw [hag] at h2; simp only [cond_false] at h2
          split at h2
          · rename_i v hv; refine ⟨_, h2, back _ ?_⟩; simp
          · exact h2.elim
        · rw [hag] at h2; simp only [cond_true] at h2
          split at h2
          · rename_i v hv; refine ⟨_, h2, back _ ?_⟩; simp
          · exact h2.elim
      · exact h.elim
    · exact h.elim
  | extract x ix =>
    simp only [evR] at h ⊢
    split at h
    · split at h <;> first | exact ⟨_, h, rfl⟩ | exact h.elim
    · exact h.elim
  | index t x ix =>
    simp only [evR] at h ⊢
    split at h
    · obtain ⟨h1, h2⟩ := bif_elim h
      simp only [h1, cond_true]
      exact ⟨_, h2.2, h2.1, rfl⟩
    · exact h.elim
  | indexAddr t x ix =>
    simp only [evR] at h ⊢
    split at h
    · obtain ⟨h1, h2⟩ := bif_elim' h
      simp only [h1, cond_false]
      obtain ⟨h3, h4⟩ := h2
      split at h4
      · obtain ⟨h5, h6⟩ := bif_elim h4
        simp only [h5, cond_true]
        exact ⟨_, h6, h3, rfl⟩
      · exact h4.elim
    · exact h.elim
  | build t parts =>
    simp only [evR] at h ⊢
    split at h
    · obtain ⟨h1, h2⟩ := bif_elim h
      simp only [h1, cond_true]
      split at h2 <;> first | exact ⟨_, h2, rfl⟩ | exact h2.elim
    · exact h.elim
  | call c =>
    obtain ⟨callee, args, ts⟩ := c
    cases callee with
    | value f => simp only [evR] at h
    | invoke r m => simp only [evR] at h
    | builtin b =>
      simp only [evR] at h ⊢
      split at h
      · split at h
        · split at h
          · obtain ⟨h1, h2⟩ := bif_elim h; simp only [h1, cond_true]; exact ⟨_, h2, rfl⟩
          · obtain ⟨h1, h2⟩ := bif_elim h; simp only [h1, cond_true]; exact ⟨_, h2, rfl⟩
          · obtain ⟨h1, h2⟩ := bif_elim h; simp only [h1, cond_true]; exact ⟨_, h2, rfl⟩
          · exact h.elim
        · exact h.elim
      · split at h
        · obtain ⟨h1, h2⟩ := bif_elim h; simp only [h1, cond_true]; exact ⟨_, h2, rfl⟩
        · exact h.elim
      · split at h
        · obtain ⟨h1, h2⟩ := bif_elim h; simp only [h1, cond_true]; exact ⟨_, h2, rfl⟩
        · exact h.elim
      · exact h.elim
  | convert s d x =>
    simp only [evR] at h ⊢
    split at h
    · obtain ⟨h1, h2⟩ := bif_elim h; simp only [h1, cond_true]; exact ⟨_, h2, rfl⟩
    · exact h.elim
  | _ => simp only [evR] at h

theorem vexD_step {o : Oper} {vs v0 : VS} {K : VS → Prop} (h : vexD P T o vs K) (he : ∀ t, aget vs.env t = aget v0.env t) (hh : vs.heap = v0.heap) (hn : vs.next = v0.next)
    (hg : o.guard = none ∨ ∃ j want oj d, o.guard = some (j, want) ∧ nth ops j = some oj ∧ oj.dst = some d ∧ aget vs.env d = some (.bool want)) :
    ∃ vs' r tc nb, K vs' ∧ StepR P T ops o vs vs' r tc nb := by
  have same : ∀ r, putK vs o.dst r K → ((evR T vs o.op (fun v => v = r)) ∨ (∃ fo args ts f l, o.op = .call ⟨.value fo, args, ts⟩ ∧ gv vs fo = some (.raw (.func (.func f) #[] #[])) ∧ gvs vs args.toList = some l ∧ Pure P f l r ∧ SV.plains l = true ∧ SV.plain r = true)) →
      ∃ vs' r tc nb, K vs' ∧ StepR P T ops o vs vs' r tc nb := by
    intro r hp hs
    obtain ⟨vs', k1, k2, k3, k4⟩ := putK_env hp
    refine ⟨vs', r, none, ⟨false, .cells []⟩, k1, k2, fun h => by rw [k3]; simp, .inr ⟨hg, ?_⟩⟩
    rcases hs with hs | ⟨fo, args, ts, f, l, h1, h2, h3, h4, h5, h6⟩
    · exact .inl ⟨hs, rfl, k4⟩
    · exact .inr (.inl ⟨fo, args, ts, f, l, h1, h2, h3, h4, h5, h6, rfl, k4⟩)
  unfold vexD at h
  split at h
  · rename_i t hop
    split at h
    · rename_i ti hti
      obtain ⟨h1, h2⟩ := bif_elim' h
      obtain ⟨e, H, n⟩ := vs
      unfold newK at h2
      cases hd : o.dst with
      | none =>
        rw [hd] at h2
        exact ⟨_, .ptr n 0 0, some n, ⟨false, .cells ti.zero⟩, h2, fun t => by simp [hd], fun h => by simp [aget_cons], .inr ⟨hg, .inr (.inr (.inl ⟨t, ti, hop, hti, h1, rfl, rfl, rfl, rfl⟩))⟩⟩
      | some d =>
        rw [hd] at h2
        exact ⟨_, .ptr n 0 0, some n, ⟨false, .cells ti.zero⟩, h2, fun t => by simp [hd, aget_cons], fun h => by simp [aget_cons], .inr ⟨hg, .inr (.inr (.inl ⟨t, ti, hop, hti, h1, rfl, rfl, rfl, rfl⟩))⟩⟩
    · exact h.elim
  · rename_i t x y hop
    split at h
    · rename_i hd j v ti hx hy hti
      split at h
      · rename_i l hH
        obtain ⟨e, H, n⟩ := vs
        have fin : ∀ m, v.cells = some m → allOne m = true → m.length = ti.size → j + m.length ≤ l.length → putK ⟨e, (hd, ⟨false, .cells (setMany l j m)⟩) :: H, n⟩ o.dst (.raw undef) K →
            ∃ vs' r tc nb, K vs' ∧ StepR P T ops o ⟨e, H, n⟩ vs' r tc nb := by
          intro m h1 h2 h3 h4 hp
          obtain ⟨vs', k1, k2, k3, k4⟩ := putK_env hp
          exact ⟨vs', .raw undef, some hd, ⟨false, .cells (setMany l j m)⟩, k1, k2, fun h => by rw [k3]; simp [aget_cons], .inr ⟨hg, .inr (.inr (.inr ⟨t, x, y, hd, j, v, ti, l, m, hop, hx, hy, hti, hH, h1, h2, h3, h4, rfl, rfl, rfl, k4⟩))⟩⟩
        have one : ∀ s : SV, s = v → s.one = true → s.cells = some [s] → (Nat.beq ti.size 1 && Nat.ble (j + 1) l.length) = true → setK ⟨e, H, n⟩ hd (.cells (setNth l j s)) (fun vs' => putK vs' o.dst (.raw undef) K) →
            ∃ vs' r tc nb, K vs' ∧ StepR P T ops o ⟨e, H, n⟩ vs' r tc nb := by
          intro s hs h1 h2 hc hset
          subst hs
          simp only [Bool.and_eq_true] at hc
          exact fin [s] h2 (by simp [allOne, h1]) (by simp [Nat.eq_of_beq_eq_true hc.1]) (by simpa using Nat.le_of_ble_eq_true hc.2) (by simpa [setMany, setK] using hset)
        unfold storeK at h
        split at h
        · obtain ⟨hc, hk⟩ := bif_elim h
          simp only [Bool.and_eq_true] at hc
          exact fin _ rfl hc.1.1 (Nat.eq_of_beq_eq_true hc.1.2) (Nat.le_of_ble_eq_true hc.2) (by simpa [setK] using hk)
        · obtain ⟨hc, hk⟩ := bif_elim h; exact one _ rfl rfl rfl hc hk
        · obtain ⟨hc, hk⟩ := bif_elim h; exact one _ rfl rfl rfl hc hk
        · obtain ⟨hc, hk⟩ := bif_elim h; exact one _ rfl rfl rfl hc hk
        · obtain ⟨hc, hk⟩ := bif_elim h; exact one _ rfl rfl rfl hc hk
        · obtain ⟨hc, hk⟩ := bif_elim h; exact one _ rfl rfl rfl hc hk
        · obtain ⟨hc, hk⟩ := bif_elim h; exact one _ rfl rfl rfl hc hk
        · obtain ⟨hc, hk⟩ := bif_elim h; exact one _ rfl rfl rfl hc hk
        · exact h.elim
      · exact h.elim
    · exact h.elim
  · rename_i fo args ts hop
    split at h
    · rename_i f l hf hl
      obtain ⟨r, h1, h2, h3⟩ := h
      simp only [Bool.and_eq_true] at h2
      exact same r h3 (.inr ⟨fo, args, ts, f, l, hop, hf, hl, h1, h2.1, h2.2⟩)
    · exact h.elim
  · obtain ⟨r, h1, h2⟩ := evR_ext h
    exact same r h1 (.inl h2)

/-- The condition of a region gives its states in the order of the text. -/
theorem vopsD_trace : ∀ (l : List Oper) (vs : VS) (K : VS → Prop), vopsD P T ops l vs K →
    ∃ (at_ : Nat → VS) (mid : Nat → VS) (res : Nat → SV) (tc : Nat → Option Nat) (nb : Nat → HB), at_ 0 = vs ∧ K (at_ l.length) ∧
      ∀ i o, l[i]? = some o → (∀ t, aget (mid i).env t = aget (at_ i).env t) ∧ (mid i).heap = (at_ i).heap ∧ (mid i).next = (at_ i).next ∧ StepR P T ops o (mid i) (at_ (i + 1)) (res i) (tc i) (nb i)
  | [], vs, K, h => ⟨fun _ => vs, fun _ => vs, fun _ => .unk, fun _ => none, fun _ => ⟨false, .cells []⟩, rfl, h, by simp⟩
  | o :: l, vs, K, h => by
    have step : ∀ v1, (∀ t, aget v1.env t = aget vs.env t) → v1.heap = vs.heap → v1.next = vs.next → vopD P T ops o v1 (fun vs' => vopsD P T ops l vs' K) →
        ∃ vs' r tc nb, vopsD P T ops l vs' K ∧ StepR P T ops o v1 vs' r tc nb := by
      intro v1 he hh hn h
      unfold vopD at h
      split at h
      · rename_i hg
        exact vexD_step h he hh hn (.inl hg)
      · rename_i j want hg
        split at h
        · rename_i oj hj
          split at h
          · rename_i d hd
            have skip : (∃ j want oj d, o.guard = some (j, want) ∧ nth ops j = some oj ∧ oj.dst = some d ∧ ((∃ b, aget v1.env d = some (.bool b) ∧ b ≠ want) ∨ (∃ x, aget v1.env d = some (.raw (.tuple x))))) → putK v1 o.dst (.raw undef) (fun vs' => vopsD P T ops l vs' K) →
                ∃ vs' r tc nb, vopsD P T ops l vs' K ∧ StepR P T ops o v1 vs' r tc nb := by
              intro hs hp
              obtain ⟨vs', k1, k2, k3, k4⟩ := putK_env hp
              exact ⟨vs', .raw undef, none, ⟨false, .cells []⟩, k1, k2, fun h => by rw [k3]; simp, .inl ⟨hs, rfl, rfl, k4⟩⟩
            split at h
            · rename_i hv
              cases want with
              | true => exact vexD_step h he hh hn (.inr ⟨j, true, oj, d, hg, hj, hd, hv⟩)
              | false => exact skip ⟨j, false, oj, d, hg, hj, hd, .inl ⟨true, hv, by simp⟩⟩ h
            · rename_i hv
              cases want with
              | true => exact skip ⟨j, true, oj, d, hg, hj, hd, .inl ⟨false, hv, by simp⟩⟩ h
              | false => exact vexD_step h he hh hn (.inr ⟨j, false, oj, d, hg, hj, hd, hv⟩)
            · rename_i x hv
              exact skip ⟨j, want, oj, d, hg, hj, hd, .inr ⟨x, hv⟩⟩ h
            · exact h.elim
          · exact h.elim
        · exact h.elim
    have go : ∃ v1, (∀ t, aget v1.env t = aget vs.env t) ∧ v1.heap = vs.heap ∧ v1.next = vs.next ∧ vopD P T ops o v1 (fun vs' => vopsD P T ops l vs' K) := by
      simp only [vopsD] at h
      split at h
      · exact ⟨vs, fun _ => rfl, rfl, rfl, h⟩
      · rename_i d hd
        obtain ⟨e, H, n⟩ := vs
        unfold known at h
        simp only at h
        split at h
        · rename_i b hb
          have lrn : ∀ b', b = b' → ∀ t, aget ((d, SV.bool b') :: e) t = aget e t := by
            intro b' hb' t
            rw [aget_cons]
            split
            · rename_i e2; subst e2; rw [hb, hb']
            · rfl
          rcases br_cases h with ⟨e1, h⟩ | ⟨e1, h⟩
          · exact ⟨⟨(d, .bool true) :: e, H, n⟩, lrn true e1, rfl, rfl, h⟩
          · exact ⟨⟨(d, .bool false) :: e, H, n⟩, lrn false e1, rfl, rfl, h⟩
        · exact ⟨_, fun _ => rfl, rfl, rfl, h⟩
        · exact h.elim
    obtain ⟨v1, e1, e2, e3, h1⟩ := go
    obtain ⟨vs', r, tc, nb, h2, h3⟩ := step v1 e1 e2 e3 h1
    obtain ⟨at_, mid, res, tcs, nbs, k0, k1, k2⟩ := vopsD_trace l vs' K h2
    refine ⟨fun i => if i = 0 then vs else at_ (i - 1), fun i => if i = 0 then v1 else mid (i - 1), fun i => if i = 0 then r else res (i - 1), fun i => if i = 0 then tc else tcs (i - 1), fun i => if i = 0 then nb else nbs (i - 1), by simp, by simpa using k1, ?_⟩
    intro i o' hi
    cases i with
    | zero =>
      simp only [List.getElem?_cons_zero, Option.some.injEq] at hi
      subst hi
      simp only [if_true, Nat.zero_add, Nat.one_ne_zero, if_false, Nat.sub_self]
      exact ⟨e1, e2, e3, by rw [k0]; exact h3⟩
    | succ i =>
      simp only [List.getElem?_cons_succ] at hi
      simpa using k2 i o' hi
end
end Go.Sx
