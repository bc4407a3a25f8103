/- The generator is right: regions, code, functions. No program in sight. -/
import Derived.Test.YtllgfdogieohaaaSxSound4
namespace Go.Sx
open Go.RowKit

section
variable {P : Program} {T : Tab} {g : G} {C : Ctx} {vs : VS} {a : Act} {w : World}

/-- What becomes of an operation that is carried out. -/
def OpGoal (P : Program) (C : Ctx) (o : Oper) (a : Act) (w : World) (K : VS → Prop) (Q : Exit → Act → World → Prop) : Prop :=
  ∀ next : Act → World → Prop, (∀ vs' g' a' w', K vs' → Rel C g' vs' a' w' → next a' w') → o.wp P a w next Q

theorem putK_rel {o : Oper} {sv : SV} {v : Value} {K : VS → Prop} (R : Rel C g vs a w) (hd : ∀ d, o.dst = some d → d < C.N) (hv : Rv g sv v) (h : putK vs o.dst sv K) :
    ∃ vs', K vs' ∧ Rel C g vs' (a.put o.dst v) w := by
  obtain ⟨e, H, n⟩ := vs
  unfold putK at h
  cases hdst : o.dst with
  | none => rw [hdst] at h; exact ⟨_, h, by simpa [Act.put] using R⟩
  | some d => rw [hdst] at h; exact ⟨_, h, rel_put R hv (hd d hdst)⟩

theorem newK_goal {o : Oper} {b : Blk} {K : VS → Prop} {Q : Exit → Act → World → Prop} {ob : Obj} (R : Rel C g vs a w) (hd : ∀ d, o.dst = some d → d < C.N)
    (hB : BlkAt (g.add ⟨w.heap.size, 0, b.es⟩) ⟨w.heap.size, 0, b.es⟩ ⟨false, b⟩ (w.alloc ob))
    (hrun : (execOp a.eval o).run P w = .ok (.value (.pointer (some ⟨w.heap.size, 0, none⟩))) (w.alloc ob)) (h : newK vs o.dst b K) : OpGoal P C o a w K Q := by
  intro next hn
  obtain ⟨e, H, n⟩ := vs
  have R' := rel_new (o := ob) R rfl hB
  have hnn : g.n = n := R.next
  have hv : Rv (g.add ⟨w.heap.size, 0, b.es⟩) (.ptr n 0 0) (.pointer (some ⟨w.heap.size, 0, none⟩)) := by
    simp only [Rv]
    refine ⟨by simp [G.add, hnn], ?_⟩
    simp [G.add, hnn, Base.addr]
  unfold newK at h
  simp only [Oper.wp, hrun, Oper.upon_value]
  cases hdst : o.dst with
  | none => rw [hdst] at h; exact hn _ _ _ _ h (by simpa [Act.put] using R')
  | some d => rw [hdst] at h; exact hn _ _ _ _ h (rel_put R' hv (hd d hdst))

theorem gvs_ok (R : EnvOk g vs a) : ∀ (xs : List Operand) (l : List SV), gvs vs xs = some l → Rvs g l (xs.map a.eval)
  | [], l, h => by simp only [gvs, Option.some.injEq] at h; subst h; simp [Rvs]
  | x :: xs, l, h => by
    simp only [gvs] at h
    split at h
    · rename_i v hv
      split at h
      · rename_i l' hl'
        simp only [Option.some.injEq] at h
        subst h
        simp only [Rvs, List.map_cons]
        exact ⟨_, _, rfl, gv_ok R hv, gvs_ok R xs l' hl'⟩
      · cases h
    · cases h

theorem callK_goal {o : Oper} {f : FuncId} {fo : Operand} {args : Array Operand} {ts : Array TypeId} {l : List SV} {K : VS → Prop} {Q : Exit → Act → World → Prop} (R : Rel C g vs a w) (hd : ∀ d, o.dst = some d → d < C.N)
    (hop : o.op = .call ⟨.value fo, args, ts⟩) (hf : gv vs fo = some (.raw (.func (.func f) #[] #[]))) (hl : gvs vs args.toList = some l) (h : callK P f l vs o.dst K) : OpGoal P C o a w K Q := by
  intro next hn
  obtain ⟨e, H, n⟩ := vs
  simp only [callK, vcall] at h
  obtain ⟨post, ⟨⟨fn, c, hfn, hbody, hname⟩, hfc⟩, hpost⟩ := h
  have hfv : a.eval fo = .func (.func f) #[] #[] := by have := gv_ok R.env hf; simpa only [Rv] using this
  have hvals := gvs_ok R.env args.toList l hl
  have hrun : (execOp a.eval o).run P w = .ok (.enter f (args.map a.eval)) w := by
    have hname' : ¬ fn.name = "runtime.NumGoroutine" := by simpa using hname
    simp [execOp, hop, resolve, hfv, Deferred.ofValue, invoke, callFunc, hfn, hname', hbody]
  simp only [Oper.wp, hrun, Oper.upon_enter]
  have hc := hfc g w (args.toList.map a.eval) R.next R.heap hvals
  have ha : (args.toList.map a.eval).toArray = args.map a.eval := by
    apply Array.ext'; simp
  rw [ha] at hc
  refine hc.mono ?_
  rintro e' w' ⟨v, rfl, sv, H', g', hle, hrv, hp, hH', hfr, hown⟩
  have hk := hpost sv H' g'.n hp
  have R1 : Rel C g' ⟨e, H', g'.n⟩ a w' := by
    refine ⟨fun t s ht => Rv.mono hle _ _ (R.env t s ht), R.size, R.defers, rfl, R.le.trans hle, hH', ?_, ?_⟩
    · refine ⟨hfr.os.trans R.fr.os, hfr.tape.trans R.fr.tape, hfr.output.trans R.fr.output, Nat.le_trans R.fr.size hfr.size, ?_⟩
      intro k hk hW
      rw [hfr.block k (Nat.lt_of_lt_of_le hk R.fr.size) ?_]
      · exact R.fr.block k hk hW
      · rintro ⟨h, hb, h1, h2, h3⟩
        rcases R.own h hb h1 h2 with ho | ho
        · exact hW (h3 ▸ ho)
        · rw [h3] at ho; omega
    · intro h hb h1 h2
      rcases hown h hb h1 h2 with ⟨k, kb, k1, k2, k3⟩ | ho
      · rcases R.own k kb k1 k2 with ho | ho
        · exact .inl (k3 ▸ ho)
        · exact .inr (k3 ▸ ho)
      · exact .inr (Nat.le_trans R.fr.size ho)
  obtain ⟨vs', k1, k2⟩ := putK_rel (o := o) R1 hd hrv hk
  exact hn _ _ _ _ k1 k2

theorem storeK_goal (hT : TabOk P T) {o : Oper} {t : TypeId} {x y : Operand} {h j : Nat} {v : SV} {ti : TI} {l : List SV} {K : VS → Prop} {Q : Exit → Act → World → Prop} (R : Rel C g vs a w) (hd : ∀ d, o.dst = some d → d < C.N)
    (hop : o.op = .store t x y) (hx : gv vs x = some (.ptr h 0 j)) (hy : gv vs y = some v) (hti : aget T t = some ti) (hH : aget vs.heap h = some ⟨false, .cells l⟩)
    (hk : storeK vs h j v ti l (fun vs' => putK vs' o.dst (.raw undef) K)) : OpGoal P C o a w K Q := by
  intro next hn
  obtain ⟨e, H, n⟩ := vs
  obtain ⟨hlt, hxv⟩ := rpv (gv_ok R.env hx)
  have hyv := gv_ok R.env hy
  have hsz := run_sizeOf' (hT _ _ hti)
  have fin : ∀ (m : List SV) (ms : List Value), (a.eval y).cells = ms.toArray → Rvs g m ms → allOne m = true → Nat.beq m.length ti.size = true → Nat.ble (j + m.length) l.length = true →
      putK ⟨e, (h, ⟨false, .cells (setMany l j m)⟩) :: H, n⟩ o.dst (.raw undef) K → o.wp P a w next Q := by
    intro m ms hms hr ho hs hb hput
    obtain ⟨w', h1, R'⟩ := rel_set (P := P) R hH hr ho (Nat.le_of_ble_eq_true hb)
    have hlen := Rvs.length _ _ hr
    have hrun : (execOp a.eval o).run P w = .ok .skip w' := by
      have e1 : (a.eval y).cells.size = ti.size := by rw [hms]; simp [hlen, Nat.eq_of_beq_eq_true hs]
      simp only [execOp, hop, Instr.storeAt, hxv, Instr.sureAddr, storeVar, Sem.run_bind, Sem.run_pure, Result.andThen_ok, hsz, e1, ne_eq, not_true_eq_false, if_false]
      rw [hms]
      simp [h1]
    simp only [Oper.wp, hrun, Oper.upon_skip]
    obtain ⟨vs', k1, k2⟩ := putK_rel (o := o) (sv := .raw undef) (v := undef) R' hd (by simp only [Rv]) hput
    exact hn _ _ _ _ k1 k2
  have one : ∀ s : SV, s = v → s.one = true → (Nat.beq ti.size 1 && Nat.ble (j + 1) l.length) = true → setK ⟨e, H, n⟩ h (.cells (setNth l j s)) (fun vs' => putK vs' o.dst (.raw undef) K) → o.wp P a w next Q := by
    intro s hs hone hc hset
    subst hs
    simp only [Bool.and_eq_true] at hc
    have hcell := (one_ok hone hyv).2
    refine fin [s] [a.eval y] (by simpa using hcell) (by simp only [Rvs]; exact ⟨_, _, rfl, hyv, rfl⟩) (by simp [allOne, hone]) ?_ (by simpa using hc.2) (by simpa [setMany, setK] using hset)
    have := Nat.eq_of_beq_eq_true hc.1
    rw [this]; rfl
  unfold storeK at hk
  split at hk
  · rename_i m
    obtain ⟨hc, hk⟩ := bif_elim hk
    simp only [Bool.and_eq_true] at hc
    obtain ⟨xs, ex, rx⟩ := rav hyv
    exact fin m xs.toList (by rw [ex]; simp [Value.cells]) rx hc.1.1 hc.1.2 hc.2 (by simpa [setK] using hk)
  · obtain ⟨hc, hk⟩ := bif_elim hk; exact one _ rfl rfl hc hk
  · obtain ⟨hc, hk⟩ := bif_elim hk; exact one _ rfl rfl hc hk
  · obtain ⟨hc, hk⟩ := bif_elim hk; exact one _ rfl rfl hc hk
  · obtain ⟨hc, hk⟩ := bif_elim hk; exact one _ rfl rfl hc hk
  · obtain ⟨hc, hk⟩ := bif_elim hk; exact one _ rfl rfl hc hk
  · obtain ⟨hc, hk⟩ := bif_elim hk; exact one _ rfl rfl hc hk
  · obtain ⟨hc, hk⟩ := bif_elim hk; exact one _ rfl rfl hc hk
  · exact hk.elim

theorem vex_goal (hT : TabOk P T) {o : Oper} {K : VS → Prop} {Q : Exit → Act → World → Prop} (R : Rel C g vs a w) (hd : ∀ d, o.dst = some d → d < C.N) (h : vex P T o vs K) : OpGoal P C o a w K Q := by
  have hnew : ∀ o : Obj, (newObj o).run P w = .ok w.heap.size (w.alloc o) := fun _ => rfl
  have look : evR T vs o.op (fun v => putK vs o.dst v K) → OpGoal P C o a w K Q := by
    intro h next hn
    obtain ⟨sv, v, h1, h2, h3⟩ := evR_ok (w := w) hT R.env R.heap h
    simp only [Oper.wp, h3 o rfl, Oper.upon_value]
    obtain ⟨vs', k1, k2⟩ := putK_rel R hd h2 h1
    exact hn _ _ _ _ k1 k2
  unfold vex at h
  split at h
  · rename_i t hop
    split at h
    · rename_i ti hti
      obtain ⟨hne, h⟩ := bif_elim' h
      obtain ⟨z, hz, hzc⟩ : ∃ z, (zeroValue t).run P w = .ok z w ∧ Rvs g ti.zero z.cells.toList := by
        have := hT _ _ hti
        unfold tiOf at this
        split at this
        · rename_i i d hi hd
          simp only [Option.some.injEq] at this
          cases hz : i.zero with
          | none => rw [← this] at hne; simp [hz] at hne
          | some z => exact ⟨z, by simp [zeroValue, typeInfo, hi, hz], by rw [← this]; simp only [hz]; exact cvs_ok g _⟩
        · cases this
      refine newK_goal (b := .cells ti.zero) (ob := .cells z.cells t) R hd (cells_blk hzc w) ?_ h
      simp only [execOp, hop, Instr.alloc, Sem.run_bind, hz, Result.andThen_ok, newVar, newRow, hnew, Sem.run_pure]
    · exact h.elim
  · rename_i t x hop
    have boxed : ∀ (l : List SV), Rvs g l (a.eval x).cells.toList → newK vs o.dst (.cells l) K → OpGoal P C o a w K Q := by
      intro l hl hk
      refine newK_goal (b := .cells l) (ob := .cells (a.eval x).cells t) R hd (cells_blk hl w) ?_ hk
      simp only [execOp, hop, Instr.box, Sem.run_bind, Result.andThen_ok, newVar, newRow, hnew, Sem.run_pure]
    have boxed1 : ∀ s : SV, gv vs x = some s → s.one = true → newK vs o.dst (.cells [s]) K → OpGoal P C o a w K Q := by
      intro s hs hone hk
      have hv := gv_ok R.env hs
      refine boxed [s] ?_ hk
      rw [(one_ok hone hv).2]
      simp only [Rvs]
      exact ⟨_, _, rfl, hv, rfl⟩
    split at h
    · rename_i l hx
      obtain ⟨xs, ex, rx⟩ := rav (gv_ok R.env hx)
      refine boxed l ?_ h
      rw [ex]; exact rx
    all_goals first
      | (rename_i hx; exact boxed1 _ hx rfl h)
      | exact h.elim
  · rename_i t x y hop
    split at h
    · rename_i hh j v ti hx hy hti
      split at h
      · rename_i l hH
        exact storeK_goal hT R hd hop hx hy hti hH h
      · exact h.elim
    · exact h.elim
  · rename_i fo args ts hop
    split at h
    · rename_i f l hf hl
      exact callK_goal R hd hop hf hl h
    · exact h.elim
  · rename_i op h1 h2 h3 h4
    exact look h


theorem yielded_bool {ops : Array Oper} {j d : Nat} {oj : Oper} {b : Bool} (hj : nth ops.toList j = some oj) (hd : oj.dst = some d) (hv : a.tmps.getD d undef = .bool b) : yielded ops a.tmps j = some b := by
  rw [nth_eq] at hj
  have hj' : ops[j]? = some oj := by simpa using hj
  unfold yielded
  simp only [hj', Option.bind_some, hd]
  rw [Array.getD_eq_getD_getElem?] at hv
  cases h : a.tmps[d]? with
  | none => rw [h] at hv; simp [undef] at hv
  | some x => rw [h] at hv; simp at hv; simp [hv]

theorem yielded_none {ops : Array Oper} {j d : Nat} {oj : Oper} {x : Array Value} (hj : nth ops.toList j = some oj) (hd : oj.dst = some d) (hv : a.tmps.getD d undef = .tuple x) : yielded ops a.tmps j = none := by
  rw [nth_eq] at hj
  have hj' : ops[j]? = some oj := by simpa using hj
  unfold yielded
  simp only [hj', Option.bind_some, hd]
  rw [Array.getD_eq_getD_getElem?] at hv
  cases h : a.tmps[d]? with
  | none => rfl
  | some y => rw [h] at hv; simp at hv; simp [hv]

theorem vop_ok (hT : TabOk P T) {ops : Array Oper} {o : Oper} {rest : List Oper} {K : VS → Prop} {Q : Exit → Act → World → Prop} (R : Rel C g vs a w) (hd : ∀ d, o.dst = some d → d < C.N) (h : vop P T ops.toList o vs K)
    (hn : ∀ vs' g' a' w', K vs' → Rel C g' vs' a' w' → wpList P ops Q rest a' w') : wpList P ops Q (o :: rest) a w := by
  have exec : vex P T o vs K → Region.wanted o (yielded ops a.tmps) = true → wpList P ops Q (o :: rest) a w := by
    intro h hw
    unfold wpList
    rw [if_pos hw]
    exact .inl (vex_goal hT R hd h _ hn)
  have skip : putK vs o.dst (.raw undef) K → Region.wanted o (yielded ops a.tmps) = false → wpList P ops Q (o :: rest) a w := by
    intro h hw
    unfold wpList
    rw [if_neg (by simp [hw])]
    obtain ⟨vs', k1, k2⟩ := putK_rel (o := o) (sv := .raw undef) (v := undef) R hd (by simp only [Rv]) h
    exact hn _ _ _ _ k1 k2
  unfold vop at h
  split at h
  · rename_i hg
    exact exec h (by simp [Region.wanted, hg])
  · rename_i j want hg
    split at h
    · rename_i oj hj
      split at h
      · rename_i d hdst
        split at h
        · rename_i hv
          have hy := yielded_bool hj hdst (rbv (R.env d _ hv))
          cases want with
          | true => exact exec h (by simp [Region.wanted, hg, hy])
          | false => exact skip h (by simp [Region.wanted, hg, hy])
        · rename_i hv
          have hy := yielded_bool hj hdst (rbv (R.env d _ hv))
          cases want with
          | true => exact skip h (by simp [Region.wanted, hg, hy])
          | false => exact exec h (by simp [Region.wanted, hg, hy])
        · rename_i x hv
          have hy := yielded_none hj hdst (by have := R.env d _ hv; simpa only [Rv] using this)
          exact skip h (by simp [Region.wanted, hg, hy])
        · exact h.elim
      · exact h.elim
    · exact h.elim

theorem known_ok {d : Nat} {K : VS → Prop} (R : Rel C g vs a w) (h : known vs d K) : ∃ vs', K vs' ∧ Rel C g vs' a w := by
  obtain ⟨e, H, n⟩ := vs
  unfold known at h
  simp only at h
  split at h
  · rename_i b hb
    cases b with
    | true => exact ⟨_, (br_elim h).1 rfl, rel_learn R hb⟩
    | false => exact ⟨_, (br_elim h).2 rfl, rel_learn R hb⟩
  · exact ⟨_, h, R⟩
  · exact h.elim

theorem vops_ok (hT : TabOk P T) {ops : Array Oper} {Q : Exit → Act → World → Prop} : ∀ (l : List Oper) (vs : VS) (g : G) (a : Act) (w : World) (K : VS → Prop), dstsOk C.N l = true → Rel C g vs a w → vops P T ops.toList l vs K →
    (∀ vs' g' a' w', K vs' → Rel C g' vs' a' w' → Q .normal a' w') → wpList P ops Q l a w
  | [], vs, g, a, w, K, _, R, h, hq => by simp only [vops] at h; exact hq _ _ _ _ h R
  | o :: l, vs, g, a, w, K, hds, R, h, hq => by
    simp only [dstsOk, Bool.and_eq_true] at hds
    have hd : ∀ d, o.dst = some d → d < C.N := by
      intro d e
      have := hds.1
      rw [e] at this
      exact Nat.le_of_ble_eq_true this
    simp only [vops] at h
    split at h
    · exact vop_ok hT R hd h (fun vs' g' a' w' k1 k2 => vops_ok hT l vs' g' a' w' K hds.2 k2 k1 hq)
    · obtain ⟨v1, h1, R1⟩ := known_ok R h
      exact vop_ok hT R1 hd h1 (fun vs' g' a' w' k1 k2 => vops_ok hT l vs' g' a' w' K hds.2 k2 k1 hq)

theorem wp_loop_idx {c : Code} {Q : Exit → Act → World → Prop} (J : Nat → Act → World → Prop) (n0 : Nat) (h₀ : J n0 a w)
    (round : ∀ n a w, J n a w → c.wp P (Exit.then (fun a' w' => ∃ m, m < n ∧ J m a' w') Q) a w) : (Code.loop c).wp P Q a w := by
  intro b k cs
  have key : ∀ n a w, J n a w → ∃ e a' w', Q e a' w' ∧ Arrives P (lone (b.at a (.code c :: .inLoop c :: k)) cs w) b k cs e a' w' := by
    intro n
    induction n using Nat.strongRecOn with
    | _ n ih =>
      intro a w hI
      obtain ⟨e, a₁, w₁, hq, harr⟩ := round n a w hI b (.inLoop c :: k) cs
      cases e with
      | normal =>
        obtain ⟨m, hlt, hI₁⟩ := hq
        obtain ⟨e₂, a₂, w₂, hq₂, harr₂⟩ := ih m hlt a₁ w₁ hI₁
        exact ⟨e₂, a₂, w₂, hq₂, .of_steps (Steps.trans harr (.one step_inLoop)) harr₂⟩
      | exit id => exact ⟨_, a₁, w₁, hq, .pass (x := .inLoop c) rfl (fun _ _ => .inl (by simp)) harr⟩
      | goto l => exact ⟨_, a₁, w₁, hq, .pass (x := .inLoop c) rfl (fun _ _ => .inl (by simp)) harr⟩
      | ret => exact ⟨_, a₁, w₁, hq, .pass (x := .inLoop c) rfl (fun _ _ => .inl (by simp)) harr⟩
      | panic ch => exact ⟨_, a₁, w₁, hq, .pass (x := .inLoop c) rfl (fun _ _ => .inl (by simp)) harr⟩
      | outgrown => exact ⟨_, a₁, w₁, hq, .pass (x := .inLoop c) rfl (fun _ _ => .inl (by simp)) harr⟩
  obtain ⟨e, a', w', hq, harr⟩ := key _ a w h₀
  exact ⟨e, a', w', hq, .of_steps (.one step_loop) harr⟩

theorem weakEnv_ok : ∀ (e0 e : Env), weakEnv e0 e → ∀ t sv, aget e0 t = some sv → aget e t = some sv
  | [], e, _, t, sv, h => by simp [aget] at h
  | (k, s) :: r, e, hw, t, sv, h => by
    simp only [weakEnv] at hw
    rw [aget_cons] at h
    split at h
    · rename_i e'; subst e'; simp only [Option.some.injEq] at h; subst h; exact hw.1
    · exact weakEnv_ok r e hw.2 t sv h

theorem weakHeap_ok : ∀ (e0 e : Heap), weakHeap e0 e → ∀ t sv, aget e0 t = some sv → aget e t = some sv
  | [], e, _, t, sv, h => by simp [aget] at h
  | (k, s) :: r, e, hw, t, sv, h => by
    simp only [weakHeap] at hw
    rw [aget_cons] at h
    split at h
    · rename_i e'; subst e'; simp only [Option.some.injEq] at h; subst h; exact hw.1
    · exact weakHeap_ok r e hw.2 t sv h

mutual
theorem Rv.cut {g : G} {n : Nat} : ∀ (sv : SV) (v : Value), SV.wf n sv = true → Rv g sv v → Rv ⟨n, g.f⟩ sv v
  | .bool _, _, _, r => by simp only [Rv] at r ⊢; exact r
  | .int _ _, _, _, r => by simp only [Rv] at r ⊢; exact r
  | .str _, _, _, r => by simp only [Rv] at r ⊢; exact r
  | .ptr _ _ _, _, w, r => by simp only [Rv] at r ⊢; simp only [SV.wf] at w; exact ⟨Nat.le_of_ble_eq_true w, r.2⟩
  | .nptr, _, _, r => by simp only [Rv] at r ⊢; exact r
  | .sl _ _ _ _, _, w, r => by simp only [Rv] at r ⊢; simp only [SV.wf] at w; exact ⟨Nat.le_of_ble_eq_true w, r.2⟩
  | .nsl, _, _, r => by simp only [Rv] at r ⊢; exact r
  | .agg l, _, w, r => by simp only [Rv] at r ⊢; simp only [SV.wf] at w; obtain ⟨vs, e, k⟩ := r; exact ⟨vs, e, Rvs.cut l _ w k⟩
  | .tup l, _, w, r => by simp only [Rv] at r ⊢; simp only [SV.wf] at w; obtain ⟨vs, e, k⟩ := r; exact ⟨vs, e, Rvs.cut l _ w k⟩
  | .raw _, _, _, r => by simp only [Rv] at r ⊢; exact r
  | .unk, _, _, _ => by simp only [Rv]
theorem Rvs.cut {g : G} {n : Nat} : ∀ (l : List SV) (vs : List Value), SV.wfs n l = true → Rvs g l vs → Rvs ⟨n, g.f⟩ l vs
  | [], _, _, r => by simp only [Rvs] at r ⊢; exact r
  | s :: ss, vs, w, r => by
    simp only [Rvs] at r ⊢
    simp only [SV.wfs, Bool.and_eq_true] at w
    obtain ⟨v, vs', e, h1, h2⟩ := r
    exact ⟨v, vs', e, Rv.cut s v w.1 h1, Rvs.cut ss vs' w.2 h2⟩
end

theorem envWf_ok : ∀ (n : Nat) (e : Env), envWf n e = true → ∀ t sv, aget e t = some sv → SV.wf n sv = true
  | n, [], _, t, sv, h => by simp [aget] at h
  | n, (k, s) :: r, hw, t, sv, h => by
    simp only [envWf, Bool.and_eq_true] at hw
    rw [aget_cons] at h
    split at h
    · simp only [Option.some.injEq] at h; subst h; exact hw.1
    · exact envWf_ok n r hw.2 t sv h

theorem heapWf_ok : ∀ (n : Nat) (e : Heap), heapWf n e = true → ∀ t hb, aget e t = some hb → t < n ∧ Blk.wf n hb.b = true
  | n, [], _, t, sv, h => by simp [aget] at h
  | n, (k, s) :: r, hw, t, sv, h => by
    simp only [heapWf, Bool.and_eq_true] at hw
    rw [aget_cons] at h
    split at h
    · rename_i e; subst e; simp only [Option.some.injEq] at h; subst h; exact ⟨Nat.le_of_ble_eq_true hw.1.1, hw.1.2⟩
    · exact heapWf_ok n r hw.2 t sv h

theorem wfs_nth {n : Nat} : ∀ (l : List SV) (j : Nat) (sv : SV), SV.wfs n l = true → nth l j = some sv → SV.wf n sv = true
  | [], j, sv, _, h => by simp [nth] at h
  | s :: l, 0, sv, w, h => by simp only [SV.wfs, Bool.and_eq_true] at w; simp [nth] at h; subst h; exact w.1
  | s :: l, j + 1, sv, w, h => by simp only [SV.wfs, Bool.and_eq_true] at w; simp only [nth] at h; exact wfs_nth l j sv w.2 h

theorem rel_weak {v0 : VS} (R : Rel C g vs a w) (hw : Weak C.g.n vs v0) : Rel C ⟨v0.next, g.f⟩ v0 a w := by
  have hwf := hw.wf
  simp only [Bool.and_eq_true] at hwf
  refine ⟨?_, R.size, R.defers, rfl, ⟨hw.lo, R.le.2⟩, ⟨?_, ?_⟩, R.fr, ?_⟩
  · intro t sv ht
    exact Rv.cut _ _ (envWf_ok _ _ hwf.1 t sv ht) (R.env t sv (weakEnv_ok _ _ hw.env t sv ht))
  · intro h hb hh
    obtain ⟨h1, h2⟩ := heapWf_ok _ _ hwf.2 h hb hh
    obtain ⟨_, hB⟩ := R.heap.blk h hb (weakHeap_ok _ _ hw.heap h hb hh)
    refine ⟨h1, hB.lt, hB.es, ?_, hB.rw⟩
    intro i j sv hi hj
    obtain ⟨v, k1, k2⟩ := hB.cell i j sv hi hj
    refine ⟨v, k1, Rv.cut _ _ ?_ k2⟩
    obtain ⟨ro, b⟩ := hb
    cases b with
    | cells l => exact wfs_nth l j sv h2 hj
    | cols n l =>
      simp only [Blk.at] at hj
      cases hc : nth l j with
      | none => rw [hc] at hj; cases hj
      | some c => rw [hc] at hj; simp only [Option.map_some, Option.some.injEq] at hj; subst hj; cases c <;> rfl
  · intro h h' hb hb' hne hh hh' hro hlv
    exact R.heap.sep h h' hb hb' hne (weakHeap_ok _ _ hw.heap h hb hh) (weakHeap_ok _ _ hw.heap h' hb' hh') hro hlv
  · intro h hb hh hro
    exact R.own h hb (weakHeap_ok _ _ hw.heap h hb hh) hro

mutual
theorem Rv.any {g g' : G} : ∀ (sv : SV) (v : Value), SV.plain sv = true → Rv g sv v → Rv g' sv v
  | .bool _, _, _, r => by simp only [Rv] at r ⊢; exact r
  | .int _ _, _, _, r => by simp only [Rv] at r ⊢; exact r
  | .str _, _, _, r => by simp only [Rv] at r ⊢; exact r
  | .ptr _ _ _, _, w, r => by simp [SV.plain] at w
  | .nptr, _, _, r => by simp only [Rv] at r ⊢; exact r
  | .sl _ _ _ _, _, w, r => by simp [SV.plain] at w
  | .nsl, _, _, r => by simp only [Rv] at r ⊢; exact r
  | .agg l, _, w, r => by simp only [Rv] at r ⊢; simp only [SV.plain] at w; obtain ⟨vs, e, k⟩ := r; exact ⟨vs, e, Rvs.any l _ w k⟩
  | .tup l, _, w, r => by simp only [Rv] at r ⊢; simp only [SV.plain] at w; obtain ⟨vs, e, k⟩ := r; exact ⟨vs, e, Rvs.any l _ w k⟩
  | .raw _, _, _, r => by simp only [Rv] at r ⊢; exact r
  | .unk, _, w, _ => by simp [SV.plain] at w
theorem Rvs.any {g g' : G} : ∀ (l : List SV) (vs : List Value), SV.plains l = true → Rvs g l vs → Rvs g' l vs
  | [], _, _, r => by simp only [Rvs] at r ⊢; exact r
  | s :: ss, vs, w, r => by
    simp only [Rvs] at r ⊢
    simp only [SV.plains, Bool.and_eq_true] at w
    obtain ⟨v, vs', e, h1, h2⟩ := r
    exact ⟨v, vs', e, Rv.any s v w.1 h1, Rvs.any ss vs' w.2 h2⟩
end

end
end Go.Sx
