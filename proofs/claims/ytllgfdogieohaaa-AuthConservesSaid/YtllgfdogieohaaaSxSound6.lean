/- The generator is right: functions. No program in sight. -/
import Derived.Test.YtllgfdogieohaaaSxDraw3
namespace Go.Sx
open Go.RowKit

section
variable {P : Program} {T : Tab} {g : G} {C : Ctx} {vs : VS} {a : Act} {w : World}

theorem vcode_ok (hm : P.follows .mixedOrders = true) (hT : TabOk P T) : ∀ (c : Code) (vs : VS) (g : G) (a : Act) (w : World) (K : Exit → VS → Prop) (Q : Exit → Act → World → Prop), codeOk C.N c = true → Rel C g vs a w → vcode P T C.g.n c vs K →
    (∀ e vs' g' a' w', K e vs' → Rel C g' vs' a' w' → Q e a' w') → c.wp P Q a w
  | .skip, vs, g, a, w, K, Q, _, R, h, hq => wp_skip (hq _ _ _ _ _ h R)
  | .region id ops draw, vs, g, a, w, K, Q, ho, R, h, hq => by
    simp only [codeOk, Bool.and_eq_true] at ho
    simp only [vcode] at h
    cases draw with
    | false => exact wp_region_list (vops_ok hT ops.toList vs g a w (K .normal) ho.1 R h (fun vs' g' a' w' k1 k2 => hq .normal vs' g' a' w' k1 k2))
    | true =>
      have hdr : drawOk ops.toList = true := by simpa using ho.2
      exact region_any hm hT (draw_of hdr) ho.1 R h (fun vs' g' a' w' k1 k2 => hq .normal vs' g' a' w' k1 k2)
  | .seq x y, vs, g, a, w, K, Q, ho, R, h, hq => by
    simp only [codeOk, Bool.and_eq_true] at ho
    simp only [vcode] at h
    refine wp_seq (vcode_ok hm hT x vs g a w _ _ ho.1 R h ?_)
    intro e vs' g' a' w' k1 k2
    cases e with
    | normal => exact vcode_ok hm hT y vs' g' a' w' K Q ho.2 k2 k1 hq
    | _ => exact hq _ _ _ _ _ k1 k2
  | .cond c x y, vs, g, a, w, K, Q, ho, R, h, hq => by
    simp only [codeOk, Bool.and_eq_true] at ho
    simp only [vcode] at h
    split at h
    · rename_i t b hb
      obtain ⟨e, H, n⟩ := vs
      have hv : a.eval (.tmp t) = .bool b := rbv (gv_ok R.env hb)
      refine wp_cond_split hv (fun e' => ?_) (fun e' => ?_)
      · subst e'
        exact vcode_ok hm hT x _ g a w K Q ho.1 (rel_learn R hb) ((br_elim h).1 rfl) hq
      · subst e'
        exact vcode_ok hm hT y _ g a w K Q ho.2 (rel_learn R hb) ((br_elim h).2 rfl) hq
    · exact h.elim
  | .block id c, vs, g, a, w, K, Q, ho, R, h, hq => by
    simp only [codeOk] at ho
    simp only [vcode] at h
    refine wp_block (vcode_ok hm hT c vs g a w _ _ ho R h ?_)
    intro e vs' g' a' w' k1 k2
    cases e with
    | exit i =>
      simp only [Exit.inBlock]
      by_cases hi : i = id
      · subst hi
        rw [if_pos rfl]
        have hbb : Nat.beq i i = true := Nat.beq_refl i
        simp only [hbb, cond_true] at k1
        exact hq _ _ _ _ _ k1 k2
      · rw [if_neg hi]
        have : Nat.beq i id = false := by
          cases hb : Nat.beq i id with
          | true => exact absurd (Nat.eq_of_beq_eq_true hb) hi
          | false => rfl
        simp only [this, cond_false] at k1
        exact hq _ _ _ _ _ k1 k2
    | _ => exact hq _ _ _ _ _ k1 k2
  | .loop c, vs, g, a, w, K, Q, ho, R, h, hq => by
    simp only [codeOk] at ho
    simp only [vcode, vloop] at h
    obtain ⟨α, st, inv, μ, x0, hw, hI, hround⟩ := h
    refine wp_loop_idx (fun n a w => ∃ x g, inv x ∧ μ x = n ∧ Rel C g (st x) a w) (μ x0) ⟨x0, _, hI, rfl, rel_weak R hw⟩ ?_
    rintro n a w ⟨x, g, hx, rfl, hR⟩
    refine vcode_ok hm hT c (st x) g a w _ _ ho hR (hround x hx) ?_
    intro e vs' g' a' w' k1 k2
    cases e with
    | normal =>
      obtain ⟨y, hy, hlt, hwk⟩ := k1
      exact ⟨μ y, hlt, y, _, hy, rfl, rel_weak k2 hwk⟩
    | _ => exact hq _ _ _ _ _ k1 k2
  | .exit id, vs, g, a, w, K, Q, _, R, h, hq => wp_exit (hq _ _ _ _ _ h R)
  | .ret, vs, g, a, w, K, Q, _, R, h, hq => wp_ret (hq _ _ _ _ _ h R)
  | .rangeFunc _ _ _ _, vs, g, a, w, K, Q, _, R, h, hq => by simp only [vcode] at h
  | .scope _, vs, g, a, w, K, Q, _, R, h, hq => by simp only [vcode] at h
  | .label _, vs, g, a, w, K, Q, _, R, h, hq => by simp only [vcode] at h
  | .goto _, vs, g, a, w, K, Q, _, R, h, hq => by simp only [vcode] at h
  | .refuse _, vs, g, a, w, K, Q, _, R, h, hq => by simp only [vcode] at h

def resOf (tmps : Array Value) : ResultVar → Sem Value
  | .tmp t => pure (tmps.getD t undef)
  | .cell a t => do loadVar t (← asAddr (tmps.getD a undef))

theorem resK_ok (hT : TabOk P T) (R : Rel C g vs a w) : ∀ (rs : List ResultVar) (K : List SV → Prop), resK T vs rs K →
    ∃ svs vals, K svs ∧ Rvs g svs vals ∧ (rs.mapM (m := Sem) (resOf a.tmps)).run P w = .ok vals w
  | [], K, h => ⟨[], [], h, by simp [Rvs], by simp⟩
  | .tmp t :: rs, K, h => by
    simp only [resK] at h
    split at h
    · rename_i v hv
      obtain ⟨svs, vals, h1, h2, h3⟩ := resK_ok hT R rs _ h
      refine ⟨v :: svs, a.tmps.getD t undef :: vals, h1, by simp only [Rvs]; exact ⟨_, _, rfl, R.env t v hv, h2⟩, ?_⟩
      simp only [List.mapM_cons, resOf, Sem.run_bind, Sem.run_pure, Result.andThen_ok, h3]
    · exact h.elim
  | .cell x t :: rs, K, h => by
    simp only [resK] at h
    split at h
    · rename_i hd i j ti hx hti
      split at h
      · rename_i hb hhb
        obtain ⟨hi, h⟩ := need_ok h
        obtain ⟨hlt, hv⟩ := rpv (R.env x _ hx)
        obtain ⟨_, hB⟩ := R.heap.blk hd hb hhb
        have hag := run_isAgg' (hT _ _ hti)
        have hsz := run_sizeOf' (hT _ _ hti)
        cases hagg : ti.agg with
        | true =>
          rw [hagg] at h hag
          simp only [cond_true] at h
          split at h
          · rename_i l hl
            obtain ⟨vals0, e1, e2, e3⟩ := loadN_ok hB hi ti.size j l hl
            have hld := run_loadCells_list (P := P) (w := w) ((g.f hd).addr i j) vals0 e3
            rw [e1] at hld
            obtain ⟨svs, vals, h1, h2, h3⟩ := resK_ok hT R rs _ h
            refine ⟨.agg l :: svs, .agg vals0.toArray :: vals, h1, by simp only [Rvs, Rv]; exact ⟨_, _, rfl, ⟨vals0.toArray, rfl, by simpa using e2⟩, h2⟩, ?_⟩
            simp only [List.mapM_cons, resOf, Sem.run_bind, Sem.run_pure, Result.andThen_ok, hv, asAddr, loadVar, hag, if_true, hsz, hld, h3]
          · exact h.elim
        | false =>
          rw [hagg] at h hag
          simp only [cond_false] at h
          split at h
          · rename_i sv hs
            obtain ⟨v, hc, rv⟩ := hB.cell i j sv hi hs
            obtain ⟨svs, vals, h1, h2, h3⟩ := resK_ok hT R rs _ h
            refine ⟨sv :: svs, v :: vals, h1, by simp only [Rvs]; exact ⟨_, _, rfl, rv, h2⟩, ?_⟩
            simp [List.mapM_cons, resOf, hv, asAddr, loadVar, hag, hc, h3]
          · exact h.elim
      · exact h.elim
    · exact h.elim

theorem results_eq (fn : Func) (tmps : Array Value) : results fn tmps = (do let vs ← fn.results.mapM (resOf tmps); pure (if h : vs.size = 1 then vs[0] else .tuple vs)) := by
  have : (fun (r : ResultVar) => match r with | .tmp t => (pure (tmps.getD t undef) : Sem Value) | .cell a t => do loadVar t (← asAddr (tmps.getD a undef))) = resOf tmps := by
    funext r; cases r <;> rfl
  unfold results
  rw [← this]
  rfl

theorem results_ok (hT : TabOk P T) (R : Rel C g vs a w) {fn : Func} {K : List SV → Prop} (h : resK T vs fn.results.toList K) :
    ∃ svs v, K svs ∧ Rv g (oneOr svs) v ∧ (results fn a.tmps).run P w = .ok v w := by
  obtain ⟨svs, vals, h1, h2, h3⟩ := resK_ok hT R fn.results.toList K h
  rw [results_eq]
  have hrun : (fn.results.mapM (m := Sem) (resOf a.tmps)).run P w = .ok vals.toArray w := by
    rw [Array.mapM_eq_mapM_toList, Sem.run_map, h3]; rfl
  simp only [Sem.run_bind, hrun, Result.andThen_ok, Sem.run_pure]
  refine ⟨svs, _, h1, ?_, rfl⟩
  match svs, h2 with
  | [], h2 =>
    simp only [Rvs] at h2; subst h2
    simp only [oneOr, Rv]
    exact ⟨#[], by simp, by simp [Rvs]⟩
  | [s], h2 =>
    simp only [Rvs] at h2
    obtain ⟨v, vs', e, r, e2⟩ := h2
    subst e2; subst e
    simpa [oneOr] using r
  | s :: t :: r, h2 =>
    have hl := Rvs.length _ _ h2
    simp only [oneOr, Rv]
    refine ⟨vals.toArray, ?_, by simpa using h2⟩
    rw [dif_neg (by simp [hl])]

theorem envOf_ok : ∀ (args : List SV) (vals : List Value) (i : Nat), Rvs g args vals → ∀ t sv, aget (envOf i args) t = some sv → i ≤ t ∧ ∃ v, vals[t - i]? = some v ∧ Rv g sv v
  | [], vals, i, _, t, sv, h => by simp [envOf, aget] at h
  | s :: args, vals, i, hr, t, sv, h => by
    simp only [Rvs] at hr
    obtain ⟨v, vs', e, h1, h2⟩ := hr
    subst e
    simp only [envOf] at h
    rw [aget_cons] at h
    split at h
    · rename_i e; subst e; simp only [Option.some.injEq] at h; subst h
      exact ⟨Nat.le_refl _, v, by simp, h1⟩
    · rename_i hne
      obtain ⟨k1, u, k2, k3⟩ := envOf_ok args vs' (i + 1) h2 t sv h
      refine ⟨by omega, u, ?_, k3⟩
      rw [show t - i = (t - (i + 1)) + 1 from by omega]
      simpa using k2

/-- THE CONTRACT OF A FUNCTION FROM THE CONDITION OF ITS BODY. -/
theorem fc_of (hm : P.follows .mixedOrders = true) (hT : TabOk P T) {n : Nat} {f : FuncId} {fn : Func} {c : Code} (hf : P.funcs[f]? = some fn) (hb : fn.body = some c) (hname : (fn.name == "runtime.NumGoroutine") = false) {args : List SV} {H : Heap} {post : SV → Heap → Nat → Prop}
    (hN : Nat.ble args.length fn.ntmps = true) (hok : codeOk fn.ntmps c = true) (h : vcode P T n c ⟨envOf 0 args, H, n⟩ (retK T fn.results.toList post)) : FC P n f args H post := by
  refine ⟨⟨fn, c, hf, hb, hname⟩, ?_⟩
  intro g w vals hn hH hv
  refine calls_of_wp hf hb ?_
  have hlen := Rvs.length _ _ hv
  have hNle := Nat.le_of_ble_eq_true hN
  let C : Ctx := ⟨g, w, Wset g H, fn.ntmps⟩
  have R : Rel C g ⟨envOf 0 args, H, n⟩ { tmps := vals.toArray ++ Array.replicate (fn.ntmps - vals.toArray.size) undef, defers := [] } w := by
    refine ⟨?_, ?_, rfl, hn, G.le.refl g, hH, ⟨rfl, rfl, rfl, Nat.le_refl _, fun _ _ _ => rfl⟩, ?_⟩
    · intro t sv ht
      obtain ⟨_, v, h1, h2⟩ := envOf_ok args vals 0 hv t sv ht
      have hlt : t < vals.length := by
        rcases Nat.lt_or_ge t vals.length with h | h
        · exact h
        · simp only [Nat.sub_zero] at h1; rw [List.getElem?_eq_none h] at h1; cases h1
      have e : (vals.toArray ++ Array.replicate (fn.ntmps - vals.toArray.size) undef).getD t undef = v := by
        rw [Array.getD_eq_getD_getElem?, Array.getElem?_append_left (by simpa using hlt)]
        simp only [Nat.sub_zero] at h1
        simp [h1]
      show Rv g sv ((vals.toArray ++ Array.replicate (fn.ntmps - vals.toArray.size) undef).getD t undef)
      rw [e]; exact h2
    · show (vals.toArray ++ Array.replicate (fn.ntmps - vals.toArray.size) undef).size = fn.ntmps
      simp; omega
    · intro k hb' h1 h2
      exact .inl ⟨k, hb', h1, h2, rfl⟩
  have hc : vcode P T C.g.n c ⟨envOf 0 args, H, n⟩ (retK T fn.results.toList post) := by
    show vcode P T g.n c _ _
    rw [hn]; exact h
  refine vcode_ok hm hT c _ g _ w _ _ hok R hc ?_
  intro e vs' g' a' w' hk hR
  have fin : resK T vs' fn.results.toList (fun l => post (oneOr l) vs'.heap vs'.next) → bodyPost P fn (fun e w' => ∃ v, e = .returned v ∧ ∃ sv H' g', G.le g g' ∧ Rv g' sv v ∧ post sv H' g'.n ∧ Holds g' H' w' ∧ Fr (Wset g H) w w' ∧ Owns g' H' (Wset g H) w) .ret a' w' := by
    intro hk
    obtain ⟨svs, v, h1, h2, h3⟩ := results_ok hT hR hk
    exact ⟨hR.defers, v, h3, v, rfl, oneOr svs, vs'.heap, g', hR.le, h2, by rw [hR.next]; exact h1, hR.heap, hR.fr, hR.own⟩
  cases e with
  | normal => exact fin hk
  | ret => exact fin hk
  | _ => exact hk.elim

/-- A pure contract at a call. -/
theorem vcall_pure {f : FuncId} {args : List SV} {r : SV} {e : Env} {H : Heap} {n : Nat} {K : SV → Heap → Nat → Prop} (hc : Pure P f args r) (ha : SV.plains args = true) (hr : SV.plain r = true) (hk : K r H n) : vcall P f args ⟨e, H, n⟩ K := by
  refine ⟨fun sv H' n' => sv = r ∧ H' = H ∧ n' = n, ⟨hc.1, ?_⟩, ?_⟩
  · intro g w vals hn hH hv
    have := hc.2 ⟨0, g.f⟩ w vals rfl ⟨fun h hb hh => by simp [aget] at hh, fun h h' hb hb' _ hh => by simp [aget] at hh⟩ (Rvs.any _ _ ha hv)
    refine this.mono ?_
    rintro e' w' ⟨v, rfl, sv, H', g', _, hrv, rfl, _, hfr, _⟩
    have hW : ∀ b, ¬ Wset ⟨0, g.f⟩ [] b := by rintro b ⟨h, hb, hh, _⟩; simp [aget] at hh
    have hb' : ∀ k, k < w.heap.size → w'.heap[k]? = w.heap[k]? := fun k hk => hfr.block k hk (hW k)
    refine ⟨v, rfl, _, H, g, G.le.refl g, Rv.any _ _ hr hrv, ⟨rfl, rfl, hn⟩, ⟨?_, hH.sep⟩, ⟨hfr.os, hfr.tape, hfr.output, hfr.size, fun k hk _ => hb' k hk⟩, fun h hb h1 h2 => .inl ⟨h, hb, h1, h2, rfl⟩⟩
    intro h hb hh
    obtain ⟨h1, h2⟩ := hH.blk h hb hh
    exact ⟨h1, blkAt_mono h2 (G.le.refl g) hfr.size (fun hl => hb' _ (h2.lt hl))⟩
  · rintro sv H' n' ⟨rfl, rfl, rfl⟩; exact hk

theorem callQ_pure {f : FuncId} {args : List SV} {r : SV} {vs : VS} {d : Option Nat} {K : VS → Prop} (hc : Pure P f args r) (ha : (SV.plains args && SV.plain r) = true) (hk : putK vs d r K) : callQ P f args vs d K := ⟨r, hc, ha, hk⟩

theorem weakEnv_nil {e : Env} : weakEnv [] e := trivial
theorem weakEnv_cons {t : Nat} {sv : SV} {r e : Env} (h : aget e t = some sv) (k : weakEnv r e) : weakEnv ((t, sv) :: r) e := ⟨h, k⟩
theorem weakHeap_nil {e : Heap} : weakHeap [] e := trivial
theorem weakHeap_cons {t : Nat} {hb : HB} {r e : Heap} (h : aget e t = some hb) (k : weakHeap r e) : weakHeap ((t, hb) :: r) e := ⟨h, k⟩
theorem weak_mk {n0 : Nat} {v v0 : VS} (h1 : Nat.ble n0 v0.next = true) (h2 : Nat.ble v0.next v.next = true) (h3 : (envWf v0.next v0.env && heapWf v0.next v0.heap) = true) (h4 : weakEnv v0.env v.env) (h5 : weakHeap v0.heap v.heap) : Weak n0 v v0 :=
  ⟨Nat.le_of_ble_eq_true h1, h4, h5, Nat.le_of_ble_eq_true h2, h3⟩

/-- A loop, by the state at the head of each round, what holds of it, and a number that goes down. -/
theorem vloop_of {α : Type} {n0 : Nat} {body : VS → (Exit → VS → Prop) → Prop} {K : Exit → VS → Prop} (st : α → VS) (inv : α → Prop) (μ : α → Nat) (x0 : α) (hw : Weak n0 vs (st x0)) (hi : inv x0)
    (hr : ∀ x, inv x → body (st x) (fun e v' => match e with | .normal => ∃ y, inv y ∧ μ y < μ x ∧ Weak n0 v' (st y) | e => K e v')) : vloop n0 body vs K := ⟨α, st, inv, μ, x0, hw, hi, hr⟩

/-- A contract over plain arguments, as the guide's laws want it. -/
theorem Pure.calls {f : FuncId} {args : List SV} {r : SV} (hc : Pure P f args r) (hr : SV.plain r = true) {vals : List Value} (hv : ∀ g, Rvs g args vals) (w : World) :
    Calls P f vals.toArray w (fun e w' => ∃ v, e = .returned v ∧ (∀ g, Rv g r v) ∧ Below w.heap.size w w') := by
  have := hc.2 ⟨0, fun _ => ⟨0, 0, 0⟩⟩ w vals rfl ⟨fun h hb hh => by simp [aget] at hh, fun h h' hb hb' _ hh => by simp [aget] at hh⟩ (hv _)
  refine this.mono ?_
  rintro e' w' ⟨v, rfl, sv, H', g', _, hrv, rfl, _, hfr, _⟩
  exact ⟨v, rfl, fun g => Rv.any _ _ hr hrv, hfr.os, hfr.tape, hfr.output, hfr.size, fun k hk => hfr.block k hk (by rintro ⟨h, hb, hh, _⟩; simp [aget] at hh)⟩

/-- A law: whatever is handed in is only read, and the answer is true. -/
theorem FC.law {n : Nat} {f : FuncId} {args : List SV} {H : Heap} (hc : FC P n f args H (fun sv _ _ => sv = .bool true)) (hro : ∀ h hb, aget H h = some hb → hb.ro = true) {g : G} {w : World} {vals : List Value} (hn : g.n = n) (hH : Holds g H w) (hv : Rvs g args vals) :
    Calls P f vals.toArray w (fun e w' => e = .returned (.bool true) ∧ Below w.heap.size w w') := by
  refine (hc.2 g w vals hn hH hv).mono ?_
  rintro e w' ⟨v, rfl, sv, H', g', _, hrv, rfl, _, hfr, _⟩
  refine ⟨by rw [rbv hrv], hfr.os, hfr.tape, hfr.output, hfr.size, fun k hk => hfr.block k hk ?_⟩
  rintro ⟨h, hb, hh, h2, _⟩
  rw [hro h hb hh] at h2; cases h2
end
end Go.Sx
