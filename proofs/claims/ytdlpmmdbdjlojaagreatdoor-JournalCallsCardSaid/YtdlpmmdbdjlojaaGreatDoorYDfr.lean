/- The condition is right: a function that defers one call. No program in sight. -/
import Derived.Test.YtdlpmmdbdjlojaaGreatDoorYLib
import Derived.Defers
namespace Go.Sy
open Go.RowKit
set_option linter.unusedVariables false

/-- What a deferred call does. -/
def FCD (P : Program) (n : Nat) (f : FuncId) (args : List SV) (H : Heap) (post : SV → Heap → Nat → Prop) : Prop :=
  ∀ (g : G) (w : World) (vals : List Value) (u : FrameMode), bodied P f ∧ (g.glob → g.upto n → Holds g H w → Rvs g args vals → CallsD P f vals.toArray u w (fun e u' w' => u' = u ∧ ∃ v, e = .returned v ∧ Out g w n H post v w'))

section
variable {P : Program} {T : Tab} {g : G} {C : Ctx} {vs : VS} {a : Act} {w : World}

theorem rel_of (hname : True) {n : Nat} {N : Nat} {args : List SV} {H : Heap} {vals : List Value} (hNle : args.length ≤ N) (hg : g.glob) (hup : g.upto n) (hH : Holds g H w) (hv : Rvs g args vals) :
    Rel ⟨g, n, w, Wset g H, N, []⟩ g ⟨envOf 0 args, H, n⟩ { tmps := vals.toArray ++ Array.replicate (N - vals.toArray.size) undef, defers := [] } w := by
  have hlen := Rvs.length _ _ hv
  refine ⟨?_, ?_, rfl, hg, hup, Nat.le_refl _, fun _ _ _ => rfl, hH, Fr.refl _ _, fun h q b β he hgb hc => .inl ⟨h, q, b, β, he, hgb, hc, rfl⟩⟩
  · intro t sv ht
    obtain ⟨_, v, h1, h2⟩ := envOf_ok args vals 0 hv t sv ht
    have hlt : t < vals.length := by
      rcases Nat.lt_or_ge t vals.length with h | h
      · exact h
      · simp only [Nat.sub_zero] at h1; rw [List.getElem?_eq_none h] at h1; cases h1
    have e : (vals.toArray ++ Array.replicate (N - vals.toArray.size) undef).getD t undef = v := by
      rw [Array.getD_eq_getD_getElem?, Array.getElem?_append_left (by simpa using hlt)]
      simp only [Nat.sub_zero] at h1
      simp [h1]
    show Rv g sv ((vals.toArray ++ Array.replicate (N - vals.toArray.size) undef).getD t undef)
    rw [e]; exact h2
  · show (vals.toArray ++ Array.replicate (N - vals.toArray.size) undef).size = N
    simp; omega

/-- What a function leaves, from the condition of its results. -/
theorem fin_of (hT : TabOk P T) {fn : Func} {post : SV → Heap → Nat → Prop} {H : Heap} (hg0 : C.W = Wset C.g H) (hR : Rel C g vs a w) (hk : resK T vs fn.results.toList (fun l => retP C.n0 post (oneOr l) vs)) :
    ∃ v, (results fn a.tmps).run P w = .ok v w ∧ Out C.g C.w C.n0 H post v w := by
  obtain ⟨svs, v, h1, h2, h3⟩ := results_ok hT hR hk
  obtain ⟨l, u, r0, H0, n1, hu, hp⟩ := h1
  obtain ⟨gu, vu, Ru, hle, ro⟩ := upK_le u vs g _ hR hu
  obtain ⟨g0, hB, k1, k2, k3, k4, k5, k6⟩ := renumber Ru ro.ids ro.heap
  refine ⟨v, h3, r0, H0, n1, g0, hp, k3, k2, k4, Rv.back hB r0 v (by rw [← ro.res]; exact Rv.mono hle _ _ h2), k5, ro.rw, ?_, ?_⟩
  · rw [← hg0]; exact Ru.fr
  · rw [← hg0]; exact k6

/-- THE CONTRACT OF A DEFERRED FUNCTION FROM THE CONDITION OF ITS BODY. -/
theorem fd_of (hm : P.follows .mixedOrders = true) (hT : TabOk P T) {n : Nat} {f : FuncId} {fn : Func} {c : Code} (hf : P.funcs[f]? = some fn) (hb : fn.body = some c) (hname : (fn.name == "runtime.NumGoroutine") = false) {args : List SV} {H : Heap} {post : SV → Heap → Nat → Prop}
    (hN : Nat.ble args.length fn.ntmps = true) (hok : codeOk fn.ntmps c = true) (h : vcode P T n c ⟨envOf 0 args, H, n⟩ (retK T n fn.results.toList post)) : FCD P n f args H post := by
  intro g w vals u
  refine ⟨⟨fn, c, hf, hb, hname⟩, fun hg hup hH hv => ?_⟩
  refine callsD_of_wp hf hb ?_
  refine vcode_ok (C := ⟨g, n, w, Wset g H, fn.ntmps, []⟩) hm hT c _ g _ w _ _ hok (rel_of trivial (Nat.le_of_ble_eq_true hN) hg hup hH hv) h ?_
  intro e vs' g' a' w' hk hR
  cases e with
  | normal =>
    obtain ⟨v, h1, h2⟩ := fin_of hT rfl hR hk
    exact ⟨hR.defers, v, h1, v, rfl, h2⟩
  | ret =>
    obtain ⟨v, h1, h2⟩ := fin_of hT rfl hR hk
    exact ⟨hR.defers, v, h1, v, rfl, h2⟩
  | _ => exact hk.elim

/-- The last operation of a region defers a call. -/
def lastDefer : List Oper → Bool
  | [] => false
  | o :: r => match r with
    | [] => (match o.op with | .defer _ => true | _ => false)
    | _ :: _ => lastDefer r

/-- A region whose last operation defers a call. -/
def vopsF (P : Program) (T : Tab) (ops : List Oper) : List Oper → VS → (SV → VS → Prop) → Prop
  | [], _, _ => False
  | o :: r, vs, K => match r with
    | [] => (match o.op, o.dst, o.guard with
      | .defer ⟨.value fo, args, _⟩, none, none => (match args.toList, gv vs fo with
        | [], some (.fn f cap) => K (.fn f cap) vs
        | _, _ => False)
      | _, _, _ => False)
    | _ :: _ => match guardSlot ops o with
      | none => vop P T ops o vs (fun vs' => vopsF P T ops r vs' K)
      | some _ => False

def spineC (f : VS → Prop) (K : Exit → VS → Prop) : Exit → VS → Prop := fun e vs' => match e with | .normal => f vs' | e => K e vs'

/-- Code whose spine holds one deferred call. -/
def vspine (P : Program) (T : Tab) (n0 : Nat) : Code → VS → (Exit → VS → Prop) → (SV → Exit → VS → Prop) → Prop
  | .seq a b, vs, K0, K1 => (match a with
    | .region _ ops draw => bif lastDefer ops.toList then (bif draw then False else vopsF P T ops.toList ops.toList vs (fun sv v => vcode P T v.next b v (K1 sv))) else vcode P T n0 a vs (spineC (fun v => vspine P T n0 b v K0 K1) K0)
    | _ => vcode P T n0 a vs (spineC (fun v => vspine P T n0 b v K0 K1) K0))
  | c, vs, K0, _ => vcode P T n0 c vs K0

theorem vopsF_ok (hT : TabOk P T) {ops : Array Oper} {Q : Exit → Act → World → Prop} : ∀ (l : List Oper) (vs : VS) (g : G) (a : Act) (w : World) (K : SV → VS → Prop), dstsOk C.N l = true → Rel C g vs a w → vopsF P T ops.toList l vs K →
    (∀ f cap cs vs' g' a' w', K (.fn f cap) vs' → Rvs g' cap cs.toList → Rel C g' vs' a' w' → Q .normal { a' with defers := ⟨.fn (.func f) cs, #[]⟩ :: a'.defers } w') → wpList P ops Q l a w
  | [], vs, g, a, w, K, _, R, h, hq => h.elim
  | [o], vs, g, a, w, K, hds, R, h, hq => by
    simp only [vopsF] at h
    split at h
    · rename_i fo args ts hop hdst hgd
      split at h
      · rename_i f cap hargs hf
        have hfv := gv_ok R.glob R.env hf
        simp only [Rv] at hfv
        obtain ⟨cs, hcs, hcr⟩ := hfv
        have ha : args = #[] := by apply Array.ext'; rw [hargs]
        subst ha
        have hrun : (execOp a.eval o).run P w = .ok (.defer ⟨.fn (.func f) cs, #[]⟩) w := by
          simp [execOp, hop, resolve, hcs, Deferred.ofValue]
        unfold wpList
        rw [if_pos (by simp [Region.wanted, hgd])]
        refine .inl ?_
        simp only [Oper.wp, hrun, Oper.upon_defer, hdst]
        unfold wpList
        exact hq f cap cs vs g a w h hcr R
      · exact h.elim
    · exact h.elim
  | o :: p :: l, vs, g, a, w, K, hds, R, h, hq => by
    simp only [dstsOk, Bool.and_eq_true] at hds
    have hd : ∀ d, o.dst = some d → d < C.N := by
      intro d e
      have := hds.1
      rw [e] at this
      exact Nat.le_of_ble_eq_true this
    simp only [vopsF] at h
    split at h
    · exact vop_ok hT R hd h (fun vs' g' a' w' k1 k2 => vopsF_ok hT (p :: l) vs' g' a' w' K (by simp only [dstsOk, Bool.and_eq_true]; exact hds.2) k2 k1 hq)
    · exact h.elim

theorem vspine_ok (hm : P.follows .mixedOrders = true) (hT : TabOk P T) {Q : Exit → Act → World → Prop} : ∀ (c : Code) (vs : VS) (g : G) (a : Act) (w : World) (K0 : Exit → VS → Prop) (K1 : SV → Exit → VS → Prop), codeOk C.N c = true → Rel C g vs a w → vspine P T C.n0 c vs K0 K1 →
    (∀ e vs' g' a' w', K0 e vs' → Rel C g' vs' a' w' → Q e a' w') →
    (∀ n1 g1 f cap cs, C.n0 ≤ n1 → g1.upto n1 → (∀ h q, h < C.n0 → g1 h q = C.g h q) → Rvs g1 cap cs.toList → ∀ e vs' g' a' w', K1 (.fn f cap) e vs' → Rel ⟨g1, n1, C.w, C.W, C.N, ⟨.fn (.func f) cs, #[]⟩ :: C.ds⟩ g' vs' a' w' → Q e a' w') → c.wp P Q a w
  | .seq x b, vs, g, a, w, K0, K1, ho, R, h, hq, hq1 => by
    simp only [codeOk, Bool.and_eq_true] at ho
    have plain : vcode P T C.n0 x vs (spineC (fun v => vspine P T C.n0 b v K0 K1) K0) → (Code.seq x b).wp P Q a w := by
      intro h
      refine wp_seq (vcode_ok hm hT x vs g a w _ _ ho.1 R h ?_)
      intro e vs' g' a' w' k1 k2
      cases e with
      | normal => exact vspine_ok hm hT b vs' g' a' w' K0 K1 ho.2 k2 k1 hq hq1
      | _ => exact hq _ _ _ _ _ k1 k2
    simp only [vspine] at h
    split at h
    · rename_i id ops draw
      cases hl : lastDefer ops.toList with
      | false => rw [hl] at h; exact plain h
      | true =>
        rw [hl] at h
        simp only [cond_true] at h
        cases draw with
        | true => exact h.elim
        | false =>
          simp only [cond_false] at h
          have ho1 := ho.1
          simp only [codeOk, Bool.and_eq_true] at ho1
          refine wp_seq (wp_region_list (vopsF_ok hT ops.toList vs g a w _ ho1.1 R h ?_))
          intro f cap cs vs' g' a' w' k1 k2 k3
          have R' : Rel ⟨g', vs'.next, C.w, C.W, C.N, ⟨.fn (.func f) cs, #[]⟩ :: C.ds⟩ g' vs' { a' with defers := ⟨.fn (.func f) cs, #[]⟩ :: a'.defers } w' :=
            ⟨k3.env, k3.size, by show _ :: a'.defers = _; rw [k3.defers], k3.glob, k3.upto, Nat.le_refl _, fun _ _ _ => rfl, k3.heap, k3.fr, k3.own⟩
          exact vcode_ok (C := ⟨g', vs'.next, C.w, C.W, C.N, ⟨.fn (.func f) cs, #[]⟩ :: C.ds⟩) hm hT b vs' g' _ w' (K1 (.fn f cap)) Q ho.2 R' k1 (fun e v2 g2 a2 w2 h1 h2 => hq1 vs'.next g' f cap cs k3.lo k3.upto k3.keep k2 e v2 g2 a2 w2 h1 h2)
    · exact plain h
  | .skip, vs, g, a, w, K0, K1, ho, R, h, hq, _ => vcode_ok hm hT _ vs g a w K0 Q ho R h hq
  | .region _ _ _, vs, g, a, w, K0, K1, ho, R, h, hq, _ => vcode_ok hm hT _ vs g a w K0 Q ho R h hq
  | .cond _ _ _, vs, g, a, w, K0, K1, ho, R, h, hq, _ => vcode_ok hm hT _ vs g a w K0 Q ho R h hq
  | .block _ _, vs, g, a, w, K0, K1, ho, R, h, hq, _ => vcode_ok hm hT _ vs g a w K0 Q ho R h hq
  | .loop _, vs, g, a, w, K0, K1, ho, R, h, hq, _ => vcode_ok hm hT _ vs g a w K0 Q ho R h hq
  | .exit _, vs, g, a, w, K0, K1, ho, R, h, hq, _ => vcode_ok hm hT _ vs g a w K0 Q ho R h hq
  | .ret, vs, g, a, w, K0, K1, ho, R, h, hq, _ => vcode_ok hm hT _ vs g a w K0 Q ho R h hq
  | .label _, vs, g, a, w, K0, K1, ho, R, h, hq, _ => vcode_ok hm hT _ vs g a w K0 Q ho R h hq
  | .scope _, vs, g, a, w, K0, K1, ho, R, h, hq, _ => vcode_ok hm hT _ vs g a w K0 Q ho R h hq

/-- At the return: the deferred call by its contract, the results behind it. -/
def retD (P : Program) (T : Tab) (n0 : Nat) (rs : List ResultVar) (post : SV → Heap → Nat → Prop) (f : FuncId) (cap : List SV) (vs : VS) : Prop :=
  ∃ (l : List Nat) (args0 : List SV) (H : Heap) (post0 : SV → Heap → Nat → Prop), FCD P l.length f args0 H post0 ∧ Fits l vs.next cap args0 H vs.heap ∧
    ∀ sv H' n', post0 sv H' n' → updK vs none sv (renH (rho l vs.next) H' ++ lost (rho l vs.next) H) (n' - l.length) (fun v => resK T v rs (fun m => retP n0 post (oneOr m) v))

def retF (P : Program) (T : Tab) (n0 : Nat) (rs : List ResultVar) (post : SV → Heap → Nat → Prop) : SV → Exit → VS → Prop
  | .fn f cap, .normal, vs => retD P T n0 rs post f cap vs
  | .fn f cap, .ret, vs => retD P T n0 rs post f cap vs
  | _, _, _ => False

theorem le_keep {g1 g2 : G} {n : Nat} (hu : g1.upto n) (hk : ∀ h q, h < n → g2 h q = g1 h q) : G.le g1 g2 := by
  intro h q β e
  rcases Nat.lt_or_ge h n with hh | hh
  · rw [hk h q hh]; exact e
  · rw [hu h q hh] at e; cases e

/-- THE CONTRACT OF A FUNCTION THAT DEFERS ONE CALL. -/
theorem fc_of_defer (hm : P.follows .mixedOrders = true) (hT : TabOk P T) {n : Nat} {f : FuncId} {fn : Func} {c : Code} (hf : P.funcs[f]? = some fn) (hb : fn.body = some c) (hname : (fn.name == "runtime.NumGoroutine") = false) {args : List SV} {H : Heap} {post : SV → Heap → Nat → Prop}
    (hN : Nat.ble args.length fn.ntmps = true) (hok : codeOk fn.ntmps c = true) (h : vspine P T n c ⟨envOf 0 args, H, n⟩ (retK T n fn.results.toList post) (retF P T n fn.results.toList post)) : FC P n f args H post := by
  refine .inl ⟨⟨fn, c, hf, hb, hname⟩, ?_⟩
  intro g w vals hg hup hH hv
  refine calls_of_wp_defers hf hb ?_
  refine vspine_ok (C := ⟨g, n, w, Wset g H, fn.ntmps, []⟩) hm hT c _ g _ w _ _ hok (rel_of trivial (Nat.le_of_ble_eq_true hN) hg hup hH hv) h ?_ ?_
  · intro e vs' g' a' w' hk hR
    have fin : resK T vs' fn.results.toList (fun l => retP n post (oneOr l) vs') → Leaves P fn a'.tmps (fun e w' => ∃ v, e = .returned v ∧ Out g w n H post v w') a'.defers .returning w' := by
      intro hk
      obtain ⟨v, h1, h2⟩ := fin_of hT rfl hR hk
      rw [show a'.defers = [] from hR.defers]
      exact ⟨v, h1, v, rfl, h2⟩
    cases e with
    | normal => exact fin hk
    | ret => exact fin hk
    | _ => exact hk.elim
  · intro n1 g1 f1 cap cs hn1 hup1 hkeep hcs e vs' g' a' w' hk hR
    have fin : retD P T n fn.results.toList post f1 cap vs' → Leaves P fn a'.tmps (fun e w' => ∃ v, e = .returned v ∧ Out g w n H post v w') a'.defers .returning w' := by
      rintro ⟨l, args0, H0, post0, hfc, hfit, hk⟩
      rw [show a'.defers = [⟨.fn (.func f1) cs, #[]⟩] from hR.defers]
      have hcap : Rvs g' cap cs.toList := Rvs.mono (le_keep hup1 hR.keep) _ _ hcs
      obtain ⟨g0, k1, k2, k3, k4, k5⟩ := call_core hfit hR.glob hR.heap hcap (fun _ _ _ _ h q hh _ => hR.upto h q hh)
      obtain ⟨hbd, hcd⟩ := hfc g0 w' cs.toList .returning
      refine leaves_cons (by simp) (args := cs) (f := f1) ?_ ?_
      · simp only [invoke]
        rw [run_bodied hbd]; simp
      · refine CallsD.mono (by simpa using hcd k1 k2 k3 k4) ?_
        rintro e1 u1 w1 ⟨rfl, v1, rfl, ho⟩
        obtain ⟨sv, H', n', g2, hp, A⟩ := k5 v1 w1 ho
        have R2 : Rel ⟨g1, n1, w, Wset g H, fn.ntmps, [⟨.fn (.func f1) cs, #[]⟩]⟩ g2 _ _ w1 := rel_after (o := ⟨none, .move (.tmp 0), 0, "", #[], none⟩) hR A (by intro x e; cases e)
        have R3 : Rel ⟨g, n, w, Wset g H, fn.ntmps, []⟩ g2 ⟨vs'.env, (renH (rho l vs'.next) H' ++ lost (rho l vs'.next) H0) ++ vs'.heap, vs'.next + (n' - l.length)⟩ { tmps := a'.tmps, defers := [] } w1 :=
          ⟨R2.env, R2.size, rfl, R2.glob, R2.upto, Nat.le_trans hn1 R2.lo, fun h q hh => (R2.keep h q (Nat.lt_of_lt_of_le hh hn1)).trans (hkeep h q hh), R2.heap, R2.fr, R2.own⟩
        have h3 := updK_iff.1 (hk sv H' n' hp)
        obtain ⟨v, h4, h5⟩ := fin_of hT rfl R3 h3
        exact ⟨v, h4, v, rfl, h5⟩
    cases e with
    | normal => exact fin hk
    | ret => exact fin hk
    | _ => exact hk.elim

theorem retD_o {l : List Nat} {n0 : Nat} {rs : List ResultVar} {post : SV → Heap → Nat → Prop} {f : FuncId} {cap args0 : List SV} {vs : VS} {H H' : Heap} {r : SV} {n' : Nat} (hc : FCD P l.length f args0 H (isOut r H' n'))
    (hk : updK vs none r (renH (rho l vs.next) H' ++ lost (rho l vs.next) H) (n' - l.length) (fun v => resK T v rs (fun m => retP n0 post (oneOr m) v)))
    (h1 : headOk l = true := by exact rfl) (h2 : injH (rho l vs.next) H H = true := by exact rfl) (h3 : cap = SV.rens (rho l vs.next) args0 := by exact rfl) (h4 : SV.wfs l.length args0 = true := by exact rfl)
    (h5 : heapWf l.length H := by (repeat' (first | exact trivial | exact GB_wf | exact fun _ _ => rfl | constructor)); first | done | fail)
    (h6 : hmatch (rho l vs.next) H vs.heap := by (repeat' (first | exact trivial | exact GB_fits rfl | constructor)); first | done | fail) : retD P T n0 rs post f cap vs :=
  ⟨l, args0, H, _, hc, ⟨h1, h2, h3, h4, h5, h6⟩, by rintro sv H1 n1 ⟨rfl, rfl, rfl⟩; exact hk⟩
end
end Go.Sy
