/- The generator is right: operations that only look, all of them. No program in sight. -/
import Derived.Test.YtllgfdogieohaaaSxSound1
namespace Go.Sx
open Go.RowKit

section ops
variable {P : Program} {T : Tab} {g : G} {vs : VS} {a : Act} {w : World} {K : SV → Prop}

theorem riv {k : IntKind} {n : Int} {v : Value} (h : Rv g (.int k n) v) : v = .int k n := by simpa only [Rv] using h
theorem rbv {b : Bool} {v : Value} (h : Rv g (.bool b) v) : v = .bool b := by simpa only [Rv] using h
theorem rtv {b : ByteArray} {v : Value} (h : Rv g (.str b) v) : v = .string b := by simpa only [Rv] using h
theorem rpv {h i j : Nat} {v : Value} (r : Rv g (.ptr h i j) v) : h < g.n ∧ v = .pointer (some ((g.f h).addr i j)) := by simpa only [Rv] using r
theorem rsv {h i n c : Nat} {v : Value} (r : Rv g (.sl h i n c) v) : h < g.n ∧ ∃ a, v = .slice a n c ∧ ((n = 0 ∧ c = 0) ∨ a = some ((g.f h).addr i 0)) := by simpa only [Rv] using r
theorem rav {l : List SV} {v : Value} (r : Rv g (.agg l) v) : ∃ vs, v = .agg vs ∧ Rvs g l vs.toList := by simpa only [Rv] using r
theorem ruv {l : List SV} {v : Value} (r : Rv g (.tup l) v) : ∃ vs, v = .tuple vs ∧ Rvs g l vs.toList := by simpa only [Rv] using r

theorem eqFields_ok (d : Nat) (xs ys : Array Value) (w : World) : ∀ (fs : List Field) (i : Nat) (ks : List Nat) (l m : List SV) (r : Bool), flatFrom P i fs = some ks →
    Rvs g l (xs.toList.drop i) → Rvs g m (ys.toList.drop i) → eqCells ks l m = some r → (Op.eqFields (d + 1) xs ys fs).run P w = .ok r w := by
  intro fs
  induction fs with
  | nil =>
    intro i ks l m r hf _ _ he
    simp only [flatFrom, Option.some.injEq] at hf
    subst hf
    cases l with
    | nil => cases m with
      | nil => simp only [eqCells, Option.some.injEq] at he; subst he; simp [Op.eqFields]
      | cons _ _ => simp [eqCells] at he
    | cons _ _ => simp [eqCells] at he
  | cons f fs ih =>
    intro i ks l m r hf hx hy he
    simp only [flatFrom] at hf
    cases hg : ((f.name != "_") && !Nat.beq (scalarK P f.type) 0 && (f.offset == i)) with
    | false => rw [hg] at hf; simp at hf
    | true =>
      rw [hg] at hf
      simp only [cond_true] at hf
      simp only [Bool.and_eq_true, bne_iff_ne, ne_eq, beq_iff_eq] at hg
      obtain ⟨⟨hname, _⟩, hoff⟩ := hg
      split at hf
      · rename_i kr hkr
        simp only [Option.some.injEq] at hf
        subst hf
        generalize hk : scalarK P f.type = k at he
        have step : ∀ (s t : SV) (ss ts : List SV), l = s :: ss → m = t :: ts →
            (∀ u v, Rv g s u → Rv g t v → ∃ b c, r = (b && c) ∧ eqCells kr ss ts = some c ∧ (Op.equalIn (d + 1) f.type u v).run P w = .ok b w) → (Op.eqFields (d + 1) xs ys (f :: fs)).run P w = .ok r w := by
          intro s t ss ts hl hm key
          subst hl; subst hm
          simp only [Rvs] at hx hy
          obtain ⟨u, us, hu, ru, rus⟩ := hx
          obtain ⟨v, vs', hv, rv, rvs⟩ := hy
          have hxu : xs[i]? = some u := by
            have : xs.toList[i]? = some u := by
              have h0 := congrArg (fun z : List Value => z[0]?) hu
              simpa using h0
            simpa using this
          have hyv : ys[i]? = some v := by
            have : ys.toList[i]? = some v := by
              have h0 := congrArg (fun z : List Value => z[0]?) hv
              simpa using h0
            simpa using this
          have hus : us = xs.toList.drop (i + 1) := by
            have h0 := congrArg (fun z : List Value => z.drop 1) hu
            simp at h0
            exact h0.symm
          have hvs : vs' = ys.toList.drop (i + 1) := by
            have h0 := congrArg (fun z : List Value => z.drop 1) hv
            simp at h0
            exact h0.symm
          rw [hus] at rus
          rw [hvs] at rvs
          have part1 : ∀ (zs : Array Value) (z : Value), zs[i]? = some z → (part f.type zs f.offset).run P w = .ok z w := by
            intro zs z hz
            rw [hoff]
            have hk' := hk
            unfold scalarK at hk'
            split at hk'
            · rename_i hd; simp [part, isAgg, run_underlying hd, hz]
            · rename_i hd; simp [part, isAgg, run_underlying hd, hz]
            · rename_i hd; simp [part, isAgg, run_underlying hd, hz]
            · subst hk'
              cases s <;> cases t <;> simp [eqCells] at he
          obtain ⟨b, c, hr, hc, hrun⟩ := key u v ru rv
          have hi := ih (i + 1) kr ss ts c hkr rus rvs hc
          simp only [Op.eqFields, hname, ne_eq, not_false_eq_true, if_true, Sem.run_bind, part1 xs u hxu, part1 ys v hyv, Result.andThen_ok, hrun]
          cases b with
          | false => simp [hr]
          | true => simp [hr, hi]
        unfold scalarK at hk
        unfold eqCells at he
        split at he
        · exact absurd ‹k :: kr = []› (by simp)
        · rename_i kr' p x l' q y m' e1
          cases e1
          cases hpq : ikEq p q with
          | false => rw [hpq] at he; simp at he
          | true =>
            rw [hpq] at he
            simp only [cond_true] at he
            have hpq' := ikEq_ok hpq
            subst hpq'
            split at he
            · rename_i c hc
              simp only [Option.some.injEq] at he
              refine step _ _ _ _ rfl rfl fun u v ru rv => ⟨_, c, he.symm, hc, ?_⟩
              have e1 := riv ru; have e2 := riv rv; subst e1; subst e2
              split at hk <;> first | (rename_i hd; simp [Op.equalIn, run_underlying hd]; done) | (rename_i hd; simp [Op.equalIn, run_underlying hd]; rfl) | (exfalso; omega)
            · cases he
        · rename_i kr' x l' y m' e1
          cases e1
          split at he
          · rename_i c hc
            simp only [Option.some.injEq] at he
            refine step _ _ _ _ rfl rfl fun u v ru rv => ⟨_, c, he.symm, hc, ?_⟩
            have e1 := rtv ru; have e2 := rtv rv; subst e1; subst e2
            split at hk <;> first | (rename_i hd; simp [Op.equalIn, run_underlying hd, beq_toListBytes, beq_toList_eq, seq]; done) | (exfalso; omega)
          · cases he
        · rename_i kr' x l' y m' e1
          cases e1
          split at he
          · rename_i c hc
            simp only [Option.some.injEq] at he
            refine step _ _ _ _ rfl rfl fun u v ru rv => ⟨_, c, he.symm, hc, ?_⟩
            have e1 := rbv ru; have e2 := rbv rv; subst e1; subst e2
            split at hk <;> first | (rename_i hd; simp [Op.equalIn, run_underlying hd]; done) | (exfalso; omega)
          · cases he
        · cases he
      · cases hf

theorem binK_ok (hT : TabOk P T) {op : BinOp} {t t' : TypeId} {x y : Operand} {s u : SV} (hx : Rv g s (a.eval x)) (hy : Rv g u (a.eval y)) (h : binK T op t s u K) :
    ∃ sv v, K sv ∧ Rv g sv v ∧ Yields1 P (.binOp op t x y t') a w v := by
  unfold binK at h
  split at h
  · rename_i p m q n
    obtain ⟨hpq, h2⟩ := bif_elim h
    have := ikEq_ok hpq; subst this
    obtain ⟨sv, v, hK, hr, hrun⟩ := binInt_ok (P := P) (g := g) t h2
    refine ⟨sv, v, hK, hr, ?_⟩
    intro o ho
    simp [execOp, ho, riv hx, riv hy, eqGuard_int, hrun]
  · rename_i m n
    obtain ⟨sv, v, hK, hr, hrun⟩ := binStr_ok (P := P) (g := g) t h
    refine ⟨sv, v, hK, hr, ?_⟩
    intro o ho
    simp [execOp, ho, rtv hx, rtv hy, eqGuard_str, hrun]
  · rename_i m n
    split at h
    · rename_i ti hti
      obtain ⟨hk, h2⟩ := bif_elim h
      clear h
      obtain ⟨i, d, _, hd, _, hkd⟩ := info_of (hT _ _ hti)
      have hk1 : ti.kind = 1 := Nat.eq_of_beq_eq_true hk
      have hd' : d = .bool := by rw [hk1] at hkd; cases d <;> first | rfl | (exact absurd hkd (by simp [kindOf]))
      subst hd'
      have hq : ∀ w, (Op.equal t (.bool m) (.bool n)).run P w = .ok (m == n) w := fun w => run_equalIn_bool w 9999 t m n hd
      split at h2
      · refine ⟨_, _, h2, rvb, ?_⟩
        intro o ho
        simp [execOp, ho, rbv hx, rbv hy, eqGuard_bool, binOp, hq]
      · refine ⟨_, _, h2, rvb, ?_⟩
        intro o ho
        simp [execOp, ho, rbv hx, rbv hy, eqGuard_bool, binOp, hq]
      · exact h2.elim
    · exact h.elim
  · rename_i l m
    split at h
    · rename_i ti hti
      obtain ⟨hk, h2⟩ := bif_elim h
      clear h
      split at h2
      · rename_i r hr
        obtain ⟨xs, ex, rx⟩ := rav hx
        obtain ⟨ys, ey, ry⟩ := rav hy
        have hti' := hT _ _ hti
        unfold tiOf at hti'
        split at hti'
        · rename_i i d hi hd
          simp only [Option.some.injEq] at hti'
          cases d with
          | struct fs =>
            have hfl : (bif !P.stoodInHeld t && !P.eqGuardType P.depth t then (flatFrom P 0 fs.toList).getD [] else []) = ti.flat := by rw [← hti']
            cases hc : (!P.stoodInHeld t && !P.eqGuardType P.depth t) with
            | false => rw [hc] at hfl; simp only [cond_false] at hfl; rw [← hfl] at hk; simp at hk
            | true =>
              rw [hc] at hfl
              simp only [cond_true] at hfl
              simp only [Bool.and_eq_true, Bool.not_eq_true'] at hc
              have hff : P.fieldsOf t = fs := by simp [Program.fieldsOf, hd]
              cases hfk : flatFrom P 0 fs.toList with
              | none => rw [hfk] at hfl; simp only [Option.getD_none] at hfl; rw [← hfl] at hk; simp at hk
              | some ks =>
                rw [hfk] at hfl
                simp only [Option.getD_some] at hfl
                rw [← hfl] at hr
                have hrun : ∀ w, (Op.equalIn (9998 + 2) t (.agg xs) (.agg ys)).run P w = .ok r w := by
                  intro w
                  rw [run_equalIn_struct w 9999 t xs ys (by rw [hff]; exact hd) hc.1, hff]
                  exact eqFields_ok 9998 xs ys w fs.toList 0 ks l m r hfk (by simpa using rx) (by simpa using ry) hr
                have hrun' : ∀ w, (Op.equalIn 10000 t (.agg xs) (.agg ys)).run P w = .ok r w := hrun
                split at h2
                · refine ⟨_, _, h2, rvb, ?_⟩
                  intro o ho
                  simp only [execOp, ho, ex, ey, Sem.run_bind, run_eqGuard_agg w _ t x y xs ys hc.2, run_eql_struct, hrun', Result.andThen_ok, Sem.run_pure]
                · refine ⟨_, _, h2, rvb, ?_⟩
                  intro o ho
                  simp only [execOp, ho, ex, ey, Sem.run_bind, run_eqGuard_agg w _ t x y xs ys hc.2, run_neq_struct, hrun', Result.andThen_ok, Sem.run_pure]
                · exact h2.elim
          | _ => simp only at hti'; rw [← hti'] at hk; simp at hk
        · cases hti'
      · exact h2.elim
    · exact h.elim
  · exact h.elim
end ops
end Go.Sx
