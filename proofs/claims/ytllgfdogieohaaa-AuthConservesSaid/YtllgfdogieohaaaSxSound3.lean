/- The generator is right: operations that only look, all of them. No program in sight. -/
import Derived.Test.YtllgfdogieohaaaSxSound2
namespace Go.Sx
open Go.RowKit

theorem addr_add (β : Base) (i j k : Nat) : (β.addr i j).add k = β.addr i (j + k) := by
  unfold Addr.add Base.addr
  split
  · rename_i h; subst h; rfl
  · simp [Nat.add_assoc]

section ops
variable {P : Program} {T : Tab} {g : G} {vs : VS} {a : Act} {w : World} {K : SV → Prop}

theorem fields_of {t : TypeId} {ti : TI} (h : tiOf P t = some ti) (hk : Nat.beq ti.kind 4 = true) {f o n : Nat} {ag : Bool} (hf : nth ti.fields f = some (o, n, ag)) (hn : Nat.beq n 0 = false) :
    ∃ fs fld, P.underlying t = some (.struct fs) ∧ fs[f]? = some fld ∧ fld.offset = o ∧ (∀ w, (sizeOf fld.type).run P w = .ok n w) ∧ (∀ w, (isAgg fld.type).run P w = .ok ag w) := by
  unfold tiOf at h
  split at h
  · rename_i i d hi hd
    simp only [Option.some.injEq] at h
    cases d with
    | struct fs =>
      rw [← h] at hf
      rw [nth_eq] at hf
      simp only [List.getElem?_map, Array.getElem?_toList, Option.map_eq_some_iff] at hf
      obtain ⟨fld, hfld, e⟩ := hf
      simp only [Prod.mk.injEq] at e
      obtain ⟨e1, e2, e3⟩ := e
      refine ⟨fs, fld, hd, hfld, e1, ?_, ?_⟩
      · unfold fsz at e2
        split at e2
        · unfold Program.cellsOf at e2
          cases hx : P.info? fld.type with
          | none => rw [hx] at e2; simp at e2; rw [← e2] at hn; simp at hn
          | some x => rw [hx] at e2; simp at e2; intro w; simp [sizeOf, typeInfo, hx, e2]
        · rw [← e2] at hn; simp at hn
      · unfold fsz at e2
        split at e2
        · rename_i d' hd'
          intro w
          rw [← e3]
          unfold aggB isAgg
          simp only [Sem.run_bind, run_underlying hd', Result.andThen_ok, hd']
          cases d' <;> rfl
        · rw [← e2] at hn; simp at hn
    | _ => rw [← h] at hk; simp [kindOf] at hk
  · cases h

theorem takeN_ok : ∀ (n : Nat) (l : List SV) (vals : List Value) (r : List SV), Rvs g l vals → takeN n l = some r → Rvs g r (vals.take n) ∧ r.length = n
  | 0, l, vals, r, _, h => by simp only [takeN, Option.some.injEq] at h; subst h; simp [Rvs]
  | n + 1, [], vals, r, _, h => by simp [takeN] at h
  | n + 1, s :: l, vals, r, hr, h => by
    simp only [takeN] at h
    split at h
    · rename_i r' hr'
      simp only [Option.some.injEq] at h
      subst h
      simp only [Rvs] at hr
      obtain ⟨v, vs', e, h1, h2⟩ := hr
      subst e
      obtain ⟨k1, k2⟩ := takeN_ok n l vs' r' h2 hr'
      refine ⟨?_, by simp [k2]⟩
      simp only [Rvs, List.take_succ_cons]
      exact ⟨v, _, rfl, h1, k1⟩
    · cases h

theorem dropN_ok : ∀ (n : Nat) (l : List SV) (vals : List Value), Rvs g l vals → Rvs g (dropN n l) (vals.drop n)
  | 0, l, vals, h => by simpa [dropN] using h
  | n + 1, [], vals, h => by simp only [Rvs] at h; subst h; simp [dropN, Rvs]
  | n + 1, s :: l, vals, h => by
    simp only [Rvs] at h
    obtain ⟨v, vs', e, h1, h2⟩ := h
    subst e
    simpa [dropN] using dropN_ok n l vs' h2

theorem need_ok {b : Blk} {i : Nat} {p : Prop} (h : b.need i p) : b.has i ∧ p := by
  unfold Blk.need at h
  split at h
  · split at h
    · exact ⟨rfl, h⟩
    · exact h.elim
  · exact h

theorem loadN_ok {β : Base} {hb : HB} (hB : BlkAt g β hb w) {i : Nat} (hi : hb.b.has i) : ∀ (n j : Nat) (l : List SV), loadN hb.b i j n = some l →
    ∃ vals : List Value, vals.length = n ∧ Rvs g l vals ∧ ∀ k v, vals[k]? = some v → w.cell? ((β.addr i j).add k) = some v
  | 0, j, l, h => by simp only [loadN, Option.some.injEq] at h; subst h; exact ⟨[], rfl, by simp [Rvs], by simp⟩
  | n + 1, j, l, h => by
    simp only [loadN] at h
    split at h
    · rename_i s hs
      split at h
      · rename_i l' hl'
        simp only [Option.some.injEq] at h
        subst h
        obtain ⟨vals, h1, h2, h3⟩ := loadN_ok hB hi n (j + 1) l' hl'
        obtain ⟨v, hv, rv⟩ := hB.cell i j s hi hs
        refine ⟨v :: vals, by simp [h1], by simp only [Rvs]; exact ⟨v, vals, rfl, rv, h2⟩, ?_⟩
        intro k u hu
        cases k with
        | zero => simp at hu; subst hu; rw [addr_add]; simpa using hv
        | succ k =>
          have := h3 k u (by simpa using hu)
          rw [addr_add] at this ⊢
          rw [show j + (k + 1) = j + 1 + k from by omega]
          exact this
      · cases h
    · cases h

theorem setNth_ok {s : SV} {v : Value} (hv : Rv g s v) : ∀ (l : List SV) (vals : List Value) (j : Nat), Rvs g l vals → Rvs g (setNth l j s) (vals.set j v)
  | [], vals, j, h => by simp only [Rvs] at h; subst h; simp [setNth, Rvs]
  | x :: l, vals, 0, h => by
    simp only [Rvs] at h
    obtain ⟨u, us, e, h1, h2⟩ := h
    subst e
    simp only [setNth, Rvs, List.set_cons_zero]
    exact ⟨v, us, rfl, hv, h2⟩
  | x :: l, vals, j + 1, h => by
    simp only [Rvs] at h
    obtain ⟨u, us, e, h1, h2⟩ := h
    subst e
    simp only [setNth, Rvs, List.set_cons_succ]
    exact ⟨u, _, rfl, h1, setNth_ok hv l us j h2⟩

theorem setNth_length {α : Type} : ∀ (l : List α) (j : Nat) (v : α), (setNth l j v).length = l.length
  | [], _, _ => rfl
  | _ :: _, 0, _ => rfl
  | _ :: l, j + 1, v => by simp [setNth, setNth_length l j v]

theorem setMany_length {α : Type} : ∀ (m : List α) (l : List α) (j : Nat), (setMany l j m).length = l.length
  | [], _, _ => rfl
  | v :: m, l, j => by rw [setMany, setMany_length m, setNth_length]

def setVals : List Value → Nat → List Value → List Value
  | l, _, [] => l
  | l, j, v :: r => setVals (l.set j v) (j + 1) r

theorem setMany_ok : ∀ (m : List SV) (ms : List Value) (l : List SV) (vals : List Value) (j : Nat), Rvs g m ms → Rvs g l vals → Rvs g (setMany l j m) (setVals vals j ms)
  | [], ms, l, vals, j, hm, hl => by simp only [Rvs] at hm; subst hm; simpa [setMany, setVals] using hl
  | s :: m, ms, l, vals, j, hm, hl => by
    simp only [Rvs] at hm
    obtain ⟨u, us, e, h1, h2⟩ := hm
    subst e
    simp only [setMany, setVals]
    exact setMany_ok m us _ _ _ h2 (setNth_ok h1 l vals j hl)

theorem fold_setVals : ∀ (ms : List Value) (off k : Nat) (cs : Array Value), ((ms.zipIdx k).foldl (fun (cs : Array Value) (x : Value × Nat) => cs.setIfInBounds (off + x.2) x.1) cs).toList = setVals cs.toList (off + k) ms
  | [], off, k, cs => by simp [setVals]
  | v :: ms, off, k, cs => by
    simp only [List.zipIdx_cons, List.foldl_cons, setVals]
    rw [fold_setVals ms off (k + 1)]
    simp [Nat.add_assoc]

theorem SV.cells_ok {s : SV} {m : List SV} {v : Value} (h : s.cells = some m) (hv : Rv g s v) : Rvs g m v.cells.toList := by
  unfold SV.cells at h
  split at h
  · simp only [Option.some.injEq] at h; subst h
    obtain ⟨xs, e, r⟩ := rav hv
    subst e
    exact r
  · cases h
  · cases h
  · cases h
  · cases h
  · rename_i h1 h2 h3 h4 h5
    simp only [Option.some.injEq] at h; subst h
    have hc : v.cells = #[v] := by
      cases s <;> simp only [Rv] at hv
      case bool => subst hv; rfl
      case int => subst hv; rfl
      case str => subst hv; rfl
      case ptr => obtain ⟨_, e⟩ := hv; subst e; rfl
      case nptr => subst hv; rfl
      case sl => obtain ⟨_, _, e, _⟩ := hv; subst e; rfl
      case nsl => subst hv; rfl
      case agg l => exact absurd rfl (h1 l)
      case tup l => exact absurd rfl (h2 l)
      case raw x => subst hv; cases v <;> first | rfl | (rename_i c; exact absurd rfl (h4 c))
      case unk => exact absurd rfl h3
    rw [hc]
    simp only [Rvs]
    exact ⟨v, [], rfl, hv, rfl⟩

theorem fill_ok (he : EnvOk g vs a) {ti : TI} {place : Nat → Option (Nat × Nat)} (hpl : ∀ i o n, ti.place i = some (o, n) → place i = some (o, n)) :
    ∀ (ps : List (Nat × Operand)) (l l' : List SV) (cs : Array Value), Rvs g l cs.toList → buildL vs ti ps l = some l' →
      ∃ cs', Instr.fill place cs (ps.map fun p => (p.1, a.eval p.2)) = some cs' ∧ Rvs g l' cs'.toList
  | [], l, l', cs, hl, h => by simp only [buildL, Option.some.injEq] at h; subst h; exact ⟨cs, rfl, hl⟩
  | (i, x) :: ps, l, l', cs, hl, h => by
    simp only [buildL] at h
    split at h
    · rename_i o n s hp hx
      split at h
      · rename_i m hm
        cases hc : (Nat.beq m.length n && Nat.ble (o + n) l.length) with
        | false => rw [hc] at h; simp at h
        | true =>
          rw [hc] at h
          simp only [cond_true] at h
          simp only [Bool.and_eq_true] at hc
          have e1 := Nat.eq_of_beq_eq_true hc.1
          have e2 := Nat.le_of_ble_eq_true hc.2
          have rc := SV.cells_ok hm (gv_ok he hx)
          have lc := Rvs.length _ _ rc
          have ll := Rvs.length _ _ hl
          simp only [Array.length_toList] at lc ll
          have hl2 := setMany_ok m _ l cs.toList o rc hl
          have hfold := fold_setVals (a.eval x).cells.toList o 0 cs
          simp only [Nat.add_zero] at hfold
          rw [← hfold] at hl2
          obtain ⟨cs', h1, h2⟩ := fill_ok he hpl ps _ l' _ hl2 h
          refine ⟨cs', ?_, h2⟩
          simp only [List.map_cons, Instr.fill, hpl i o n hp]
          rw [if_neg (by simp; omega)]
          rw [← h1]
          congr 1
          rw [← Array.foldl_toList]
          simp
      · cases h
    · cases h

theorem mapM_sizes (P : Program) (w : World) : ∀ fs : List Field, (fs.all (fun f => (P.info? f.type).isSome && (P.underlying f.type).isSome)) = true →
    (fs.mapM (m := Sem) (fun f => do pure (f.offset, ← sizeOf f.type))).run P w = .ok (fs.map fun f => (f.offset, fsz P f.type)) w
  | [], _ => by simp
  | f :: fs, h => by
    simp only [List.all_cons, Bool.and_eq_true, Option.isSome_iff_exists] at h
    obtain ⟨⟨⟨i, hi⟩, ⟨d, hd⟩⟩, h2⟩ := h
    have ih := mapM_sizes P w fs h2
    have hs : (sizeOf f.type).run P w = .ok i.size w := by simp [sizeOf, typeInfo, hi]
    simp only [List.mapM_cons, Sem.run_bind, List.map_cons, hs, Result.andThen_ok, Sem.run_pure, ih]
    simp [fsz, hd, Program.cellsOf, hi]

theorem build_ok (hT : TabOk P T) (he : EnvOk g vs a) {t : TypeId} {ti : TI} (hti : aget T t = some ti) (hk : ti.bld = true) {parts : Array (Nat × Operand)} {l : List SV} (hl : buildL vs ti parts.toList ti.zero = some l)
    (h : K (.agg l)) : ∃ sv v, K sv ∧ Rv g sv v ∧ Yields1 P (.build t parts) a w v := by
  have hti' := hT _ _ hti
  unfold tiOf at hti'
  split at hti'
  · rename_i inf d hinf hdd
    simp only [Option.some.injEq] at hti'
    have hb : (inf.zero.isSome && bldB P d) = true := by rw [← hti'] at hk; exact hk
    simp only [Bool.and_eq_true, Option.isSome_iff_exists] at hb
    obtain ⟨⟨z, hz⟩, hb⟩ := hb
    have hzero : ti.zero = z.cells.toList.map cv := by rw [← hti']; simp [hz]
    have hz0 : Rvs g ti.zero z.cells.toList := by rw [hzero]; exact cvs_ok g _
    have hzrun : (zeroValue t).run P w = .ok z w := by simp [zeroValue, typeInfo, hinf, hz]
    cases d with
    | struct fs =>
      simp only [bldB] at hb
      have hms : (fs.mapM (m := Sem) (fun f => do pure (f.offset, ← sizeOf f.type))).run P w = .ok (fs.map fun f => (f.offset, fsz P f.type)) w := by
        rw [Array.mapM_eq_mapM_toList, Sem.run_map, mapM_sizes P w fs.toList hb]
        simp [← Array.toList_map]
      obtain ⟨cs', h1, h2⟩ := fill_ok (place := fun i => (fs.map fun f => (f.offset, fsz P f.type))[i]?) he (by
        intro i o n hp
        unfold TI.place at hp
        rw [← hti'] at hp
        simp only [kindOf] at hp
        simp only [nth_eq] at hp
        cases hf : fs.toList[i]? with
        | none => rw [List.getElem?_map, hf] at hp; simp at hp
        | some f =>
          rw [List.getElem?_map, hf] at hp
          simp at hp
          have : fs[i]? = some f := by simpa using hf
          simp [this, hp.1, hp.2]) parts.toList ti.zero l z.cells hz0 hl
      refine ⟨_, .agg cs', h, by simp only [Rv]; exact ⟨cs', rfl, h2⟩, fun o ho => ?_⟩
      have h1' : Instr.fill (fun i => (fs.map fun f => (f.offset, fsz P f.type))[i]?) z.cells ((parts.map fun p => (p.1, a.eval p.2)).toList) = some cs' := by
        rw [Array.toList_map]; exact h1
      simp only [execOp, ho, Instr.build, Sem.run_bind, hzrun, Result.andThen_ok, run_underlying hdd, hms, h1', Sem.run_pure]
    | array n e =>
      simp only [bldB, Option.isSome_iff_exists] at hb
      obtain ⟨ie, hie⟩ := hb
      have hel : ti.el = ie.size := by rw [← hti']; simp [Program.cellsOf, hie]
      have hsz : (sizeOf e).run P w = .ok ti.el w := by simp [sizeOf, typeInfo, hie, hel]
      obtain ⟨cs', h1, h2⟩ := fill_ok (place := fun i => some (i * ti.el, ti.el)) he (by
        intro i o n hp
        unfold TI.place at hp
        have : Nat.beq ti.kind 4 = false := by rw [← hti']; rfl
        rw [this] at hp
        simpa using hp) parts.toList ti.zero l z.cells hz0 hl
      refine ⟨_, .agg cs', h, by simp only [Rv]; exact ⟨cs', rfl, h2⟩, fun o ho => ?_⟩
      have h1' : Instr.fill (fun i => some (i * ti.el, ti.el)) z.cells ((parts.map fun p => (p.1, a.eval p.2)).toList) = some cs' := by
        rw [Array.toList_map]; exact h1
      simp only [execOp, ho, Instr.build, Sem.run_bind, hzrun, Result.andThen_ok, run_underlying hdd, hsz, h1', Sem.run_pure]
    | _ => simp [bldB] at hb
  · cases hti'

theorem builtin_ok (hT : TabOk P T) (he : EnvOk g vs a) {b : Builtin} {args : Array Operand} {ts : Array TypeId} (h : evR T vs (.call ⟨.builtin b, args, ts⟩) K) :
    ∃ sv v, K sv ∧ Rv g sv v ∧ Yields1 P (.call ⟨.builtin b, args, ts⟩) a w v := by
  simp only [evR] at h
  split at h
  · rename_i x hargs
    have ha : args = #[x] := Array.toList_inj.1 (by simpa using hargs)
    subst ha
    split at h
    · rename_i t hts
      have ht : ts = #[t] := Array.toList_inj.1 (by simpa using hts)
      subst ht
      split at h
      · rename_i s ti hx hti
        obtain ⟨hk, h⟩ := bif_elim h
        obtain ⟨_, d, _, hd, _, hkd⟩ := info_of (hT _ _ hti)
        have hk1 : ti.kind = 3 := Nat.eq_of_beq_eq_true hk
        have hd' : d = .string := by rw [hk1] at hkd; cases d <;> first | rfl | (exact absurd hkd (by simp [kindOf]))
        subst hd'
        refine ⟨_, _, h, rvi, fun o ho => ?_⟩
        simp [execOp, ho, resolve, invoke, builtin, Builtin.len_, rtv (gv_ok he hx), run_underlying hd, goInt]
      · rename_i _ _ n _ ti hx hti
        obtain ⟨hk, h⟩ := bif_elim h
        obtain ⟨_, d, _, hd, _, hkd⟩ := info_of (hT _ _ hti)
        have hk1 : ti.kind = 6 := Nat.eq_of_beq_eq_true hk
        obtain ⟨e, hd'⟩ : ∃ e, d = .slice e := by rw [hk1] at hkd; cases d <;> first | exact ⟨_, rfl⟩ | (exact absurd hkd (by simp [kindOf]))
        subst hd'
        refine ⟨_, _, h, rvi, fun o ho => ?_⟩
        obtain ⟨_, ad, hv, _⟩ := rsv (gv_ok he hx)
        simp [execOp, ho, resolve, invoke, builtin, Builtin.len_, hv, run_underlying hd, goInt]
      · rename_i ti hx hti
        obtain ⟨hk, h⟩ := bif_elim h
        obtain ⟨_, d, _, hd, _, hkd⟩ := info_of (hT _ _ hti)
        have hk1 : ti.kind = 6 := Nat.eq_of_beq_eq_true hk
        obtain ⟨e, hd'⟩ : ∃ e, d = .slice e := by rw [hk1] at hkd; cases d <;> first | exact ⟨_, rfl⟩ | (exact absurd hkd (by simp [kindOf]))
        subst hd'
        have hv : a.eval x = .slice none 0 0 := by have := gv_ok he hx; simpa only [Rv] using this
        refine ⟨_, _, h, rvi, fun o ho => ?_⟩
        simp [execOp, ho, resolve, invoke, builtin, Builtin.len_, hv, run_underlying hd, goInt]
      · exact h.elim
    · exact h.elim
  · rename_i x y hargs
    have ha : args = #[x, y] := Array.toList_inj.1 (by simpa using hargs)
    subst ha
    split at h
    · rename_i p m q n hx hy
      obtain ⟨hk, h⟩ := bif_elim h
      refine ⟨_, _, h, rvi, fun o ho => ?_⟩
      simp only [execOp, ho, resolve, invoke, builtin, Builtin.min_]
      simp [riv (gv_ok he hx), riv (gv_ok he hy), Builtin.min2]
      omega
    · exact h.elim
  · rename_i x y hargs
    have ha : args = #[x, y] := Array.toList_inj.1 (by simpa using hargs)
    subst ha
    split at h
    · rename_i p m q n hx hy
      obtain ⟨hk, h⟩ := bif_elim h
      refine ⟨_, _, h, rvi, fun o ho => ?_⟩
      simp only [execOp, ho, resolve, invoke, builtin, Builtin.max_]
      simp [riv (gv_ok he hx), riv (gv_ok he hy), Builtin.max2]
      omega
    · exact h.elim
  · exact h.elim

theorem evR_ok (hT : TabOk P T) (he : EnvOk g vs a) (hh : Holds g vs.heap w) {op : Op} (h : evR T vs op K) : ∃ sv v, K sv ∧ Rv g sv v ∧ Yields1 P op a w v := by
  cases op with
  | move x =>
    simp only [evR] at h
    split at h
    · rename_i sv hx
      exact ⟨sv, _, h, gv_ok he hx, fun o ho => by simp [execOp, ho]⟩
    · exact h.elim
  | assign x =>
    simp only [evR] at h
    split at h
    · rename_i sv hx
      exact ⟨sv, _, h, gv_ok he hx, fun o ho => by simp [execOp, ho]⟩
    · exact h.elim
  | pick c x y =>
    simp only [evR] at h
    split at h
    · rename_i hc
      split at h
      · rename_i sv hx
        exact ⟨sv, _, h, gv_ok he hx, fun o ho => by simp [execOp, ho, rbv (gv_ok he hc), asBool]⟩
      · exact h.elim
    · rename_i hc
      split at h
      · rename_i sv hx
        exact ⟨sv, _, h, gv_ok he hx, fun o ho => by simp [execOp, ho, rbv (gv_ok he hc), asBool]⟩
      · exact h.elim
    · exact h.elim
  | binOp op t x y t' =>
    simp only [evR] at h
    split at h
    · rename_i s u hx hy
      exact binK_ok hT (gv_ok he hx) (gv_ok he hy) h
    · exact h.elim
  | unOp op t x =>
    simp only [evR] at h
    split at h
    · rename_i b hx
      exact ⟨_, _, h, rvb, fun o ho => by simp [execOp, ho, rbv (gv_ok he hx), Op.unary]⟩
    · rename_i k n hx
      exact ⟨_, _, h, rvi, fun o ho => by simp [execOp, ho, riv (gv_ok he hx), Op.unary, Op.intArith]⟩
    · exact h.elim
  | fieldAddr s x f =>
    simp only [evR] at h
    split at h
    · rename_i hd i j ti hx hti
      obtain ⟨hk, h⟩ := bif_elim' h
      simp only [Bool.not_eq_false'] at hk
      split at h
      · rename_i off n ag hf
        obtain ⟨hn, h⟩ := bif_elim' h
        obtain ⟨fs, fld, h1, h2, h3, h4, h5⟩ := fields_of (hT _ _ hti) hk hf hn
        obtain ⟨hlt, hv⟩ := rpv (gv_ok he hx)
        have hn0 : ¬ n = 0 := by intro e; subst e; simp at hn
        refine ⟨_, _, h, by simp only [Rv]; exact ⟨hlt, rfl⟩, fun o ho => ?_⟩
        simp only [execOp, ho, Instr.fieldAt, Sem.run_bind, run_underlying h1, Result.andThen_ok, h2, hv, Instr.sureAddr, Sem.run_pure, fieldPlace, h4, if_neg hn0, h3, addr_add]
      · exact h.elim
    · exact h.elim
  | field s x f =>
    simp only [evR] at h
    split at h
    · rename_i l ti hx hti
      obtain ⟨hk, h⟩ := bif_elim' h
      simp only [Bool.not_eq_false'] at hk
      split at h
      · rename_i off n ag hf
        obtain ⟨hn, h⟩ := bif_elim' h
        obtain ⟨fs, fld, h1, h2, h3, h4, h5⟩ := fields_of (hT _ _ hti) hk hf hn
        obtain ⟨xs, ex, rx⟩ := rav (gv_ok he hx)
        cases ag with
        | true =>
          simp only [cond_true] at h
          split at h
          · rename_i r hr
            have hd := dropN_ok off l xs.toList rx
            obtain ⟨ht, _⟩ := takeN_ok n _ _ r hd hr
            refine ⟨_, _, h, by simp only [Rv]; exact ⟨(((xs.toList.drop off).take n).toArray), rfl, by simpa using ht⟩, fun o ho => ?_⟩
            simp only [execOp, ho, Instr.field, Sem.run_bind, run_underlying h1, Result.andThen_ok, h2, ex, asAgg, Sem.run_pure, part, h5, if_true, h4, h3]
            congr 3
            apply Array.ext'
            simp [List.take_drop]
          · exact h.elim
        | false =>
          simp only [cond_false] at h
          split at h
          · rename_i sv hs
            obtain ⟨v, hv, rv⟩ := Rvs.nth l xs.toList off sv rx hs
            refine ⟨_, v, h, rv, fun o ho => ?_⟩
            have hv' : xs[off]? = some v := by simpa using hv
            simp [execOp, ho, Instr.field, run_underlying h1, h2, ex, asAgg, part, h5, h3, hv']
          · exact h.elim
      · exact h.elim
    · exact h.elim
  | load t x =>
    simp only [evR] at h
    split at h
    · rename_i hd i j ti hx hti
      split at h
      · rename_i hb hhb
        obtain ⟨hi, h⟩ := need_ok h
        obtain ⟨hlt, hv⟩ := rpv (gv_ok he hx)
        obtain ⟨_, hB⟩ := hh.blk hd hb hhb
        have hag := run_isAgg' (hT _ _ hti)
        have hsz := run_sizeOf' (hT _ _ hti)
        cases hagg : ti.agg with
        | true =>
          rw [hagg] at h hag
          simp only [cond_true] at h
          split at h
          · rename_i l hl
            obtain ⟨vals, e1, e2, e3⟩ := loadN_ok hB hi ti.size j l hl
            refine ⟨_, _, h, by simp only [Rv]; exact ⟨vals.toArray, rfl, by simpa using e2⟩, fun o ho => ?_⟩
            have := run_loadCells_list (P := P) (w := w) ((g.f hd).addr i j) vals e3
            rw [e1] at this
            simp [execOp, ho, Instr.loadAt, hv, Instr.sureAddr, loadVar, hag, hsz, this]
          · exact h.elim
        | false =>
          rw [hagg] at h hag
          simp only [cond_false] at h
          split at h
          · rename_i sv hs
            obtain ⟨v, hc, rv⟩ := hB.cell i j sv hi hs
            refine ⟨_, v, h, rv, fun o ho => ?_⟩
            simp [execOp, ho, Instr.loadAt, hv, Instr.sureAddr, loadVar, hag, hc]
          · exact h.elim
      · exact h.elim
    · exact h.elim
  | extract x ix =>
    simp only [evR] at h
    split at h
    · rename_i l hx
      split at h
      · rename_i sv hs
        obtain ⟨xs, ex, rx⟩ := ruv (gv_ok he hx)
        obtain ⟨v, hv, rv⟩ := Rvs.nth l xs.toList ix sv rx hs
        have hv' : xs[ix]? = some v := by simpa using hv
        exact ⟨_, v, h, rv, fun o ho => by simp [execOp, ho, Instr.extract, ex, hv']⟩
      · exact h.elim
    · exact h.elim
  | index t x ix =>
    simp only [evR] at h
    split at h
    · rename_i s k i ti hx hi hti
      obtain ⟨hk, h⟩ := bif_elim h
      obtain ⟨inf, d, _, hd, _, hkd⟩ := info_of (hT _ _ hti)
      have hk1 : ti.kind = 3 := Nat.eq_of_beq_eq_true hk
      have hd' : d = .string := by rw [hk1] at hkd; cases d <;> first | rfl | (exact absurd hkd (by simp [kindOf]))
      subst hd'
      obtain ⟨⟨h0, h1⟩, h⟩ := h
      have hlt : i.toNat < s.size := by omega
      have hb : s[i.toNat]? = some s[i.toNat] := by simp [hlt]
      refine ⟨_, _, h, rvi, fun o ho => ?_⟩
      have e : byteAt s i = ((s[i.toNat]).toNat : Int) := by
        unfold byteAt
        have : s.data.toList.getD i.toNat 0 = s[i.toNat] := by
          have h' : i.toNat < s.data.toList.length := by simpa using hlt
          have e1 : s.data.toList.getD i.toNat 0 = s.data.toList[i.toNat] := by rw [List.getD, List.getElem?_eq_getElem h']; rfl
          rw [e1]
          rfl
        rw [this]
      simp [execOp, ho, Instr.index, rtv (gv_ok he hx), riv (gv_ok he hi), asIntOf, run_underlying hd, h0, hb, e]
    · exact h.elim
  | indexAddr t x ix =>
    simp only [evR] at h
    split at h
    · rename_i hd i n c k m ti hx hi hti
      obtain ⟨hk, h⟩ := bif_elim' h
      simp only [Bool.not_eq_false'] at hk
      obtain ⟨⟨h0, h1⟩, h⟩ := h
      split at h
      · rename_i hb hhb
        obtain ⟨hes, h⟩ := bif_elim h
        simp only [Bool.and_eq_true, Bool.not_eq_true'] at hes
        obtain ⟨hlt, ad, hv, had⟩ := rsv (gv_ok he hx)
        have had' : ad = some ((g.f hd).addr i 0) := by
          rcases had with ⟨h3, _⟩ | h3
          · omega
          · exact h3
        subst had'
        obtain ⟨_, hB⟩ := hh.blk hd hb hhb
        have hk1 : ti.kind = 6 := Nat.eq_of_beq_eq_true hk
        have hes1 : hb.b.es = ti.el := Nat.eq_of_beq_eq_true hes.1
        have hti' := hT _ _ hti
        unfold tiOf at hti'
        split at hti'
        · rename_i inf d hinf hdd
          simp only [Option.some.injEq] at hti'
          cases d with
          | slice e =>
            have hel : P.cellsOf e = ti.el := by rw [← hti']
            have hsz : ∀ w, (sizeOf e).run P w = .ok ti.el w := by
              intro w
              unfold Program.cellsOf at hel
              cases hx : P.info? e with
              | none => rw [hx] at hel; simp at hel; rw [← hel] at hes; simp at hes
              | some x => rw [hx] at hel; simp at hel; simp [sizeOf, typeInfo, hx, hel]
            refine ⟨_, _, h, by simp only [Rv]; exact ⟨hlt, rfl⟩, fun o ho => ?_⟩
            have e1 : ((g.f hd).addr i 0).add (m.toNat * ti.el) = (g.f hd).addr (m.toNat + i) 0 := by
              rw [addr_add]
              unfold Base.addr
              have := hB.es
              rw [hes1] at this
              rw [this]
              congr 1
              rw [Nat.add_mul]
              omega
            simp [execOp, ho, Instr.indexAt, hv, riv (gv_ok he hi), asIntOf, run_underlying hdd, h0, h1, hsz, e1]
          | _ => rw [← hti'] at hk1; simp [kindOf] at hk1
        · cases hti'
      · exact h.elim
    · exact h.elim
  | build t parts =>
    simp only [evR] at h
    split at h
    · rename_i ti hti
      obtain ⟨hk, h⟩ := bif_elim h
      split at h
      · rename_i l hl
        exact build_ok hT he hti hk hl h
      · exact h.elim
    · exact h.elim
  | call c =>
    obtain ⟨callee, args, ts⟩ := c
    cases callee with
    | value f => simp only [evR] at h
    | invoke r m => simp only [evR] at h
    | builtin b => exact builtin_ok hT he h
  | convert s d x =>
    simp only [evR] at h
    split at h
    · rename_i k n ti ti' hx hti hti'
      obtain ⟨hk, h⟩ := bif_elim h
      obtain ⟨_, d1, _, hd1, _, _⟩ := info_of (hT _ _ hti)
      have hk1 : ti'.kind = 2 := Nat.eq_of_beq_eq_true hk
      have ht2 := hT _ _ hti'
      unfold tiOf at ht2
      split at ht2
      · rename_i inf d2 hinf hdd
        simp only [Option.some.injEq] at ht2
        cases d2 with
        | int k2 =>
          have hik : ti'.ik = k2 := by rw [← ht2]
          refine ⟨_, _, h, rvi, fun o ho => ?_⟩
          simp [execOp, ho, Go.convert, run_underlying hd1, run_underlying hdd, riv (gv_ok he hx), Conv.intToInt, hik]
        | _ => rw [← ht2] at hk1; simp [kindOf] at hk1
      · cases ht2
    · exact h.elim
  | _ => simp only [evR] at h
end ops
end Go.Sx
