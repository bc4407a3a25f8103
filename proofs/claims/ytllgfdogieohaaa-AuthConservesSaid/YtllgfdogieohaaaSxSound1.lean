/- The generator is right: operations that only look. No program in sight. -/
import Derived.Test.YtllgfdogieohaaaSxVc
import Derived.ChangeKeysEq
namespace Go.Sx
open Go.RowKit

mutual
theorem Rv.mono {g g' : G} (h : G.le g g') : ∀ (sv : SV) (v : Value), Rv g sv v → Rv g' sv v
  | .bool _, _, r => by simp only [Rv] at r ⊢; exact r
  | .int _ _, _, r => by simp only [Rv] at r ⊢; exact r
  | .str _, _, r => by simp only [Rv] at r ⊢; exact r
  | .ptr a i j, v, r => by simp only [Rv] at r ⊢; rw [h.2 a r.1]; exact ⟨Nat.lt_of_lt_of_le r.1 h.1, r.2⟩
  | .nptr, _, r => by simp only [Rv] at r ⊢; exact r
  | .sl a i n c, v, r => by simp only [Rv] at r ⊢; rw [h.2 a r.1]; exact ⟨Nat.lt_of_lt_of_le r.1 h.1, r.2⟩
  | .nsl, _, r => by simp only [Rv] at r ⊢; exact r
  | .agg l, v, r => by simp only [Rv] at r ⊢; obtain ⟨vs, e, k⟩ := r; exact ⟨vs, e, Rvs.mono h l _ k⟩
  | .tup l, v, r => by simp only [Rv] at r ⊢; obtain ⟨vs, e, k⟩ := r; exact ⟨vs, e, Rvs.mono h l _ k⟩
  | .raw _, _, r => by simp only [Rv] at r ⊢; exact r
  | .unk, _, _ => by simp only [Rv]
theorem Rvs.mono {g g' : G} (h : G.le g g') : ∀ (l : List SV) (vs : List Value), Rvs g l vs → Rvs g' l vs
  | [], _, r => by simp only [Rvs] at r ⊢; exact r
  | s :: ss, vs, r => by
    simp only [Rvs] at r ⊢
    obtain ⟨v, vs', e, h1, h2⟩ := r
    exact ⟨v, vs', e, Rv.mono h s v h1, Rvs.mono h ss vs' h2⟩
end

theorem rvi {g : G} {k : IntKind} {n : Int} : Rv g (.int k n) (.int k n) := by simp only [Rv]
theorem rvb {g : G} {b : Bool} : Rv g (.bool b) (.bool b) := by simp only [Rv]
theorem rvt {g : G} {b : ByteArray} : Rv g (.str b) (.string b) := by simp only [Rv]
theorem G.le.refl (g : G) : G.le g g := ⟨Nat.le_refl _, fun _ _ => rfl⟩
theorem G.le.trans {a b c : G} (h : G.le a b) (k : G.le b c) : G.le a c := ⟨Nat.le_trans h.1 k.1, fun x hx => (k.2 x (Nat.lt_of_lt_of_le hx h.1)).trans (h.2 x hx)⟩

theorem Rvs.length {g : G} : ∀ (l : List SV) (vs : List Value), Rvs g l vs → vs.length = l.length
  | [], vs, r => by simp only [Rvs] at r; simp [r]
  | s :: ss, vs, r => by
    simp only [Rvs] at r
    obtain ⟨v, vs', e, _, h2⟩ := r
    simp [e, Rvs.length ss vs' h2]

theorem nth_eq {α : Type} (l : List α) (i : Nat) : nth l i = l[i]? := by
  induction l generalizing i with
  | nil => simp [nth]
  | cons x l ih => cases i with
    | zero => simp [nth]
    | succ i => simp [nth, ih]

theorem Rvs.nth {g : G} : ∀ (l : List SV) (vs : List Value) (i : Nat) (sv : SV), Rvs g l vs → nth l i = some sv → ∃ v, vs[i]? = some v ∧ Rv g sv v
  | [], vs, i, sv, _, h => by simp [Sx.nth] at h
  | s :: ss, vs, i, sv, r, h => by
    simp only [Rvs] at r
    obtain ⟨v, vs', e, h1, h2⟩ := r
    subst e
    cases i with
    | zero => simp [Sx.nth] at h; subst h; exact ⟨v, by simp, h1⟩
    | succ i => simp only [Sx.nth] at h; obtain ⟨u, hu, hr⟩ := Rvs.nth ss vs' i sv h2 h; exact ⟨u, by simpa using hu, hr⟩

theorem cv_ok (g : G) (v : Value) : Rv g (cv v) v := by
  unfold cv
  split <;> simp [Rv]

theorem cvs_ok (g : G) : ∀ l : List Value, Rvs g (l.map cv) l
  | [] => by simp [Rvs]
  | v :: l => by simp only [List.map_cons, Rvs]; exact ⟨v, l, rfl, cv_ok g v, cvs_ok g l⟩

/-- The slots that the state names hold what it says. -/
def EnvOk (g : G) (vs : VS) (a : Act) : Prop := ∀ t sv, aget vs.env t = some sv → Rv g sv (a.tmps.getD t undef)

theorem gv_ok {g : G} {vs : VS} {a : Act} (h : EnvOk g vs a) {x : Operand} {sv : SV} (hx : gv vs x = some sv) : Rv g sv (a.eval x) := by
  cases x with
  | tmp t => exact h t sv hx
  | const v => simp only [gv, Option.some.injEq] at hx; subst hx; exact cv_ok g v
  | global n => simp [gv] at hx
  | func f => simp only [gv, Option.some.injEq] at hx; subst hx; simp [Rv, Act.eval]

theorem ikEq_ok {a b : IntKind} (h : ikEq a b = true) : a = b := by
  revert h
  cases a <;> cases b <;> simp [ikEq]

theorem bif_elim {b : Bool} {p : Prop} (h : (bif b then p else False)) : b = true ∧ p := by cases b <;> simp_all
theorem bif_elim' {b : Bool} {p : Prop} (h : (bif b then False else p)) : b = false ∧ p := by cases b <;> simp_all

theorem beq_toList_eq (a b : ByteArray) : (a.toList == b.toList) = decide (a = b) := by
  rw [← beq_toListBytes]
  by_cases h : a = b
  · subst h
    rw [beq_toListBytes]; simp
  · have : (a == b) = false := by
      rw [beq_toListBytes, ByteArray.toList_eq, ByteArray.toList_eq]
      obtain ⟨⟨x⟩⟩ := a
      obtain ⟨⟨y⟩⟩ := b
      simp_all
    simp [this, h]

/-- What 'execOp' comes to, where nothing in the world turns. -/
def Yields1 (P : Program) (op : Op) (a : Act) (w : World) (v : Value) : Prop := ∀ o : Oper, o.op = op → (execOp a.eval o).run P w = .ok (.value v) w

section ops
variable {P : Program} {T : Tab} {g : G} {vs : VS} {a : Act} {w : World} {K : SV → Prop}

theorem info_of {t : TypeId} {ti : TI} (h : tiOf P t = some ti) : ∃ i d, P.info? t = some i ∧ P.underlying t = some d ∧ i.size = ti.size ∧ kindOf d = ti.kind := by
  unfold tiOf at h
  split at h
  · rename_i i d hi hd
    simp only [Option.some.injEq] at h
    subst h
    exact ⟨i, d, hi, hd, rfl, rfl⟩
  · cases h

theorem run_sizeOf' {t : TypeId} {ti : TI} (h : tiOf P t = some ti) (w : World) : (sizeOf t).run P w = .ok ti.size w := by
  obtain ⟨i, d, hi, _, hs, _⟩ := info_of h
  simp [sizeOf, typeInfo, hi, hs]

theorem run_isAgg' {t : TypeId} {ti : TI} (h : tiOf P t = some ti) (w : World) : (isAgg t).run P w = .ok ti.agg w := by
  obtain ⟨i, d, _, hd, _, hk⟩ := info_of h
  unfold TI.agg
  rw [← hk]
  cases d <;> simp [isAgg, run_underlying hd, kindOf] <;> decide

theorem binInt_ok {op : BinOp} {k : IntKind} {x y : Int} (t : TypeId) (h : binInt op k x y K) :
    ∃ sv v, K sv ∧ Rv g sv v ∧ ∀ w, (binOp op t (.int k x) (.int k y)).run P w = .ok v w := by
  cases op <;> simp only [binInt] at h
  case add => exact ⟨_, _, h, rvi, fun w => by simp [binOp, Op.intArith]⟩
  case sub => exact ⟨_, _, h, rvi, fun w => by simp [binOp, Op.intArith]⟩
  case mul => exact ⟨_, _, h, rvi, fun w => by simp [binOp, Op.intArith]⟩
  case quo => exact ⟨_, _, h.2, rvi, fun w => by simp [binOp, Op.intDiv, h.1]⟩
  case rem => exact ⟨_, _, h.2, rvi, fun w => by simp [binOp, Op.intDiv, h.1]⟩
  case eql => exact ⟨_, _, h, rvb, fun w => by simp [binOp, Op.intCmp]; rfl⟩
  case neq => exact ⟨_, _, h, rvb, fun w => by simp [binOp, Op.intCmp, bne]; rfl⟩
  case lss => exact ⟨_, _, h, rvb, fun w => by simp [binOp, Op.intCmp]⟩
  case leq => exact ⟨_, _, h, rvb, fun w => by simp [binOp, Op.intCmp]⟩
  case gtr => exact ⟨_, _, h, rvb, fun w => by simp [binOp, Op.intCmp]⟩
  case geq => exact ⟨_, _, h, rvb, fun w => by simp [binOp, Op.intCmp]⟩

theorem binStr_ok {op : BinOp} {x y : ByteArray} (t : TypeId) (h : binStr op x y K) :
    ∃ sv v, K sv ∧ Rv g sv v ∧ ∀ w, (binOp op t (.string x) (.string y)).run P w = .ok v w := by
  cases op <;> simp only [binStr] at h
  case add => exact ⟨_, _, h.2, rvt, fun w => by
    have := h.1
    have h2 : ¬ (((x.size + y.size : Nat) : Int) > IntKind.i64.max) := by
      have : IntKind.i64.max = 9223372036854775807 := by decide
      rw [this]; omega
    simp only [binOp, Op.stringOp, if_neg h2]; rfl⟩
  case eql => exact ⟨_, _, h, rvb, fun w => by simp [binOp, Op.stringOp, beq_toList_eq, seq]⟩
  case neq => exact ⟨_, _, h, rvb, fun w => by simp [binOp, Op.stringOp, beq_toList_eq, seq]⟩
  case lss => exact ⟨_, _, h, rvb, fun w => by simp [binOp, Op.stringOp, strLt]⟩
  case leq => exact ⟨_, _, h, rvb, fun w => by simp [binOp, Op.stringOp, strLt, beq_toList_eq, seq]⟩
  case gtr => exact ⟨_, _, h, rvb, fun w => by simp [binOp, Op.stringOp, strLt, beq_toList_eq, seq]⟩
  case geq => exact ⟨_, _, h, rvb, fun w => by simp [binOp, Op.stringOp, strLt]⟩

theorem eqGuard_int (op : BinOp) (t : TypeId) (x y : Operand) (k k' : IntKind) (m n : Int) (w : World) : (eqGuard op t x y (.int k m) (.int k' n)).run P w = .ok () w := by
  cases op <;> simp [eqGuard]
theorem eqGuard_str (op : BinOp) (t : TypeId) (x y : Operand) (m n : ByteArray) (w : World) : (eqGuard op t x y (.string m) (.string n)).run P w = .ok () w := by
  cases op <;> simp [eqGuard]
theorem eqGuard_bool (op : BinOp) (t : TypeId) (x y : Operand) (m n : Bool) (w : World) : (eqGuard op t x y (.bool m) (.bool n)).run P w = .ok () w := by
  cases op <;> simp [eqGuard]
end ops
end Go.Sx
