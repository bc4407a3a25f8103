/- The verification condition of code: calls, loops, stores. No program in sight. -/
import Derived.Test.YtllgfdogieohaaaSxDef
namespace Go.Sx
open Go.RowKit

/-- The contract of a function: over every world that holds the heap, it returns; what it returns and the heap behind it are as post says; nothing else has turned. -/
def bodied (P : Program) (f : FuncId) : Prop := ∃ fn c, P.funcs[f]? = some fn ∧ fn.body = some c ∧ (fn.name == "runtime.NumGoroutine") = false

def FC (P : Program) (n : Nat) (f : FuncId) (args : List SV) (H : Heap) (post : SV → Heap → Nat → Prop) : Prop :=
  bodied P f ∧ ∀ (g : G) (w : World) (vals : List Value), g.n = n → Holds g H w → Rvs g args vals →
    Calls P f vals.toArray w (fun e w' => ∃ v, e = .returned v ∧ ∃ sv H' g', G.le g g' ∧ Rv g' sv v ∧ post sv H' g'.n ∧ Holds g' H' w' ∧ Fr (Wset g H) w w' ∧ Owns g' H' (Wset g H) w)

def vcall (P : Program) (f : FuncId) (args : List SV) (vs : VS) (K : SV → Heap → Nat → Prop) : Prop :=
  ∃ post, FC P vs.next f args vs.heap post ∧ ∀ sv H n, post sv H n → K sv H n

/-- A pure contract: plain arguments, a plain result, no memory of anybody's. -/
def Pure (P : Program) (f : FuncId) (args : List SV) (r : SV) : Prop := FC P 0 f args [] (fun sv _ _ => sv = r)

mutual
def SV.plain : SV → Bool
  | .bool _ => true
  | .int _ _ => true
  | .str _ => true
  | .nptr => true
  | .nsl => true
  | .raw _ => true
  | .agg l => SV.plains l
  | .tup l => SV.plains l
  | _ => false
def SV.plains : List SV → Bool
  | [] => true
  | s :: r => SV.plain s && SV.plains r
end

/-- A slot is written; then K. (The states are kept written out.) -/
def putK (vs : VS) (d : Option Nat) (v : SV) (K : VS → Prop) : Prop :=
  match vs, d with
  | ⟨e, h, n⟩, some d => K ⟨(d, v) :: e, h, n⟩
  | ⟨e, h, n⟩, none => K ⟨e, h, n⟩

def gvs (vs : VS) : List Operand → Option (List SV)
  | [] => some []
  | x :: r => match gv vs x with
    | some v => (match gvs vs r with | some l => some (v :: l) | none => none)
    | none => none

/-- A new block; its pointer goes into a slot. -/
def newK (vs : VS) (d : Option Nat) (b : Blk) (K : VS → Prop) : Prop :=
  match vs, d with
  | ⟨e, h, n⟩, some d => K ⟨(d, .ptr n 0 0) :: e, (n, ⟨false, b⟩) :: h, n + 1⟩
  | ⟨e, h, n⟩, none => K ⟨e, (n, ⟨false, b⟩) :: h, n + 1⟩

/-- A block is replaced. -/
def setK (vs : VS) (h : Nat) (b : Blk) (K : VS → Prop) : Prop :=
  match vs with
  | ⟨e, hp, n⟩ => K ⟨e, (h, ⟨false, b⟩) :: hp, n⟩

def SV.one : SV → Bool
  | .int _ _ => true
  | .bool _ => true
  | .str _ => true
  | .ptr _ _ _ => true
  | .nptr => true
  | .sl _ _ _ _ => true
  | .nsl => true
  | _ => false

def allOne : List SV → Bool
  | [] => true
  | s :: r => s.one && allOne r

def storeK (vs : VS) (h j : Nat) (v : SV) (ti : TI) (l : List SV) (K : VS → Prop) : Prop :=
  match v with
  | .agg m => bif allOne m && Nat.beq m.length ti.size && Nat.ble (j + m.length) l.length then setK vs h (.cells (setMany l j m)) K else False
  | .int k n => bif Nat.beq ti.size 1 && Nat.ble (j + 1) l.length then setK vs h (.cells (setNth l j (.int k n))) K else False
  | .bool b => bif Nat.beq ti.size 1 && Nat.ble (j + 1) l.length then setK vs h (.cells (setNth l j (.bool b))) K else False
  | .str t => bif Nat.beq ti.size 1 && Nat.ble (j + 1) l.length then setK vs h (.cells (setNth l j (.str t))) K else False
  | .ptr a b c => bif Nat.beq ti.size 1 && Nat.ble (j + 1) l.length then setK vs h (.cells (setNth l j (.ptr a b c))) K else False
  | .nptr => bif Nat.beq ti.size 1 && Nat.ble (j + 1) l.length then setK vs h (.cells (setNth l j .nptr)) K else False
  | .sl a b c d => bif Nat.beq ti.size 1 && Nat.ble (j + 1) l.length then setK vs h (.cells (setNth l j (.sl a b c d))) K else False
  | .nsl => bif Nat.beq ti.size 1 && Nat.ble (j + 1) l.length then setK vs h (.cells (setNth l j .nsl)) K else False
  | _ => False

def callK (P : Program) (f : FuncId) (l : List SV) (vs : VS) (d : Option Nat) (K : VS → Prop) : Prop :=
  match vs with
  | ⟨e, h, n⟩ => vcall P f l ⟨e, h, n⟩ (fun sv H m => putK ⟨e, H, m⟩ d sv K)

/-- An operation that is carried out. -/
def vex (P : Program) (T : Tab) (o : Oper) (vs : VS) (K : VS → Prop) : Prop :=
  match o.op with
  | .alloc t => match aget T t with
    | some ti => bif ti.zero.isEmpty then False else newK vs o.dst (.cells ti.zero) K
    | none => False
  | .box _ x => match gv vs x with
    | some (.agg l) => newK vs o.dst (.cells l) K
    | some (.int k n) => newK vs o.dst (.cells [.int k n]) K
    | some (.bool b) => newK vs o.dst (.cells [.bool b]) K
    | some (.str s) => newK vs o.dst (.cells [.str s]) K
    | some (.sl h i n c) => newK vs o.dst (.cells [.sl h i n c]) K
    | some .nsl => newK vs o.dst (.cells [.nsl]) K
    | some (.ptr h i j) => newK vs o.dst (.cells [.ptr h i j]) K
    | some .nptr => newK vs o.dst (.cells [.nptr]) K
    | _ => False
  | .store t x y => match gv vs x, gv vs y, aget T t with
    | some (.ptr h 0 j), some v, some ti => (match aget vs.heap h with
      | some ⟨false, .cells l⟩ => storeK vs h j v ti l (fun vs' => putK vs' o.dst (.raw undef) K)
      | _ => False)
    | _, _, _ => False
  | .call { callee := .value f, args := args, argTypes := _ } => match gv vs f, gvs vs args.toList with
    | some (.raw (.func (.func n) ⟨[]⟩ ⟨[]⟩)), some l => callK P n l vs o.dst K
    | _, _ => False
  | op => evR T vs op (fun v => putK vs o.dst v K)

def learnK (vs : VS) (d : Nat) (b : Bool) (K : VS → Prop) : Prop :=
  match vs with
  | ⟨e, h, n⟩ => K ⟨(d, .bool b) :: e, h, n⟩

/-- An operation of a region: its guard first. -/
def vop (P : Program) (T : Tab) (ops : List Oper) (o : Oper) (vs : VS) (K : VS → Prop) : Prop :=
  match o.guard with
  | none => vex P T o vs K
  | some (j, want) => match nth ops j with
    | some oj => (match oj.dst with
      | some d => (match aget vs.env d with
        | some (.bool true) => bif want then vex P T o vs K else putK vs o.dst (.raw undef) K
        | some (.bool false) => bif want then putK vs o.dst (.raw undef) K else vex P T o vs K
        | some (.raw (.tuple _)) => putK vs o.dst (.raw undef) K
        | _ => False)
      | none => False)
    | none => False

/-- A slot whose Bool is not known yet is parted on. -/
def known (vs : VS) (d : Nat) (K : VS → Prop) : Prop :=
  match vs with
  | ⟨e, h, n⟩ => match aget e d with
    | some (.bool b) => br b (K ⟨(d, .bool true) :: e, h, n⟩) (K ⟨(d, .bool false) :: e, h, n⟩)
    | some (.raw (.tuple _)) => K ⟨e, h, n⟩
    | _ => False

def guardSlot (ops : List Oper) (o : Oper) : Option Nat :=
  match o.guard with
  | none => none
  | some (j, _) => match nth ops j with
    | some oj => oj.dst
    | none => none

def vops (P : Program) (T : Tab) (ops : List Oper) : List Oper → VS → (VS → Prop) → Prop
  | [], vs, K => K vs
  | o :: r, vs, K => match guardSlot ops o with
    | none => vop P T ops o vs (fun vs' => vops P T ops r vs' K)
    | some d => known vs d (fun v1 => vop P T ops o v1 (fun vs' => vops P T ops r vs' K))

/-- In a region whose order is open: calls by pure contracts alone. -/
def callQ (P : Program) (f : FuncId) (l : List SV) (vs : VS) (d : Option Nat) (K : VS → Prop) : Prop :=
  ∃ r, Pure P f l r ∧ (SV.plains l && SV.plain r) = true ∧ putK vs d r K

def vexD (P : Program) (T : Tab) (o : Oper) (vs : VS) (K : VS → Prop) : Prop :=
  match o.op with
  | .alloc t => match aget T t with
    | some ti => bif ti.zero.isEmpty then False else newK vs o.dst (.cells ti.zero) K
    | none => False
  | .store t x y => match gv vs x, gv vs y, aget T t with
    | some (.ptr h 0 j), some v, some ti => (match aget vs.heap h with
      | some ⟨false, .cells l⟩ => storeK vs h j v ti l (fun vs' => putK vs' o.dst (.raw undef) K)
      | _ => False)
    | _, _, _ => False
  | .call { callee := .value f, args := args, argTypes := _ } => match gv vs f, gvs vs args.toList with
    | some (.raw (.func (.func n) ⟨[]⟩ ⟨[]⟩)), some l => callQ P n l vs o.dst K
    | _, _ => False
  | op => evR T vs op (fun v => putK vs o.dst v K)

def vopD (P : Program) (T : Tab) (ops : List Oper) (o : Oper) (vs : VS) (K : VS → Prop) : Prop :=
  match o.guard with
  | none => vexD P T o vs K
  | some (j, want) => match nth ops j with
    | some oj => (match oj.dst with
      | some d => (match aget vs.env d with
        | some (.bool true) => bif want then vexD P T o vs K else putK vs o.dst (.raw undef) K
        | some (.bool false) => bif want then putK vs o.dst (.raw undef) K else vexD P T o vs K
        | some (.raw (.tuple _)) => putK vs o.dst (.raw undef) K
        | _ => False)
      | none => False)
    | none => False

def vopsD (P : Program) (T : Tab) (ops : List Oper) : List Oper → VS → (VS → Prop) → Prop
  | [], vs, K => K vs
  | o :: r, vs, K => match guardSlot ops o with
    | none => vopD P T ops o vs (fun vs' => vopsD P T ops r vs' K)
    | some d => known vs d (fun v1 => vopD P T ops o v1 (fun vs' => vopsD P T ops r vs' K))

mutual
def SV.wf (n : Nat) : SV → Bool
  | .ptr h _ _ => Nat.ble (h + 1) n
  | .sl h _ _ _ => Nat.ble (h + 1) n
  | .agg l => SV.wfs n l
  | .tup l => SV.wfs n l
  | _ => true
def SV.wfs (n : Nat) : List SV → Bool
  | [] => true
  | s :: r => SV.wf n s && SV.wfs n r
end

def Blk.wf (n : Nat) : Blk → Bool
  | .cells l => SV.wfs n l
  | .cols _ _ => true

def envWf (n : Nat) : Env → Bool
  | [] => true
  | (_, s) :: r => SV.wf n s && envWf n r

def heapWf (n : Nat) : Heap → Bool
  | [] => true
  | (h, b) :: r => Nat.ble (h + 1) n && Blk.wf n b.b && heapWf n r

def weakEnv : Env → Env → Prop
  | [], _ => True
  | (t, sv) :: r, e => aget e t = some sv ∧ weakEnv r e

def weakHeap : Heap → Heap → Prop
  | [], _ => True
  | (h, hb) :: r, e => aget e h = some hb ∧ weakHeap r e

/-- v0 says no more than vs. -/
structure Weak (n0 : Nat) (vs v0 : VS) : Prop where
  lo : n0 ≤ v0.next
  env : weakEnv v0.env vs.env
  heap : weakHeap v0.heap vs.heap
  next : v0.next ≤ vs.next
  wf : (envWf v0.next v0.env && heapWf v0.next v0.heap) = true

/-- A loop: the states at the heads of its rounds, what holds of them, a number that goes down. -/
def vloop (n0 : Nat) (body : VS → (Exit → VS → Prop) → Prop) (vs : VS) (K : Exit → VS → Prop) : Prop :=
  ∃ (α : Type) (st : α → VS) (inv : α → Prop) (μ : α → Nat) (x0 : α), Weak n0 vs (st x0) ∧ inv x0 ∧ ∀ x, inv x → body (st x) (fun e v' => match e with
    | .normal => ∃ y, inv y ∧ μ y < μ x ∧ Weak n0 v' (st y)
    | e => K e v')

def vcode (P : Program) (T : Tab) (n0 : Nat) : Code → VS → (Exit → VS → Prop) → Prop
  | .skip, vs, K => K .normal vs
  | .region _ ops draw, vs, K => bif draw then vopsD P T ops.toList ops.toList vs (K .normal) else vops P T ops.toList ops.toList vs (K .normal)
  | .seq a b, vs, K => vcode P T n0 a vs (fun e vs' => match e with | .normal => vcode P T n0 b vs' K | e => K e vs')
  | .cond c x y, vs, K => (match c, gv vs c with
    | .tmp t, some (.bool b) => br b (learnK vs t true (fun v => vcode P T n0 x v K)) (learnK vs t false (fun v => vcode P T n0 y v K))
    | _, _ => False)
  | .block id c, vs, K => vcode P T n0 c vs (fun e vs' => match e with | .exit i => (bif Nat.beq i id then K .normal vs' else K (.exit i) vs') | e => K e vs')
  | .loop c, vs, K => vloop n0 (vcode P T n0 c) vs K
  | .exit id, vs, K => K (.exit id) vs
  | .ret, vs, K => K .ret vs
  | _, _, _ => False

def resK (T : Tab) (vs : VS) : List ResultVar → (List SV → Prop) → Prop
  | [], K => K []
  | .tmp t :: r, K => (match aget vs.env t with | some v => resK T vs r (fun l => K (v :: l)) | none => False)
  | .cell a t :: r, K => (match aget vs.env a, aget T t with
    | some (.ptr h i j), some ti => (match aget vs.heap h with
      | some hb => hb.b.need i (bif ti.agg then (match loadN hb.b i j ti.size with | some l => resK T vs r (fun m => K (.agg l :: m)) | none => False) else (match hb.b.at i j with | some v => resK T vs r (fun m => K (v :: m)) | none => False))
      | none => False)
    | _, _ => False)

def oneOr : List SV → SV
  | [x] => x
  | l => .tup l

def retK (T : Tab) (rs : List ResultVar) (post : SV → Heap → Nat → Prop) : Exit → VS → Prop
  | .normal, vs => resK T vs rs (fun l => post (oneOr l) vs.heap vs.next)
  | .ret, vs => resK T vs rs (fun l => post (oneOr l) vs.heap vs.next)
  | _, _ => False

def envOf : Nat → List SV → Env
  | _, [] => []
  | i, v :: r => (i, v) :: envOf (i + 1) r

/-- Every operation writes into the frame. -/
def dstsOk (N : Nat) : List Oper → Bool
  | [] => true
  | o :: r => (match o.dst with | some d => Nat.ble (d + 1) N | none => true) && dstsOk N r

def edgeTo (o : Oper) (j : Nat) : Bool := o.after.toList.any (fun e => Region.binds .any e && Nat.beq e.on j)

def opSlots : List Operand → List Nat
  | [] => []
  | .tmp t :: r => t :: opSlots r
  | _ :: r => opSlots r

def looks (ops : List Oper) (o : Oper) : List Nat :=
  match guardSlot ops o with
  | some d => d :: opSlots o.op.operands.toList
  | none => opSlots o.op.operands.toList

def hasSlot : List Nat → Nat → Bool
  | [], _ => false
  | x :: r, t => Nat.beq x t || hasSlot r t

def isStore : Op → Bool
  | .store _ _ _ => true
  | _ => false

def isNew : Op → Bool
  | .alloc _ => true
  | _ => false

def isMem : Op → Bool
  | .store _ _ _ => true
  | .load _ _ => true
  | .indexAddr _ _ _ => true
  | _ => false

/-- The slot is looked at as the address of a store alone. -/
def onlyAddr (ops : List Oper) (o : Oper) (t : Nat) : Bool :=
  match o.op with
  | .store _ (.tmp x) y => Nat.beq x t && !hasSlot (opSlots [y]) t && (match guardSlot ops o with | some d => !Nat.beq d t | none => true)
  | _ => false

def ordered (i j : Nat) (oi oj : Oper) : Bool := (Nat.blt i j && edgeTo oj i) || (Nat.blt j i && edgeTo oi j)

def pairOk (ops : List Oper) (i j : Nat) (oi oj : Oper) : Bool :=
  Nat.beq i j || ((match oj.dst with
    | some t => (match oi.dst with | some u => !Nat.beq u t | none => true) && (!hasSlot (looks ops oi) t || (ordered i j oi oj && (!isNew oj.op || onlyAddr ops oi t)))
    | none => true) && (!(isStore oj.op && isMem oi.op) || ordered i j oi oj))

def rowOk (ops : List Oper) (i : Nat) (oi : Oper) : Nat → List Oper → Bool
  | _, [] => true
  | j, oj :: r => pairOk ops i j oi oj && rowOk ops i oi (j + 1) r

def edgesBack (i : Nat) (o : Oper) : Bool := o.after.toList.all (fun e => !Region.binds .any e || Nat.blt e.on i)

def selfOk (ops : List Oper) (i : Nat) (o : Oper) : Bool :=
  (match o.dst with | some t => !hasSlot (looks ops o) t | none => true) && edgesBack i o && (match guardSlot ops o, o.guard with | none, some _ => false | _, _ => true)

def rowsOk (ops : List Oper) : Nat → List Oper → Bool
  | _, [] => true
  | i, o :: r => selfOk ops i o && rowOk ops i o 0 ops && rowsOk ops (i + 1) r

/-- A region whose order is open, and whose operations give one result in every order. -/
def drawOk (ops : List Oper) : Bool := rowsOk ops 0 ops

def codeOk (N : Nat) : Code → Bool
  | .region _ ops draw => dstsOk N ops.toList && (!draw || drawOk ops.toList)
  | .seq a b => codeOk N a && codeOk N b
  | .cond _ a b => codeOk N a && codeOk N b
  | .block _ c => codeOk N c
  | .loop c => codeOk N c
  | _ => true
end Go.Sx
