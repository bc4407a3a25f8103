/- A verification-condition generator over the model's code: symbolic values, symbolic heaps, and the function that computes the condition. No program in sight. -/
import Derived.WalkKit
import Derived.Below
namespace Go.Sx
open Go.RowKit

/-- Where a handle lies: a block, the first cell, the cells of one element. -/
structure Base where
  blk : Nat
  off : Nat
  es : Nat

/-- The handles 0 .. n-1 and where they lie. -/
structure G where
  n : Nat
  f : Nat → Base

inductive SV where
  | bool (b : Bool)
  | int (k : IntKind) (n : Int)
  | str (s : ByteArray)
  | ptr (h i j : Nat)
  | nptr
  | sl (h i n c : Nat)
  | nsl
  | agg (l : List SV)
  | tup (l : List SV)
  | raw (v : Value)
  | unk

def Base.addr (β : Base) (i j : Nat) : Addr := ⟨β.blk, β.off + i * β.es + j, none⟩

mutual
def Rv (g : G) : SV → Value → Prop
  | .bool b, v => v = .bool b
  | .int k n, v => v = .int k n
  | .str s, v => v = .string s
  | .ptr h i j, v => h < g.n ∧ v = .pointer (some ((g.f h).addr i j))
  | .nptr, v => v = .pointer none
  | .sl h i n c, v => h < g.n ∧ ∃ a, v = .slice a n c ∧ ((n = 0 ∧ c = 0) ∨ a = some ((g.f h).addr i 0))
  | .nsl, v => v = .slice none 0 0
  | .agg l, v => ∃ vs, v = .agg vs ∧ Rvs g l vs.toList
  | .tup l, v => ∃ vs, v = .tuple vs ∧ Rvs g l vs.toList
  | .raw x, v => v = x
  | .unk, _ => True
def Rvs (g : G) : List SV → List Value → Prop
  | [], vs => vs = []
  | s :: ss, vs => ∃ v vs', vs = v :: vs' ∧ Rv g s v ∧ Rvs g ss vs'
end

inductive Col where
  | ints (k : IntKind) (l : List Int)
  | strs (l : List ByteArray)
  | bools (l : List Bool)

def Col.at : Col → Nat → SV
  | .ints k l, i => .int k (l.getD i 0)
  | .strs l, i => .str (l.getD i ⟨#[]⟩)
  | .bools l, i => .bool (l.getD i false)

/-- A block: one element written out, or n elements by columns. -/
inductive Blk where
  | cells (l : List SV)
  | cols (n : Nat) (l : List Col)

def nth {α : Type} : List α → Nat → Option α
  | [], _ => none
  | x :: _, 0 => some x
  | _ :: l, n + 1 => nth l n

def Blk.es : Blk → Nat
  | .cells l => l.length
  | .cols _ l => l.length

def Blk.has : Blk → Nat → Prop
  | .cells _, i => i = 0
  | .cols n _, i => i < n

/-- p, where the block has element i. -/
def Blk.need (b : Blk) (i : Nat) (p : Prop) : Prop :=
  match b with
  | .cells _ => (match i with | 0 => p | _ => False)
  | .cols n _ => i < n ∧ p

def Blk.at : Blk → Nat → Nat → Option SV
  | .cells l, _, j => nth l j
  | .cols _ l, i, j => (nth l j).map (·.at i)

structure HB where
  ro : Bool
  b : Blk

abbrev Heap := List (Nat × HB)
abbrev Env := List (Nat × SV)

def aget {α : Type} : List (Nat × α) → Nat → Option α
  | [], _ => none
  | (k, v) :: r, x => bif Nat.beq k x then some v else aget r x

structure VS where
  env : Env
  heap : Heap
  next : Nat

/-- A block that is there: it can be written, or it has an element. -/
def HB.live (hb : HB) : Prop := hb.ro = false ∨ hb.b.has 0

theorem has_zero {b : Blk} {i : Nat} (h : b.has i) : b.has 0 := by
  cases b with
  | cells l => rfl
  | cols n l => simp only [Blk.has] at h ⊢; omega

structure BlkAt (g : G) (β : Base) (hb : HB) (w : World) : Prop where
  lt : hb.live → β.blk < w.heap.size
  es : β.es = hb.b.es
  cell : ∀ i j sv, hb.b.has i → hb.b.at i j = some sv → ∃ v, w.cell? (β.addr i j) = some v ∧ Rv g sv v
  rw : hb.ro = false → ∀ o, w.frozen? ⟨β.blk, o, none⟩ = false

structure Holds (g : G) (H : Heap) (w : World) : Prop where
  blk : ∀ h hb, aget H h = some hb → h < g.n ∧ BlkAt g (g.f h) hb w
  sep : ∀ h h' hb hb', h ≠ h' → aget H h = some hb → aget H h' = some hb' → hb.ro = false → hb'.live → (g.f h).blk ≠ (g.f h').blk

/-- Of what was in w only the blocks W have turned. -/
structure Fr (W : Nat → Prop) (w w' : World) : Prop where
  os : w'.os = w.os
  tape : w'.tape = w.tape
  output : w'.output = w.output
  size : w.heap.size ≤ w'.heap.size
  block : ∀ k, k < w.heap.size → ¬ W k → w'.heap[k]? = w.heap[k]?

def Wset (g : G) (H : Heap) : Nat → Prop := fun b => ∃ h hb, aget H h = some hb ∧ hb.ro = false ∧ (g.f h).blk = b

def Owns (g : G) (H : Heap) (W : Nat → Prop) (w0 : World) : Prop := ∀ h hb, aget H h = some hb → hb.ro = false → W (g.f h).blk ∨ w0.heap.size ≤ (g.f h).blk

def G.le (g g' : G) : Prop := g.n ≤ g'.n ∧ ∀ h, h < g.n → g'.f h = g.f h

/-- What a run starts from: the handles, the world, the blocks that may turn, the slots of the frame. -/
structure Ctx where
  g : G
  w : World
  W : Nat → Prop
  N : Nat

structure Rel (C : Ctx) (g : G) (vs : VS) (a : Act) (w : World) : Prop where
  env : ∀ t sv, aget vs.env t = some sv → Rv g sv (a.tmps.getD t undef)
  size : a.tmps.size = C.N
  defers : a.defers = []
  next : g.n = vs.next
  le : G.le C.g g
  heap : Holds g vs.heap w
  fr : Fr C.W C.w w
  own : Owns g vs.heap C.W C.w

/-- What is known of a type: cells, its kind (1 bool, 2 integer, 3 string, 4 struct, 5 array, 6 slice, 7 pointer, 8 map, 0 other), the zero cells, the places of the fields (offset, cells, whether an aggregate), the cells of an element, the length of an array; its kind if it is an integer; of a struct of scalars that can be compared cell by cell, the kinds of its cells; whether values of it can be written out. -/
structure TI where
  size : Nat
  kind : Nat
  zero : List SV
  fields : List (Nat × Nat × Bool)
  ik : IntKind
  el : Nat
  len : Nat
  flat : List Nat
  bld : Bool

def TI.agg (ti : TI) : Bool := Nat.beq ti.kind 4 || Nat.beq ti.kind 5

abbrev Tab := List (Nat × TI)

def cv : Value → SV
  | .bool b => .bool b
  | .int k n => .int k n
  | .string s => .str s
  | .pointer none => .nptr
  | .slice none 0 0 => .nsl
  | v => .raw v

def gv (vs : VS) : Operand → Option SV
  | .tmp t => aget vs.env t
  | .const v => some (cv v)
  | .func f => some (.raw (.func (.func f) #[] #[]))
  | .global _ => none

/-- A branch on a Bool; computed where the Bool is known. -/
def br (b : Bool) (p q : Prop) : Prop := match b with | true => p | false => q
theorem br_intro {b : Bool} {p q : Prop} (h : b = true → p) (k : b = false → q) : br b p q := by cases b; exact k rfl; exact h rfl
theorem br_elim {b : Bool} {p q : Prop} (h : br b p q) : (b = true → p) ∧ (b = false → q) := by cases b; exact ⟨by simp, fun _ => h⟩; exact ⟨fun _ => h, by simp⟩

def ikEq : IntKind → IntKind → Bool
  | .i8, .i8 | .i16, .i16 | .i32, .i32 | .i64, .i64 | .u8, .u8 | .u16, .u16 | .u32, .u32 | .u64, .u64 => true
  | _, _ => false

def byteAt (s : ByteArray) (i : Int) : Int := ((s.data.toList.getD i.toNat 0).toNat : Int)

def seq (a b : ByteArray) : Bool := decide (a = b)

/-- Equality of scalar cells of these kinds, one after the other. -/
def eqCells : List Nat → List SV → List SV → Option Bool
  | [], [], [] => some true
  | 2 :: ks, .int p x :: l, .int q y :: m => bif ikEq p q then (match eqCells ks l m with | some b => some (decide (x = y) && b) | none => none) else none
  | 3 :: ks, .str x :: l, .str y :: m => match eqCells ks l m with | some b => some (seq x y && b) | none => none
  | 1 :: ks, .bool x :: l, .bool y :: m => match eqCells ks l m with | some b => some ((x == y) && b) | none => none
  | _, _, _ => none

def binInt (op : BinOp) (k : IntKind) (x y : Int) (K : SV → Prop) : Prop :=
  match op with
  | .add => K (.int k (k.wrap (x + y)))
  | .sub => K (.int k (k.wrap (x - y)))
  | .mul => K (.int k (k.wrap (x * y)))
  | .quo => y ≠ 0 ∧ K (.int k (k.wrap (x.tdiv y)))
  | .rem => y ≠ 0 ∧ K (.int k (x.tmod y))
  | .eql => K (.bool (decide (x = y)))
  | .neq => K (.bool (!decide (x = y)))
  | .lss => K (.bool (decide (x < y)))
  | .leq => K (.bool (decide (x ≤ y)))
  | .gtr => K (.bool (decide (y < x)))
  | .geq => K (.bool (decide (y ≤ x)))
  | _ => False

def strLt (a b : ByteArray) : Bool := Op.bytesLess a.toList b.toList

def binStr (op : BinOp) (x y : ByteArray) (K : SV → Prop) : Prop :=
  match op with
  | .eql => K (.bool (seq x y))
  | .neq => K (.bool (!seq x y))
  | .lss => K (.bool (strLt x y))
  | .leq => K (.bool (strLt x y || seq x y))
  | .gtr => K (.bool (!(strLt x y || seq x y)))
  | .geq => K (.bool (!strLt x y))
  | .add => (x.size + y.size ≤ 9223372036854775807) ∧ K (.str (x ++ y))
  | _ => False

def binK (T : Tab) (op : BinOp) (t : TypeId) (a b : SV) (K : SV → Prop) : Prop :=
  match a, b with
  | .int p x, .int q y => bif ikEq p q then binInt op p x y K else False
  | .str x, .str y => binStr op x y K
  | .bool x, .bool y =>
    match aget T t with
    | some ti => bif Nat.beq ti.kind 1 then (match op with
      | .eql => K (.bool (x == y))
      | .neq => K (.bool (!(x == y)))
      | _ => False) else False
    | none => False
  | .agg l, .agg m =>
    match aget T t with
    | some ti => bif !ti.flat.isEmpty then (match eqCells ti.flat l m with
      | some r => match op with
        | .eql => K (.bool r)
        | .neq => K (.bool (!r))
        | _ => False
      | none => False) else False
    | none => False
  | _, _ => False

def loadN (b : Blk) (i : Nat) : Nat → Nat → Option (List SV)
  | _, 0 => some []
  | j, n + 1 => match b.at i j with
    | some v => match loadN b i (j + 1) n with
      | some l => some (v :: l)
      | none => none
    | none => none

def takeN {α : Type} : Nat → List α → Option (List α)
  | 0, _ => some []
  | _ + 1, [] => none
  | n + 1, x :: l => match takeN n l with
    | some r => some (x :: r)
    | none => none

def dropN {α : Type} : Nat → List α → List α
  | 0, l => l
  | _ + 1, [] => []
  | n + 1, _ :: l => dropN n l

def setNth {α : Type} : List α → Nat → α → List α
  | [], _, _ => []
  | _ :: l, 0, v => v :: l
  | x :: l, n + 1, v => x :: setNth l n v

def setMany {α : Type} : List α → Nat → List α → List α
  | l, _, [] => l
  | l, j, v :: r => setMany (setNth l j v) (j + 1) r

def SV.cells : SV → Option (List SV)
  | .agg l => some l
  | .tup _ => none
  | .unk => none
  | .raw (.agg _) => none
  | .raw (.tuple _) => none
  | v => some [v]

def TI.place (ti : TI) (i : Nat) : Option (Nat × Nat) :=
  bif Nat.beq ti.kind 4 then (match nth ti.fields i with | some (o, n, _) => some (o, n) | none => none) else some (i * ti.el, ti.el)

def buildL (vs : VS) (ti : TI) : List (Nat × Operand) → List SV → Option (List SV)
  | [], l => some l
  | (i, x) :: r, l => match ti.place i, gv vs x with
    | some (o, n), some v => (match v.cells with
      | some m => bif Nat.beq m.length n && Nat.ble (o + n) l.length then buildL vs ti r (setMany l o m) else none
      | none => none)
    | _, _ => none

/-- Operations that look at slots and memory only, and change nothing. -/
def evR (T : Tab) (vs : VS) (op : Op) (K : SV → Prop) : Prop :=
  match op with
  | .move x => match gv vs x with | some v => K v | none => False
  | .assign x => match gv vs x with | some v => K v | none => False
  | .pick c x y => match gv vs c with
    | some (.bool true) => (match gv vs x with | some v => K v | none => False)
    | some (.bool false) => (match gv vs y with | some v => K v | none => False)
    | _ => False
  | .binOp op t x y _ => match gv vs x, gv vs y with
    | some a, some b => binK T op t a b K
    | _, _ => False
  | .unOp op _ x => match op, gv vs x with
    | .not, some (.bool b) => K (.bool (!b))
    | .neg, some (.int k n) => K (.int k (k.wrap (0 - n)))
    | _, _ => False
  | .fieldAddr s x f => match gv vs x, aget T s with
    | some (.ptr h i j), some ti => bif !Nat.beq ti.kind 4 then False else (match nth ti.fields f with
      | some (o, n, _) => bif Nat.beq n 0 then False else K (.ptr h i (j + o))
      | none => False)
    | _, _ => False
  | .field s x f => match gv vs x, aget T s with
    | some (.agg l), some ti => bif !Nat.beq ti.kind 4 then False else (match nth ti.fields f with
      | some (o, n, ag) => bif Nat.beq n 0 then False else bif ag then (match takeN n (dropN o l) with | some r => K (.agg r) | none => False) else (match nth l o with | some v => K v | none => False)
      | none => False)
    | _, _ => False
  | .load t x => match gv vs x, aget T t with
    | some (.ptr h i j), some ti => (match aget vs.heap h with
      | some hb => hb.b.need i (bif ti.agg then (match loadN hb.b i j ti.size with | some l => K (.agg l) | none => False) else (match hb.b.at i j with | some v => K v | none => False))
      | none => False)
    | _, _ => False
  | .extract x ix => match gv vs x with
    | some (.tup l) => (match nth l ix with | some v => K v | none => False)
    | _ => False
  | .index t x ix => match gv vs x, gv vs ix, aget T t with
    | some (.str s), some (.int _ i), some ti => bif Nat.beq ti.kind 3 then (0 ≤ i ∧ i < (s.size : Int)) ∧ K (.int .u8 (byteAt s i)) else False
    | _, _, _ => False
  | .indexAddr t x ix => match gv vs x, gv vs ix, aget T t with
    | some (.sl h i n _), some (.int _ m), some ti => bif !Nat.beq ti.kind 6 then False else ((0 ≤ m ∧ m < (n : Int)) ∧ (match aget vs.heap h with | some hb => bif Nat.beq hb.b.es ti.el && !Nat.beq ti.el 0 then K (.ptr h (m.toNat + i) 0) else False | none => False))
    | _, _, _ => False
  | .build t parts => match aget T t with
    | some ti => bif ti.bld then (match buildL vs ti parts.toList ti.zero with | some l => K (.agg l) | none => False) else False
    | none => False
  | .call { callee := .builtin b, args := args, argTypes := ts } => match b, args.toList with
    | .len, [x] => (match ts.toList with
      | [t] => (match gv vs x, aget T t with
        | some (.str s), some ti => bif Nat.beq ti.kind 3 then K (.int .i64 (s.size : Int)) else False
        | some (.sl _ _ n _), some ti => bif Nat.beq ti.kind 6 then K (.int .i64 (n : Int)) else False
        | some .nsl, some ti => bif Nat.beq ti.kind 6 then K (.int .i64 0) else False
        | _, _ => False)
      | _ => False)
    | .min, [x, y] => (match gv vs x, gv vs y with
      | some (.int p a), some (.int q b) => bif ikEq p q then K (.int p (min a b)) else False
      | _, _ => False)
    | .max, [x, y] => (match gv vs x, gv vs y with
      | some (.int p a), some (.int q b) => bif ikEq p q then K (.int p (max a b)) else False
      | _, _ => False)
    | _, _ => False
  | .convert src dst x => match gv vs x, aget T src, aget T dst with
    | some (.int _ n), some _, some ti => bif Nat.beq ti.kind 2 then K (.int ti.ik (ti.ik.wrap n)) else False
    | _, _, _ => False
  | _ => False


def kindOf : TypeDesc → Nat
  | .bool => 1
  | .int _ => 2
  | .string => 3
  | .struct _ => 4
  | .array _ _ => 5
  | .slice _ => 6
  | .pointer _ => 7
  | .map _ _ => 8
  | _ => 0

def aggB (P : Program) (t : TypeId) : Bool :=
  match P.underlying t with
  | some (.struct _) => true
  | some (.array _ _) => true
  | _ => false

def fsz (P : Program) (t : TypeId) : Nat :=
  match P.underlying t with
  | some _ => P.cellsOf t
  | none => 0

def scalarK (P : Program) (t : TypeId) : Nat :=
  match P.underlying t with
  | some .bool => 1
  | some (.int _) => 2
  | some .string => 3
  | _ => 0

def flatFrom (P : Program) : Nat → List Field → Option (List Nat)
  | _, [] => some []
  | i, f :: r => bif (f.name != "_") && !Nat.beq (scalarK P f.type) 0 && (f.offset == i) then (match flatFrom P (i + 1) r with | some l => some (scalarK P f.type :: l) | none => none) else none

def bldB (P : Program) : TypeDesc → Bool
  | .struct fs => fs.toList.all (fun f => (P.info? f.type).isSome && (P.underlying f.type).isSome)
  | .array _ e => (P.info? e).isSome
  | _ => false

/-- What the program says of a type. -/
def tiOf (P : Program) (t : TypeId) : Option TI :=
  match P.info? t, P.underlying t with
  | some i, some d => some {
      size := i.size
      kind := kindOf d
      zero := match i.zero with | some z => z.cells.toList.map cv | none => []
      fields := match d with | .struct fs => fs.toList.map (fun f => (f.offset, fsz P f.type, aggB P f.type)) | _ => []
      ik := match d with | .int k => k | _ => .i64
      el := match d with | .slice e => P.cellsOf e | .array _ e => P.cellsOf e | _ => 0
      len := match d with | .array n _ => n | _ => 0
      flat := match d with | .struct fs => bif !P.stoodInHeld t && !P.eqGuardType P.depth t then (flatFrom P 0 fs.toList).getD [] else [] | _ => []
      bld := i.zero.isSome && bldB P d }
  | _, _ => none

def TabOk (P : Program) (T : Tab) : Prop := ∀ t ti, aget T t = some ti → tiOf P t = some ti

theorem tabOk_of (P : Program) (T : Tab) (h : T.map (fun p => tiOf P p.1) = T.map (fun p => some p.2)) : TabOk P T := by
  intro t ti
  induction T with
  | nil => intro h; cases h
  | cons p r ih =>
    obtain ⟨k, x⟩ := p
    simp only [List.map_cons, List.cons.injEq] at h
    intro ha
    simp only [aget] at ha
    cases hb : Nat.beq k t with
    | true => rw [hb] at ha; simp only [cond_true, Option.some.injEq] at ha; rw [← ha, ← Nat.eq_of_beq_eq_true hb]; exact h.1
    | false => rw [hb] at ha; exact ih h.2 ha

end Go.Sx
