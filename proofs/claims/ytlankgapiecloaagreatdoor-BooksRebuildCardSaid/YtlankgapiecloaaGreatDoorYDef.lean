/- Symbolic execution over the model's code: symbolic values, symbolic heaps, what holds between them and worlds, and the effect of operations. No program in sight. -/
import Derived.WalkKit
import Derived.Below
namespace Go.Sy
open Go.RowKit
structure Base where
 blk:Nat
 off:Nat
 es:Nat
 cap:Nat
abbrev G:=Nat→Nat→Option Base
def Base.addr (β:Base) (i j:Nat):Addr:=⟨β.blk,β.off+i*β.es+j,none⟩
inductive Col where
 |ints (k:IntKind) (l:List Int)
 |strs (l:List ByteArray)
 |bools (l:List Bool)
inductive SV where
 |bool (b:Bool)
 |int (k:IntKind) (n:Int)
 |str (s:ByteArray)
 |ptr (h q i j:Nat)
 |nptr
 |sl (h q i n:Nat)
 |nsl
 |zsl
 |map (h q:Nat)
 |nmap
 |fn (f:Nat) (l:List SV)
 |iface (t:Nat) (v:SV)
 |nif
 |agg (l:List SV)
 |arr (n:Nat) (l:List Col)
 |tup (l:List SV)
 |raw (v:Value)
 |unk
def Col.at:Col→Nat→SV
 | .ints k l,i=> .int k (l.getD i 0)
 | .strs l,i=> .str (l.getD i ⟨#[]⟩)
 | .bools l,i=> .bool (l.getD i false)
def Col.val:Col→Nat→Value
 | .ints k l,i=> .int k (l.getD i 0)
 | .strs l,i=> .string (l.getD i ⟨#[]⟩)
 | .bools l,i=> .bool (l.getD i false)
def colsAt:List Col→Nat→List SV
 | [],_=> []
 |c::l,i=>c.at i::colsAt l i
def nth {α:Type}:List α→Nat→Option α
 | [],_=>none
 |x::_,0=>some x
 |_::l,n+1=>nth l n
def Col.len:Col→Nat
 | .ints _ l=>l.length
 | .strs l=>l.length
 | .bools l=>l.length
def ArrOk (n:Nat) (cs:List Col) (vs:Array Value):Prop:=vs.size=n*cs.length∧(∀c∈cs,c.len=n)∧∀i j c,i<n→nth cs j=some c→vs[i*cs.length+j]?=some (c.val i)
mutual
def Rv (g:G):SV→Value→Prop
 | .bool b,v=>v= .bool b
 | .int k n,v=>v= .int k n
 | .str s,v=>v= .string s
 | .ptr h q i j,v=>∃β,g h q=some β∧v= .pointer (some (β.addr i j))
 | .nptr,v=>v= .pointer none
 | .sl h q i n,v=>∃a c,v= .slice a n c∧n≤c∧(c=0∨∃β,g h q=some β∧a=some (β.addr i 0)∧i+c≤β.cap)
 | .nsl,v=>v= .slice none 0 0
 | .zsl,v=>∃a,v= .slice a 0 0
 | .map h q,v=>∃β,g h q=some β∧v= .map (some β.blk)
 | .nmap,v=>v= .map none
 | .fn f l,v=>∃vs,v= .func (.func f) #[] vs∧Rvs g l vs.toList
 | .iface t s,v=>∃u,v= .iface t u∧Rv g s u
 | .nif,v=>v= .nilIface
 | .agg l,v=>∃vs,v= .agg vs∧Rvs g l vs.toList
 | .arr n cs,v=>∃vs,v= .agg vs∧ArrOk n cs vs
 | .tup l,v=>∃vs,v= .tuple vs∧Rvs g l vs.toList
 | .raw x,v=>v=x
 | .unk,_=>True
def Rvs (g:G):List SV→List Value→Prop
 | [],vs=>vs= []
 |s::ss,vs=>∃v vs',vs=v::vs'∧Rv g s v∧Rvs g ss vs'
end
inductive BCol where
 |sc (c:Col)
 |svs (l:List SV)
 |own (h:Nat) (ns:List Nat)
 |arrs (n:Nat) (k:IntKind) (rows:List (List Int))
 |ptrs (h n:Nat)
def ownL (h:Nat) (ns:List Nat):List SV:=(List.range ns.length).map (fun k=> .sl h k 0 (ns.getD k 0))
def ptrL (h n:Nat):List SV:=(List.range n).map (fun k=> .ptr h k 0 0)
def arrL (n:Nat) (k:IntKind) (rows:List (List Int)):List SV:=rows.map (fun V=> .arr n [.ints k V])
def BCol.at:BCol→Nat→SV
 | .sc c,i=>c.at i
 | .svs l,i=>l.getD i .unk
 | .own h ns,i=> .sl h i 0 (ns.getD i 0)
 | .arrs n k rows,i=> .arr n [.ints k (rows.getD i (List.replicate n 0))]
 | .ptrs h _,i=> .ptr h i 0 0
inductive ObjS where
 |map (ka ea:Bool) (n:Nat) (ks:List Col) (vs:List BCol) (bs:List Nat) (ck:Nat)
 |iter (h q:Nat) (bs:List Nat) (ck:Nat) (sn:List Nat)
 |niter
 |siter (s:ByteArray) (pos:Nat)
 |bld0 (T:Nat)
 |bld (T h q n:Nat)
 |brow (T:Nat) (s:ByteArray)
 |bag (Q:List ByteArray→List ByteArray→List Int→Prop)
inductive Blk where
 |cells (l:List SV)
 |cols (n:Nat) (l:List BCol)
 |obj (o:ObjS)
def Blk.es:Blk→Nat
 | .cells l=>l.length
 | .cols _ l=>l.length
 | .obj _=>0
def Blk.has:Blk→Nat→Prop
 | .cells _,i=>i=0
 | .cols n _,i=>i<n
 | .obj _,_=>False
def Blk.at:Blk→Nat→Nat→Option SV
 | .cells l,_,j=>nth l j
 | .cols _ l,i,j=>match nth l j with|some c=>some (c.at i)|none=>none
 | .obj _,_,_=>none
inductive HB where
 |one (ro:Bool) (b:Blk)
 |fam (ro:Bool) (dom:Nat→Prop) (f:Nat→Blk)
def HB.ro:HB→Bool
 | .one r _=>r
 | .fam r _ _=>r
def HB.is:HB→Nat→Blk→Prop
 | .one _ b,q,b'=>q=0∧b'=b
 | .fam _ dom f,q,b'=>dom q∧b'=f q
def HB.set:HB→Nat→Blk→HB
 | .one r _,_,b=> .one r b
 | .fam r dom f,q,b=> .fam r dom (fun x=>if x=q then b else f x)
def HB.drop:HB→Nat→Option HB
 | .one _ _,_=>none
 | .fam r dom f,q=>some (.fam r (fun x=>dom x∧x≠q) f)
abbrev Heap:=List (Nat×Option HB)
abbrev Env:=List (Nat×SV)
def aget {α:Type}:List (Nat×α)→Nat→Option α
 | [],_=>none
 |(k,v)::r,x=>bif Nat.beq k x then some v else aget r x
def hget:Heap→Nat→Option HB
 | [],_=>none
 |(k,v)::r,x=>bif Nat.beq k x then v else hget r x
structure VS where
 env:Env
 heap:Heap
 next:Nat
def BCol.len:BCol→Nat
 | .sc c=>c.len
 | .svs l=>l.length
 | .own _ ns=>ns.length
 | .arrs _ _ rows=>rows.length
 | .ptrs _ n=>n
def Blk.lenOk:Blk→Prop
 | .cells _=>True
 | .cols n l=>∀c∈l,c.len=n
 | .obj _=>True
theorem arrL_len (n:Nat) (k:IntKind) (rows:List (List Int)):(arrL n k rows).length=rows.length:=by simp [arrL]
theorem arrL_at {n:Nat} {k:IntKind} {rows:List (List Int)} {x:Nat} (hx:x<rows.length):(arrL n k rows).getD x .unk= .arr n [.ints k (rows.getD x (List.replicate n 0))]:=by simp [arrL,hx]
theorem ownL_len (h:Nat) (ns:List Nat):(ownL h ns).length=ns.length:=by simp [ownL]
theorem ownL_at {h:Nat} {ns:List Nat} {x:Nat} (hx:x<ns.length):(ownL h ns).getD x .unk= .sl h x 0 (ns.getD x 0):=by simp [ownL,hx]
theorem ptrL_len (h n:Nat):(ptrL h n).length=n:=by simp [ptrL]
theorem ptrL_at {h n x:Nat} (hx:x<n):(ptrL h n).getD x .unk= .ptr h x 0 0:=by simp [ptrL,hx]
theorem own_at {h:Nat} {ns:List Nat} {x:Nat} (hx:x<ns.length):(BCol.svs (ownL h ns)).at x=(BCol.own h ns).at x:=ownL_at hx
def colVals:List Col→Nat→List Value
 | [],_=> []
 |c::l,i=>c.val i::colVals l i
def keyV (ka:Bool) (ks:List Col) (i:Nat):Value:=
 match ka,ks with
 |true,ks=> .agg (colVals ks i).toArray
 |false,[c]=>c.val i
 |false,_=>undef
def bcolsAt:List BCol→Nat→List SV
 | [],_=> []
 |c::l,i=>c.at i::bcolsAt l i
def elemS (ea:Bool) (vs:List BCol) (i:Nat):SV:=
 match ea,vs with
 |true,vs=> .agg (bcolsAt vs i)
 |false,[c]=>c.at i
 |false,_=> .unk
structure MapOk (g:G) (ka ea:Bool) (n:Nat) (ks:List Col) (vs:List BCol) (bs:List Nat) (ck:Nat) (es:Array MapEntry):Prop where
 size:es.size=n
 kl:∀c∈ks,c.len=n
 vl:∀c∈vs,c.len=n
 bl:bs.length=n
 nd:bs.Nodup
 lt:∀b∈bs,b<ck
 row:∀i e,es[i]?=some e→e.born=bs.getD i 0∧e.key=keyV ka ks i∧Rv g (elemS ea vs i) e.val
def ObjS.Ok (g:G) (w:World) (β:Base):ObjS→Prop
 | .map ka ea n ks vs bs ck=>∃es,w.heap[β.blk]?=some (.map es ck)∧MapOk g ka ea n ks vs bs ck es
 | .iter h q bs ck sn=>∃β',g h q=some β'∧w.heap[β.blk]?=some (.mapIter (some β'.blk) ck ((sn.reverse.map (fun i=>bs.getD i 0)).toArray) ck)∧(∀i∈sn,i<bs.length)
 | .niter=>∃a b c,w.heap[β.blk]?=some (.mapIter none a b c)
 | .siter s p=>w.heap[β.blk]?=some (.stringIter s p)
 | .bld0 T=>w.heap[β.blk]?=some (.cells #[.pointer none,.slice none 0 0] T (0,0))
 | .bld T h q n=>∃β',g h q=some β'∧w.heap[β.blk]?=some (.cells #[.pointer (some ⟨β.blk,0,none⟩),.slice (some ⟨β'.blk,0,none⟩) n β'.cap] T (0,0))
 | .brow T s=>∃cur,w.heap[β.blk]?=some (.cells cur T (0,0))∧cur.size=β.cap∧s.size≤β.cap∧β.cap≤maxLen∧cur.toList.take s.size=s.data.toList.map (fun x=>Value.int .u8 x.toNat)
 | .bag Q=>∃a c v n es,Q a c v∧w.heap[β.blk]?=some (.map es n)∧es.size=n∧a.length=n∧c.length=n∧v.length=n∧∀i e,es[i]?=some e→e.born=i∧e.key=keyV true [.strs a,.strs c] i∧e.val= .int .i64 (v.getD i 0)
def Blk.Ok (g:G) (w:World) (β:Base):Blk→Prop
 | .obj o=>0<β.cap∧β.off=0∧o.Ok g w β
 |_=>True
structure BlkAt (g:G) (β:Base) (ro:Bool) (b:Blk) (w:World):Prop where
 lt:0<β.cap→β.blk<w.heap.size
 es:β.es=b.es
 len:b.lenOk
 cap:∀i,b.has i→i<β.cap
 cell:∀i j sv,b.has i→b.at i j=some sv→∃v,w.cell? (β.addr i j)=some v∧Rv g sv v
 one:∀i j v,b.has i→j<β.es→w.cell? (β.addr i j)=some v→v.oneCell'=true
 rw:ro=false→∀i j,i<β.cap→j<β.es→w.frozen? (β.addr i j)=false∧∃v,w.cell? (β.addr i j)=some v
 obj:b.Ok g w β
def Ent (H:Heap) (h q:Nat) (ro:Bool) (b:Blk):Prop:=∃hb,hget H h=some hb∧hb.is q b∧hb.ro=ro
structure Holds (g:G) (H:Heap) (w:World):Prop where
 blk:∀h q ro b,Ent H h q ro b→∃β,g h q=some β∧BlkAt g β ro b w
 sep:∀h q h' q' b ro' b' β β',¬(h=h'∧q=q')→Ent H h q false b→Ent H h' q' ro' b'→g h q=some β→g h' q'=some β'→0<β.cap→0<β'.cap→β.blk≠β'.blk
structure Fr (W:Nat→Prop) (w w':World):Prop where
 os:w'.os=w.os
 tape:w'.tape=w.tape
 output:w'.output=w.output
 size:w.heap.size≤w'.heap.size
 block:∀k,k<w.heap.size→¬W k→w'.heap[k]?=w.heap[k]?
def Wset (g:G) (H:Heap):Nat→Prop:=fun k=>∃h q b β,Ent H h q false b∧g h q=some β∧0<β.cap∧β.blk=k
def Owns (g:G) (H:Heap) (W:Nat→Prop) (w0:World):Prop:=∀h q b β,Ent H h q false b→g h q=some β→0<β.cap→W β.blk∨w0.heap.size≤β.blk
def G.le (g g':G):Prop:=∀h q β,g h q=some β→g' h q=some β
def G.upto (g:G) (n:Nat):Prop:=∀h q,n≤h→g h q=none
def G.glob (g:G):Prop:=∀q,∃es cap,g 0 q=some ⟨q,0,es,cap⟩
structure TI where
 size:Nat
 kind:Nat
 zero:List SV
 zc:List Col
 fields:List (Nat×Nat×Bool)
 ik:IntKind
 el:Nat
 len:Nat
 eag:Bool
 ez:List SV
 eb:Nat
 flat:List Nat
 bld:Bool
 u8:Bool
 ega:Bool
def TI.agg (ti:TI):Bool:=Nat.beq ti.kind 4||Nat.beq ti.kind 5
abbrev Tab:=List (Nat×TI)
def cv:Value→SV
 | .bool b=> .bool b
 | .int k n=> .int k n
 | .string s=> .str s
 | .pointer none=> .nptr
 | .slice none 0 0=> .nsl
 | .map none=> .nmap
 | .nilIface=> .nif
 |v=> .raw v
def gv (vs:VS):Operand→Option SV
 | .tmp t=>aget vs.env t
 | .const v=>some (cv v)
 | .func f=>some (.fn f [])
 | .global n=>some (.ptr 0 n 0 0)
def gvs (vs:VS):List Operand→Option (List SV)
 | []=>some []
 |x::r=>match gv vs x with
  |some v=>(match gvs vs r with|some l=>some (v::l)|none=>none)
  |none=>none
def br (b:Bool) (p q:Prop):Prop:=match b with|true=>p|false=>q
theorem br_intro {b:Bool} {p q:Prop} (h:b=true→p) (k:b=false→q):br b p q:=by cases b;exact k rfl;exact h rfl
theorem br_elim {b:Bool} {p q:Prop} (h:br b p q):(b=true→p)∧(b=false→q):=by cases b;exact ⟨by simp,fun _=>h⟩;exact ⟨fun _=>h,by simp⟩
def ikEq:IntKind→IntKind→Bool
 | .i8,.i8| .i16,.i16| .i32,.i32| .i64,.i64| .u8,.u8| .u16,.u16| .u32,.u32| .u64,.u64=>true
 |_,_=>false
def byteAt (s:ByteArray) (i:Int):Int:=((s.data.toList.getD i.toNat 0).toNat:Int)
def seq (a b:ByteArray):Bool:=decide (a=b)
inductive Res where
 |no
 |ok (r:SV) (U:Heap) (b:Nat) (t:List Nat)
 |when (c:Prop) (r:SV) (U:Heap) (b:Nat) (t:List Nat)
def Res.is:Res→SV→Heap→Nat→List Nat→Prop
 | .no,_,_,_,_=>False
 | .ok r U b t,r',U',b',t'=>r'=r∧U'=U∧b'=b∧t'=t
 | .when c r U b t,r',U',b',t'=>c∧r'=r∧U'=U∧b'=b∧t'=t
def Res.guard (c:Prop):Res→Res
 | .no=> .no
 | .ok r U b t=> .when c r U b t
 | .when d r U b t=> .when (c∧d) r U b t
def Res.one (v:SV):Res:= .ok v [] 0 []
def eqCells:List Nat→List SV→List SV→Option Bool
 | [],[],[]=>some true
 |2::ks,.int p x::l,.int q y::m=>bif ikEq p q then (match eqCells ks l m with|some b=>some (decide (x=y)&&b)|none=>none) else none
 |3::ks,.str x::l,.str y::m=>match eqCells ks l m with|some b=>some (seq x y&&b)|none=>none
 |1::ks,.bool x::l,.bool y::m=>match eqCells ks l m with|some b=>some ((x==y)&&b)|none=>none
 |_,_,_=>none
def iand (k:IntKind) (x y:Int):Int:=k.wrap ((BitVec.ofInt k.bits x&&&BitVec.ofInt k.bits y).toNat:Int)
def ior (k:IntKind) (x y:Int):Int:=k.wrap ((BitVec.ofInt k.bits x|||BitVec.ofInt k.bits y).toNat:Int)
def ixor (k:IntKind) (x y:Int):Int:=k.wrap ((BitVec.ofInt k.bits x^^^BitVec.ofInt k.bits y).toNat:Int)
def iandNot (k:IntKind) (x y:Int):Int:=k.wrap ((BitVec.ofInt k.bits x&&& ~~~BitVec.ofInt k.bits y).toNat:Int)
def ishl (k:IntKind) (x y:Int):Int:=k.wrap (x*2^(min y.toNat k.bits))
def ishr (k:IntKind) (x y:Int):Int:=x.fdiv (2^(min y.toNat k.bits))
def icom (k:IntKind) (x:Int):Int:=ixor k (if k.signed then-1 else k.max) x
def binInt (op:BinOp) (k:IntKind) (x y:Int):Res:=
 match op with
 | .add=> .one (.int k (k.wrap (x+y)))
 | .sub=> .one (.int k (k.wrap (x-y)))
 | .mul=> .one (.int k (k.wrap (x*y)))
 | .quo=> .when (y≠0) (.int k (k.wrap (x.tdiv y))) [] 0 []
 | .rem=> .when (y≠0) (.int k (x.tmod y)) [] 0 []
 | .eql=> .one (.bool (decide (x=y)))
 | .neq=> .one (.bool (!decide (x=y)))
 | .lss=> .one (.bool (decide (x<y)))
 | .leq=> .one (.bool (decide (x≤y)))
 | .gtr=> .one (.bool (decide (y<x)))
 | .geq=> .one (.bool (decide (y≤x)))
 | .and=> .one (.int k (iand k x y))
 | .or=> .one (.int k (ior k x y))
 | .xor=> .one (.int k (ixor k x y))
 | .andNot=> .one (.int k (iandNot k x y))
 |_=> .no
def strLt (a b:ByteArray):Bool:=Op.bytesLess a.toList b.toList
def binStr (op:BinOp) (x y:ByteArray):Res:=
 match op with
 | .eql=> .one (.bool (seq x y))
 | .neq=> .one (.bool (!seq x y))
 | .lss=> .one (.bool (strLt x y))
 | .leq=> .one (.bool (strLt x y||seq x y))
 | .gtr=> .one (.bool (!(strLt x y||seq x y)))
 | .geq=> .one (.bool (!strLt x y))
 | .add=> .when (x.size+y.size≤9223372036854775807) (.str (x++y)) [] 0 []
 |_=> .no
def eqRes (op:BinOp) (b:Bool):Res:=
 match op with
 | .eql=> .one (.bool b)
 | .neq=> .one (.bool (!b))
 |_=> .no
def isC:Operand→Bool
 | .const _=>true
 |_=>false
def binK (T:Tab) (op:BinOp) (t:TypeId) (k:Bool) (a b:SV):Res:=
 match op,a,b with
 | .shl,.int k x,.int _ y=> .when (0≤y) (.int k (ishl k x y)) [] 0 []
 | .shr,.int k x,.int _ y=> .when (0≤y) (.int k (ishr k x y)) [] 0 []
 |op,.int p x,.int q y=>bif ikEq p q then binInt op p x y else .no
 |op,.str x,.str y=>binStr op x y
 |op,.bool x,.bool y=>match aget T t with
  |some ti=>bif Nat.beq ti.kind 1 then eqRes op (x==y) else .no
  |none=> .no
 |op,.ptr _ _ _ _,.nptr=>match aget T t with
  |some ti=>bif Nat.beq ti.kind 7 then eqRes op false else .no
  |none=> .no
 |op,.nptr,.ptr _ _ _ _=>match aget T t with
  |some ti=>bif Nat.beq ti.kind 7 then eqRes op false else .no
  |none=> .no
 |op,.nptr,.nptr=>match aget T t with
  |some ti=>bif Nat.beq ti.kind 7 then eqRes op true else .no
  |none=> .no
 |op,.map _ _,.nmap=>match aget T t with
  |some ti=>bif Nat.beq ti.kind 8 then eqRes op false else .no
  |none=> .no
 |op,.nmap,.nmap=>match aget T t with
  |some ti=>bif Nat.beq ti.kind 8 then eqRes op true else .no
  |none=> .no
 |op,.sl _ _ _ (_+1),.nsl=>match aget T t with
  |some ti=>bif Nat.beq ti.kind 6 then eqRes op false else .no
  |none=> .no
 |op,.nsl,.nsl=>match aget T t with
  |some ti=>bif Nat.beq ti.kind 6 then eqRes op true else .no
  |none=> .no
 |op,.iface _ _,.nif=>match aget T t with
  |some ti=>bif Nat.beq ti.kind 9 then eqRes op false else .no
  |none=> .no
 |op,.nif,.nif=>match aget T t with
  |some ti=>bif Nat.beq ti.kind 9&&k then eqRes op true else .no
  |none=> .no
 |op,.arr n [.ints p x],.arr m [.ints q y]=>match aget T t with
  |some ti=>bif Nat.beq ti.kind 5&&Nat.beq n ti.len&&Nat.beq m ti.len&&ikEq p q&&(match ti.flat with| [2]=>true|_=>false) then eqRes op (decide (x=y)) else .no
  |none=> .no
 |op,.agg l,.agg m=>match aget T t with
  |some ti=>bif Nat.beq ti.kind 4&& !ti.flat.isEmpty then (match eqCells ti.flat l m with|some r=>eqRes op r|none=> .no) else .no
  |none=> .no
 |_,_,_=> .no
def takeN {α:Type}:Nat→List α→Option (List α)
 |0,_=>some []
 |_+1,[]=>none
 |n+1,x::l=>match takeN n l with
  |some r=>some (x::r)
  |none=>none
def dropN {α:Type}:Nat→List α→List α
 |0,l=>l
 |_+1,[]=> []
 |n+1,_::l=>dropN n l
def setNth {α:Type}:List α→Nat→α→List α
 | [],_,_=> []
 |_::l,0,v=>v::l
 |x::l,n+1,v=>x::setNth l n v
def setMany {α:Type}:List α→Nat→List α→List α
 |l,_,[]=>l
 |l,j,v::r=>setMany (setNth l j v) (j+1) r
def forceL {α β:Type}:List α→(List α→β)→β
 | [],k=>k []
 |a::t,k=>forceL t (fun r=>k (a::r))
theorem forceL_eq {α β:Type}:∀(l:List α) (k:List α→β),forceL l k=k l
 | [],_=>rfl
 |_::t,_=>forceL_eq t _
def SV.cells:SV→Option (List SV)
 | .agg l=>some l
 | .arr _ _=>none
 | .tup _=>none
 | .unk=>none
 | .raw (.agg _)=>none
 | .raw (.tuple _)=>none
 |v=>some [v]
def SV.one:SV→Bool
 | .int _ _=>true
 | .bool _=>true
 | .str _=>true
 | .ptr _ _ _ _=>true
 | .nptr=>true
 | .sl _ _ _ _=>true
 | .nsl=>true
 | .zsl=>true
 | .map _ _=>true
 | .nmap=>true
 | .fn _ _=>true
 | .iface _ _=>true
 | .nif=>true
 | .raw (.agg _)=>false
 | .raw (.tuple _)=>false
 | .raw _=>true
 |_=>false
def allOne:List SV→Bool
 | []=>true
 |s::r=>s.one&&allOne r
def TI.place (ti:TI) (i:Nat):Option (Nat×Nat):=
 bif Nat.beq ti.kind 4 then (match nth ti.fields i with|some (o,n,_)=>some (o,n)|none=>none) else some (i*ti.el,ti.el)
def buildL (vs:VS) (place:Nat→Option (Nat×Nat)):List (Nat×Operand)→List SV→Option (List SV)
 | [],l=>some l
 |(i,x)::r,l=>match place i,gv vs x with
  |some (o,n),some v=>(match v.cells with
   |some m=>bif Nat.beq m.length n&&Nat.ble (o+n) l.length then buildL vs place r (setMany l o m) else none
   |none=>none)
  |_,_=>none
def colInts (k:IntKind):List SV→Option (List Int)
 | []=>some []
 | .int p x::r=>bif ikEq p k then (match colInts k r with|some l=>some (x::l)|none=>none) else none
 |_=>none
def colStrs:List SV→Option (List ByteArray)
 | []=>some []
 | .str x::r=>match colStrs r with|some l=>some (x::l)|none=>none
 |_=>none
def colBools:List SV→Option (List Bool)
 | []=>some []
 | .bool x::r=>match colBools r with|some l=>some (x::l)|none=>none
 |_=>none
def colOf (l:List SV):Option Col:=
 match l with
 | .int k _::_=>(match colInts k l with|some m=>some (.ints k m)|none=>none)
 | .str _::_=>(match colStrs l with|some m=>some (.strs m)|none=>none)
 | .bool _::_=>(match colBools l with|some m=>some (.bools m)|none=>none)
 |_=>none
def every {α:Type} (es:Nat):Nat→List α→List α
 |_,[]=> []
 |0,x::l=>x::every es (es-1) l
 |k+1,_::l=>every es k l
def colsFrom (es:Nat) (l:List SV):Nat→Nat→Option (List Col)
 |_,0=>some []
 |j,n+1=>match colOf (every es j l),colsFrom es l (j+1) n with
  |some c,some r=>some (c::r)
  |_,_=>none
def colsOf (es:Nat) (l:List SV):Option (List Col):=colsFrom es l 0 es
def bcolOf (l:List SV):BCol:=match colOf l with|some c=> .sc c|none=> .svs l
def bcolsFrom (es:Nat) (l:List SV):Nat→Nat→List BCol
 |_,0=> []
 |j,n+1=>bcolOf (every es j l)::bcolsFrom es l (j+1) n
def sc1:BCol→Option Col
 | .sc c=>some c
 |_=>none
def scs:List BCol→Option (List Col)
 | []=>some []
 | .sc c::l=>match scs l with|some r=>some (c::r)|none=>none
 |_::_=>none
def upCols:List Col→List BCol
 | []=> []
 |c::l=> .sc c::upCols l
def zcol (n:Nat):SV→BCol
 | .int k x=> .sc (.ints k (List.replicate n x))
 | .str s=> .sc (.strs (List.replicate n s))
 | .bool b=> .sc (.bools (List.replicate n b))
 |v=> .svs (List.replicate n v)
def zcols (n:Nat):List SV→List BCol
 | []=> []
 |v::l=>zcol n v::zcols n l
def setColAt (c:BCol) (i:Nat) (v:SV):Option BCol:=
 match c,v with
 | .sc (.ints k l),.int p x=>bif ikEq p k then some (.sc (.ints k (l.set i x))) else none
 | .sc (.strs l),.str s=>some (.sc (.strs (l.set i s)))
 | .sc (.bools l),.bool b=>some (.sc (.bools (l.set i b)))
 | .svs l,v=>some (.svs (l.set i v))
 | .own h ns,v=>some (.svs ((ownL h ns).set i v))
 | .ptrs h n,v=>some (.svs ((ptrL h n).set i v))
 |_,_=>none
def zipSet (i:Nat):List BCol→List SV→Option (List BCol)
 |l,[]=>some l
 |c::l,v::m=>match setColAt c i v,zipSet i l m with
  |some d,some r=>some (d::r)
  |_,_=>none
 | [],_::_=>none
def setCols (i:Nat):Nat→List BCol→List SV→Option (List BCol)
 |0,l,m=>zipSet i l m
 |j+1,c::l,m=>(match setCols i j l m with|some r=>some (c::r)|none=>none)
 |_+1,[],_=>none
def seg {α:Type} (i n:Nat) (l:List α):List α:=(l.drop i).take n
def Col.seg (i n:Nat):Col→Col
 | .ints k l=> .ints k (Sy.seg i n l)
 | .strs l=> .strs (Sy.seg i n l)
 | .bools l=> .bools (Sy.seg i n l)
def BCol.seg (i n:Nat):BCol→BCol
 | .sc c=> .sc (c.seg i n)
 | .svs l=> .svs (Sy.seg i n l)
 | .own h ns=> .svs (Sy.seg i n (ownL h ns))
 | .ptrs h m=> .svs (Sy.seg i n (ptrL h m))
 | .arrs m k rows=> .svs (Sy.seg i n (arrL m k rows))
def segs (i n:Nat):List BCol→List BCol
 | []=> []
 |c::l=>c.seg i n::segs i n l
def catCol:BCol→BCol→Option BCol
 | .sc (.ints k l),.sc (.ints p m)=>bif ikEq p k then some (.sc (.ints k (l++m))) else none
 | .sc (.strs l),.sc (.strs m)=>some (.sc (.strs (l++m)))
 | .sc (.bools l),.sc (.bools m)=>some (.sc (.bools (l++m)))
 | .svs l,.svs m=>some (.svs (l++m))
 | .own h ns,.svs m=>some (.svs (ownL h ns++m))
 | .ptrs h n,.svs m=>some (.svs (ptrL h n++m))
 | .svs [],.own h ns=>some (.own h ns)
 | .svs [],.arrs n k r=>some (.arrs n k r)
 | .svs [],.ptrs h n=>some (.ptrs h n)
 |_,_=>none
def catCols:List BCol→List BCol→Option (List BCol)
 | [],[]=>some []
 |c::l,d::m=>match catCol c d,catCols l m with
  |some e,some r=>some (e::r)
  |_,_=>none
 |_,_=>none
def splice {α:Type} (i n:Nat) (l s:List α):List α:=l.take i++s.take n++l.drop (i+n)
def spCol (i n:Nat):BCol→BCol→Option BCol
 | .sc (.ints k l),.sc (.ints p m)=>bif ikEq p k then some (.sc (.ints k (splice i n l m))) else none
 | .sc (.strs l),.sc (.strs m)=>some (.sc (.strs (splice i n l m)))
 | .sc (.bools l),.sc (.bools m)=>some (.sc (.bools (splice i n l m)))
 | .svs l,.svs m=>some (.svs (splice i n l m))
 |_,_=>none
def spCols (i n:Nat):List BCol→List BCol→Option (List BCol)
 | [],[]=>some []
 |c::l,d::m=>match spCol i n c d,spCols i n l m with
  |some e,some r=>some (e::r)
  |_,_=>none
 |_,_=>none
def intsOf (s:ByteArray):List Int:=s.data.toList.map (fun b=>(b.toNat:Int))
def bytesOf (l:List Int):ByteArray:=⟨(l.map (fun x=>UInt8.ofNat x.toNat)).toArray⟩
def onBlk (H:Heap) (h q:Nat) (F:Bool→Blk→Res):Res:=
 match hget H h with
 |some (.one r b)=>(match q with|0=>F r b|_=> .no)
 |some (.fam r dom f)=>(F r (f q)).guard (dom q)
 |none=> .no
def setBlk (H:Heap) (h q:Nat) (b:Blk):Heap:=
 match hget H h with
 |some (.one r _)=> [(h,some (.one r b))]
 |some (.fam r dom f)=> [(h,some (.fam r dom (fun x=>if x=q then b else f x)))]
 |none=> []
theorem setBlk_some {H:Heap} {h q:Nat} {b:Blk} {hb:HB} (e:hget H h=some hb):setBlk H h q b= [(h,some (hb.set q b))]:=by
 unfold setBlk;rw [e];cases hb<;>rfl
def dropBlk (H:Heap) (h q:Nat):Heap:=
 match hget H h with
 |some hb=> [(h,hb.drop q)]
 |none=> []
def Blk.elt (b:Blk) (i:Nat) (R:Res):Res:=
 match b with
 | .cells _=>(match i with|0=>R|_=> .no)
 | .cols n _=>R.guard (i<n)
 | .obj _=> .no
def loadN (b:Blk) (i:Nat):Nat→Nat→Option (List SV)
 |_,0=>some []
 |j,n+1=>match b.at i j with
  |some v=>match loadN b i (j+1) n with
   |some l=>some (v::l)
   |none=>none
  |none=>none
def loadV (b:Blk) (i j:Nat) (ti:TI) (h:Nat):Res:=
 match b,Nat.beq ti.kind 5 with
 | .cols n l,true=>bif Nat.beq n ti.len&&Nat.beq l.length ti.el&&Nat.beq i 0&&Nat.beq j 0&&Nat.beq ti.size (ti.len*ti.el) then (match scs l with|some cs=> .ok (.arr n cs) [] 0 [h]|none=> .no) else .no
 |b,_=>bif ti.agg then b.elt i (match loadN b i j ti.size with|some l=> .ok (.agg l) [] 0 [h]|none=> .no) else b.elt i (match b.at i j with|some v=> .ok v [] 0 [h]|none=> .no)
def storeV (H:Heap) (h q i j:Nat) (v:SV) (ti:TI) (b:Blk):Res:=
 match b,v with
 | .cols n l,.arr m cs=>bif !Nat.beq n 0&&Nat.beq n m&&Nat.beq cs.length l.length&&Nat.beq i 0&&Nat.beq j 0&&Nat.beq ti.size (n*l.length) then .ok (.raw undef) (setBlk H h q (.cols n (upCols cs))) 0 [h] else .no
 | .cols n l,v=>(match v.cells with
   |some m=>bif allOne m&&Nat.beq m.length ti.size&&Nat.ble (j+m.length) l.length then (match setCols i j l m with|some r=> .when (i<n) (.raw undef) (setBlk H h q (.cols n r)) 0 [h]|none=> .no) else .no
   |none=> .no)
 | .cells l,v=>(match i,v.cells with
   |0,some m=>bif allOne m&&Nat.beq m.length ti.size&&Nat.ble (j+m.length) l.length then forceL (setMany l j m) (fun l'=> .ok (.raw undef) (setBlk H h q (.cells l')) 0 [h]) else .no
   |_,_=> .no)
 | .obj _,_=> .no
def optInt (vs:VS) (d:Int):Option Operand→Option Int
 |none=>some d
 |some x=>match gv vs x with|some (.int _ n)=>some n|_=>none
def isZero:Option Int→Bool
 |some (.ofNat 0)=>true
 |_=>false
def srcOf (vs:VS) (ti:TI) (x:SV) (F:Nat→List BCol→List Nat→Res):Res:=
 match x with
 | .sl h q i n=>onBlk vs.heap h q (fun _ b=>match b with
   | .cols m l=>bif Nat.beq l.length ti.el then (F n (segs i n l) [h]).guard (i+n≤m) else .no
   |_=> .no)
 | .nsl=>F 0 (zcols 0 ti.ez) []
 | .zsl=>F 0 (zcols 0 ti.ez) []
 | .str s=>bif ti.u8&&Nat.beq ti.el 1 then F s.size [.sc (.ints .u8 (intsOf s))] [] else .no
 |_=> .no
def appendR (vs:VS) (nx:Nat) (ti:TI) (s x:SV):Res:=
 match s with
 | .sl h q i n=>onBlk vs.heap h q (fun ro b=>match ro,b with
   |false,.cols m l=>bif Nat.beq l.length ti.el then srcOf vs ti x (fun n2 l2 t=>match catCols (bif Nat.beq i 0 then l else segs i n l) l2 with
    |some r=> .when (i+n=m∧(n+n2+500)*(ti.eb+1)≤70368744177664) (.sl nx 0 0 (n+n2)) ((nx,some (.one false (.cols (n+n2) r)))::dropBlk vs.heap h q) 1 (h::t)
    |none=> .when (i+n=m∧(n+n2+500)*(ti.eb+1)≤70368744177664) (.sl nx 0 0 (n+n2)) (setBlk vs.heap h q (.cols m l)) 1 (h::t)) else .no
   |_,_=> .no)
 | .nsl=>srcOf vs ti x (fun n2 l2 t=> .when ((n2+500)*(ti.eb+1)≤70368744177664) (.sl nx 0 0 n2) [(nx,some (.one false (.cols n2 l2)))] 1 t)
 | .zsl=>srcOf vs ti x (fun n2 l2 t=> .when ((n2+500)*(ti.eb+1)≤70368744177664) (.sl nx 0 0 n2) [(nx,some (.one false (.cols n2 l2)))] 1 t)
 |_=> .no
def copyR (vs:VS) (ti:TI) (d x:SV):Res:=
 match d with
 | .sl h q i n=>onBlk vs.heap h q (fun ro b=>match ro,b with
   |false,.cols m l=>bif Nat.beq l.length ti.el then srcOf vs ti x (fun n2 l2 t=>match spCols i (min n2 n) l l2 with
    |some r=> .when (i+n≤m) (.int .i64 (min n2 n:Nat)) (setBlk vs.heap h q (.cols m r)) 0 (h::t)
    |none=> .no) else .no
   |_,_=> .no)
 |_=> .no
def Col.cut (i:Nat):Col→Col
 | .ints k l=> .ints k (l.take i)
 | .strs l=> .strs (l.take i)
 | .bools l=> .bools (l.take i)
def BCol.cut (i:Nat):BCol→BCol
 | .sc c=> .sc (c.cut i)
 | .svs l=> .svs (l.take i)
 | .own h ns=> .own h (ns.take i)
 | .ptrs h n=> .ptrs h (min i n)
 | .arrs m k rows=> .arrs m k (rows.take i)
def cutCols (i:Nat):List BCol→List BCol
 | []=> []
 |c::l=>c.cut i::cutCols i l
def clearR (vs:VS) (ti:TI) (s:SV):Res:=
 match s with
 | .sl h q i n=>onBlk vs.heap h q (fun ro b=>match ro,b with
   |false,.cols m l=>bif Nat.beq l.length ti.el then .when (i+n=m) (.tup []) (setBlk vs.heap h q (.cols i (cutCols i l))) 0 [h] else .no
   |_,_=> .no)
 |_=> .no
def sliceR (vs:VS) (ti:TI) (x:SV) (lo hi mx:Option Operand):Res:=
 match x with
 | .str s=>(match Nat.beq ti.kind 3,mx,optInt vs 0 lo,optInt vs s.size hi with
   |true,none,some l,some h=> .when (0≤l∧l≤h∧h≤(s.size:Int)) (.str (s.extract l.toNat h.toNat)) [] 0 []
   |_,_,_,_=> .no)
 | .sl hd q i n=>(match Nat.beq ti.kind 6&& !Nat.beq ti.el 0,optInt vs 0 lo,optInt vs n hi,optInt vs n mx,mx,hi with
   |true,some l,some h,some m,some _,some _=>bif isZero (some h)&&isZero (some m) then .when (l=0) .zsl [] 0 [] else onBlk vs.heap hd q (fun _ b=>bif Nat.beq b.es ti.el then .when (0≤l∧l≤h∧h≤m∧m≤(n:Int)) (.sl hd q (l.toNat+i) (h.toNat-l.toNat)) [] 0 [hd] else .no)
   |true,some l,some h,_,none,_=>onBlk vs.heap hd q (fun _ b=>bif Nat.beq b.es ti.el then .when (0≤l∧l≤h∧h≤(n:Int)) (.sl hd q (l.toNat+i) (h.toNat-l.toNat)) [] 0 [hd] else .no)
   |_,_,_,_,_,_=> .no)
 | .nsl=>(match Nat.beq ti.kind 6&& !Nat.beq ti.el 0,optInt vs 0 lo,optInt vs 0 hi,mx with
   |true,some l,some h,none=> .when (l=0∧h=0) .nsl [] 0 []
   |_,_,_,_=> .no)
 | .ptr hd q 0 0=>(match Nat.beq ti.kind 5&& !Nat.beq ti.el 0,optInt vs 0 lo,optInt vs ti.len hi,mx with
   |true,some l,some h,none=>onBlk vs.heap hd q (fun _ b=>match b with
    | .cols n cs=>bif Nat.beq n ti.len&&Nat.beq cs.length ti.el then .when (0≤l∧l≤h∧h≤(ti.len:Int)) (.sl hd q l.toNat (h.toNat-l.toNat)) [] 0 [hd] else .no
    |_=> .no)
   |_,_,_,_=> .no)
 |_=> .no
def convR (vs:VS) (nx:Nat) (a b:TI) (x:SV):Res:=
 match x with
 | .int _ n=>bif Nat.beq b.kind 2 then .one (.int b.ik (b.ik.wrap n)) else .no
 | .str s=>bif Nat.beq b.kind 3 then .one (.str s) else bif b.u8&&Nat.beq b.el 1 then .ok (.sl nx 0 0 s.size) [(nx,some (.one false (.cols s.size [.sc (.ints .u8 (intsOf s))])))] 1 [] else .no
 | .sl h q i n=>bif Nat.beq b.kind 3&&a.u8 then onBlk vs.heap h q (fun _ bl=>match bl with
   | .cols m [.sc (.ints .u8 l)]=> .when (i+n≤m) (.str (bytesOf (seg i n l))) [] 0 [h]
   |_=> .no) else .no
 |_=> .no
def newR (nx:Nat) (b:Blk):Res:= .ok (.ptr nx 0 0 0) [(nx,some (.one false b))] 1 []
def allocR (nx:Nat) (ti:TI):Res:=
 bif ti.zero.isEmpty|| !allOne ti.zero then .no else bif Nat.beq ti.kind 5&& !ti.zc.isEmpty&&Nat.beq ti.zero.length (ti.len*ti.el) then newR nx (.cols ti.len (upCols ti.zc)) else newR nx (.cells ti.zero)
def bldR (nx t:Nat) (ti:TI):Res:=
 match ti.zero with
 | [.nptr,.nsl]=> .ok (.ptr nx 0 0 0) [(nx,some (.one false (.obj (.bld0 t))))] 1 []
 |_=> .no
def boxR (nx:Nat) (ti:TI) (v:SV):Res:=
 match v with
 | .arr n cs=>newR nx (.cols n (upCols cs))
 | .agg l=>bif !allOne l then .no else bif Nat.beq ti.kind 5 then (match colsOf ti.el l with|some cs=>bif Nat.beq (ti.len*ti.el) l.length then newR nx (.cols ti.len (upCols cs)) else .no|none=>newR nx (.cells l)) else newR nx (.cells l)
 |v=>bif v.one then newR nx (.cells [v]) else .no
def sidx:List ByteArray→ByteArray→Nat
 | [],_=>0
 |x::l,s=>bif seq x s then 0 else sidx l s+1
def iidx:List Int→Int→Nat
 | [],_=>0
 |x::l,s=>bif decide (x=s) then 0 else iidx l s+1
def sidx2:List ByteArray→List ByteArray→ByteArray→ByteArray→Nat
 |x::l,y::m,s,t=>bif seq x s&&seq y t then 0 else sidx2 l m s t+1
 |_,_,_,_=>0
def keyIdx (ti:TI) (ka:Bool) (ks:List Col) (key:SV):Option Nat:=
 match ka,ks,key with
 |false,[.strs l],.str s=>bif Nat.beq ti.len 3 then some (sidx l s) else none
 |false,[.ints k l],.int p x=>bif Nat.beq ti.len 2&&ikEq p k&&ikEq p ti.ik then some (iidx l x) else none
 |true,[.strs l,.strs m],.agg [.str s,.str t]=>(match ti.flat with| [3,3]=>some (sidx2 l m s t)|_=>none)
 |_,_,_=>none
def putL {α:Type} (i:Nat) (x:α) (l:List α):List α:=if i<l.length then l.set i x else l++ [x]
def putCol (i:Nat):Col→SV→Option Col
 | .ints k l,.int p x=>bif ikEq p k then some (.ints k (putL i x l)) else none
 | .strs l,.str s=>some (.strs (putL i s l))
 | .bools l,.bool b=>some (.bools (putL i b l))
 |_,_=>none
def putKeys (i:Nat):List Col→List SV→Option (List Col)
 | [],[]=>some []
 |c::l,v::m=>match putCol i c v,putKeys i l m with
  |some d,some r=>some (d::r)
  |_,_=>none
 |_,_=>none
def putVal (i:Nat):BCol→SV→Option BCol
 | .sc c,v=>(match putCol i c v with|some d=>some (.sc d)|none=>none)
 | .svs l,v=>some (.svs (putL i v l))
 | .own h ns,v=>some (.svs (putL i v (ownL h ns)))
 | .ptrs h n,v=>some (.svs (putL i v (ptrL h n)))
 | .arrs n k rows,.arr m [.ints p x]=>bif Nat.beq m n&&ikEq p k then some (.arrs n k (putL i x rows)) else none
 | .arrs _ _ _,_=>none
def putVals (i:Nat):List BCol→List SV→Option (List BCol)
 | [],[]=>some []
 |c::l,v::m=>match putVal i c v,putVals i l m with
  |some d,some r=>some (d::r)
  |_,_=>none
 |_,_=>none
def isArr:SV→Bool
 | .arr _ _=>true
 |_=>false
def aggCells (ag:Bool) (v:SV):Option (List SV):=
 match ag,v with
 |true,.agg l=>some l
 |true,_=>none
 |false,v=>bif v.one||isArr v then some [v] else none
def zOk:List BCol→List SV→Bool
 | [],[]=>true
 | .sc (.ints k _)::l,.int p x::m=>ikEq p k&&isZero (some x)&&zOk l m
 | .sc (.strs _)::l,.str s::m=>Nat.beq s.size 0&&zOk l m
 | .sc (.bools _)::l,.bool false::m=>zOk l m
 |_,_=>false
def allIntZ (k:IntKind):List SV→Bool
 | []=>true
 | .int p x::l=>ikEq p k&&isZero (some x)&&allIntZ k l
 |_=>false
def arrZ (ea ega:Bool) (vl:List BCol) (ez:List SV):Bool:=
 match ea,ega,vl with
 |false,true,[.arrs n k _]=>Nat.beq n ez.length&&allIntZ k ez
 |_,_,_=>false
def ownZ:List BCol→List SV→Bool
 | [.own _ _],[.nsl]=>true
 | [.ptrs _ _],[.nptr]=>true
 |_,_=>false
def zeroS (ti:TI):Option SV:=
 match ti.ega,ti.ez with
 |true,l=>some (.agg l)
 |false,[v]=>some v
 |false,_=>none
def foundS (ea:Bool) (n:Nat) (vl:List BCol) (i:Nat):SV:=
 match ea,vl with
 |false,[.own h ns]=>bif decide (i<n) then .sl h i 0 (ns.getD i 0) else .nsl
 |false,[.ptrs h _]=>bif decide (i<n) then .ptr h i 0 0 else .nptr
 |ea,vl=>elemS ea vl i
def commaS (co:Bool) (v:SV) (b:Bool):SV:=bif co then .tup [v,.bool b] else v
def lookupR (vs:VS) (ti:TI) (m key:SV) (co:Bool):Res:=
 match m with
 | .nmap=>(match zeroS ti with
   |some z=>bif !ti.bld then .no else (match keyIdx ti (!Nat.beq ti.len 3&& !Nat.beq ti.len 2) (bif Nat.beq ti.len 3 then [.strs []] else bif Nat.beq ti.len 2 then [.ints ti.ik []] else [.strs [],.strs []]) key with|some _=> .ok (commaS co z false) [] 0 []|none=> .no)
   |none=> .no)
 | .map h q=>onBlk vs.heap h q (fun _ b=>match b with
   | .obj (.map ka ea n ks vl _ _)=>(match keyIdx ti ka ks key with
     |some i=>bif ti.bld&&(((zOk vl ti.ez||(!ea&&ownZ vl ti.ez))&&(match ea,ti.ega with|true,true=>true|false,false=>true|_,_=>false))||arrZ ea ti.ega vl ti.ez) then .ok (commaS co (foundS ea n vl i) (decide (i<n))) [] 0 [h] else .no
     |none=> .no)
   |_=> .no)
 |_=> .no
def updateR (vs:VS) (ti:TI) (m key v:SV):Res:=
 match m with
 | .map h q=>onBlk vs.heap h q (fun ro b=>match ro,b with
   |false,.obj (.map ka ea n ks vl bs ck)=>(match keyIdx ti ka ks key,aggCells ka key,aggCells ea v with
    |some i,some kc,some vc=>(match putKeys i ks kc,putVals i vl vc with
     |some ks',some vl'=> .ok (.raw undef) (setBlk vs.heap h q (.obj (.map ka ea (if i<n then n else n+1) ks' vl' (if i<n then bs else bs++ [ck]) (if i<n then ck else ck+1)))) 0 [h]
     |_,_=> .no)
    |_,_,_=> .no)
   |_,_=> .no)
 |_=> .no
def mapEntryR (vs:VS) (ti:TI) (m key:SV):Res:=
 match m with
 | .map h q=>onBlk vs.heap h q (fun ro b=>match ro,b with
   |false,.obj (.map ka ea n ks vl bs ck)=>(match keyIdx ti ka ks key,aggCells ka key with
    |some i,some kc=>(match aggCells ea (elemS ea vl i) with
     |some vc=>(match putKeys i ks kc,putVals i vl vc with
      |some ks',some vl'=>bif ti.bld&&zOk vl ti.ez&&(match ea,ti.ega with|true,true=>true|false,false=>true|_,_=>false) then .ok (.tup [elemS ea vl i,.int .i64 ((if i<n then bs.getD i 0 else ck:Nat):Int)]) (setBlk vs.heap h q (.obj (.map ka ea (if i<n then n else n+1) ks' vl' (if i<n then bs else bs++ [ck]) (if i<n then ck else ck+1)))) 0 [h] else .no
      |_,_=> .no)
     |none=> .no)
    |_,_=> .no)
   |_,_=> .no)
 |_=> .no
def entryStoreR (vs:VS) (m st v:SV):Res:=
 match m,st with
 | .map h q,.int .i64 b=>onBlk vs.heap h q (fun ro bl=>match ro,bl with
   |false,.obj (.map ka ea n ks vl bs ck)=>(match aggCells ea v with
    |some vc=>(match putVals (bs.idxOf b.toNat) vl vc with
     |some vl'=> .when (0≤b∧b.toNat∈bs) (.raw undef) (setBlk vs.heap h q (.obj (.map ka ea n ks vl' bs ck))) 0 [h]
     |none=> .no)
    |none=> .no)
   |_,_=> .no)
 |_,_=> .no
def delCol (i:Nat):Col→Col
 | .ints k l=> .ints k (l.eraseIdx i)
 | .strs l=> .strs (l.eraseIdx i)
 | .bools l=> .bools (l.eraseIdx i)
def delCols (i:Nat):List Col→List Col
 | []=> []
 |c::l=>delCol i c::delCols i l
def delVal (i:Nat):BCol→BCol
 | .sc c=> .sc (delCol i c)
 | .svs l=> .svs (l.eraseIdx i)
 | .own h ns=>if i<ns.length then .svs ((ownL h ns).eraseIdx i) else .own h ns
 | .ptrs h n=>if i<n then .svs ((ptrL h n).eraseIdx i) else .ptrs h n
 | .arrs n k rows=> .arrs n k (rows.eraseIdx i)
def delVals (i:Nat):List BCol→List BCol
 | []=> []
 |c::l=>delVal i c::delVals i l
def deleteR (vs:VS) (ti:TI) (m key:SV):Res:=
 match m with
 | .map h q=>onBlk vs.heap h q (fun ro b=>match ro,b with
   |false,.obj (.map ka ea n ks vl bs ck)=>(match keyIdx ti ka ks key with
    |some i=> .ok (.tup []) (setBlk vs.heap h q (.obj (.map ka ea (if i<n then n-1 else n) (delCols i ks) (delVals i vl) (bs.eraseIdx i) ck))) 0 [h]
    |none=> .no)
   |_,_=> .no)
 |_=> .no
def mapCols (ti:TI):Bool×List BCol:=
 match ti.eag,ti.ez with
 |true,.int k _::_=>(false,[.arrs ti.ez.length k []])
 |_,_=>(ti.ega,zcols 0 ti.ez)
def makeMapR (nx:Nat) (ti:TI):Res:=
 match ti.len,ti.flat with
 |3,_=> .ok (.map nx 0) [(nx,some (.one false (.obj (.map false (mapCols ti).1 0 [.strs []] (mapCols ti).2 [] 0))))] 1 []
 |2,_=> .ok (.map nx 0) [(nx,some (.one false (.obj (.map false (mapCols ti).1 0 [.ints ti.ik []] (mapCols ti).2 [] 0))))] 1 []
 |0,[3,3]=> .ok (.map nx 0) [(nx,some (.one false (.obj (.map true (mapCols ti).1 0 [.strs [],.strs []] (mapCols ti).2 [] 0))))] 1 []
 |_,_=> .no
def strMin (a b:ByteArray):ByteArray:=if (strLt a b||seq a b)=true then a else b
def strMax (a b:ByteArray):ByteArray:=if (!strLt a b)=true then a else b
def rangeR (vs:VS) (nx:Nat) (ti:TI) (m:SV):Res:=
 match m with
 | .str s=>bif Nat.beq ti.kind 3 then .ok (.ptr nx 0 0 0) [(nx,some (.one false (.obj (.siter s 0))))] 1 [] else .no
 | .nmap=>bif Nat.beq ti.kind 8 then .ok (.ptr nx 0 0 0) [(nx,some (.one false (.obj .niter)))] 1 [] else .no
 | .map h q=>bif Nat.beq ti.kind 8 then onBlk vs.heap h q (fun _ b=>match b with
   | .obj (.map _ _ _ _ _ bs ck)=> .ok (.ptr nx 0 0 0) [(nx,some (.one false (.obj (.iter h q bs ck []))))] 1 [h]
   |_=> .no) else .no
 |_=> .no
def keyS (ka:Bool) (ks:List Col) (i:Nat):SV:=
 match ka,ks with
 |true,ks=> .agg (colsAt ks i)
 |false,[c]=>c.at i
 |false,_=> .unk
def entryR (vs:VS) (it:SV):Res:=
 match it with
 | .ptr h 0 0 0=>onBlk vs.heap h 0 (fun _ b=>match b with
   | .obj (.iter hm qm bs ck (i::_))=>onBlk vs.heap hm qm (fun _ b2=>match b2 with
     | .obj (.map ka ea n ks vl bs2 ck2)=> .when (bs2=bs∧ck2=ck∧i<n) (.tup [keyS ka ks i,elemS ea vl i]) [] 0 [h,hm]
     |_=> .no)
   |_=> .no)
 |_=> .no
def eff (T:Tab) (vs:VS) (nx:Nat) (op:Op):Res:=
 match op with
 | .move x=>match gv vs x with|some v=> .one v|none=> .no
 | .assign x=>match gv vs x with|some v=> .one v|none=> .no
 | .nilCheck x=>match gv vs x with
   |some (.ptr h q i j)=> .one (.ptr h q i j)
   |some (.fn f l)=> .one (.fn f l)
   |some (.iface t v)=> .one (.iface t v)
   |_=> .no
 | .pick c x y=>match gv vs c with
   |some (.bool true)=>(match gv vs x with|some v=> .one v|none=> .no)
   |some (.bool false)=>(match gv vs y with|some v=> .one v|none=> .no)
   |_=> .no
 | .binOp op t x y _=>match gv vs x,gv vs y with
   |some a,some b=>binK T op t (isC x||isC y) a b
   |_,_=> .no
 | .unOp op _ x=>match op,gv vs x with
   | .not,some (.bool b)=> .one (.bool (!b))
   | .neg,some (.int k n)=> .one (.int k (k.wrap (0-n)))
   | .xor,some (.int k n)=> .one (.int k (icom k n))
   |_,_=> .no
 | .fieldAddr s x f=>match gv vs x,aget T s with
   |some (.ptr h q i j),some ti=>bif !Nat.beq ti.kind 4 then .no else (match nth ti.fields f with
    |some (o,n,_)=>bif Nat.beq n 0 then .no else .one (.ptr h q i (j+o))
    |none=> .no)
   |_,_=> .no
 | .field s x f=>match gv vs x,aget T s with
   |some (.agg l),some ti=>bif !Nat.beq ti.kind 4 then .no else (match nth ti.fields f with
    |some (o,n,ag)=>bif Nat.beq n 0 then .no else bif ag then (match takeN n (dropN o l) with|some r=> .one (.agg r)|none=> .no) else (match nth l o with|some v=> .one v|none=> .no)
    |none=> .no)
   |_,_=> .no
 | .load t x=>match gv vs x,aget T t with
   |some (.ptr h q i j),some ti=>onBlk vs.heap h q (fun _ b=>loadV b i j ti h)
   |_,_=> .no
 | .store t x y=>match gv vs x,gv vs y,aget T t with
   |some (.ptr h q i j),some v,some ti=>onBlk vs.heap h q (fun ro b=>bif ro then .no else storeV vs.heap h q i j v ti b)
   |_,_,_=> .no
 | .extract x ix=>match gv vs x with
   |some (.tup l)=>(match nth l ix with|some v=> .one v|none=> .no)
   |_=> .no
 | .index t x ix=>match gv vs x,gv vs ix,aget T t with
   |some (.str s),some (.int _ i),some ti=>bif Nat.beq ti.kind 3 then .when (0≤i∧i<(s.size:Int)) (.int .u8 (byteAt s i)) [] 0 [] else .no
   |some (.arr n [c]),some (.int _ i),some ti=>bif Nat.beq ti.kind 5&&Nat.beq ti.el 1&& !ti.eag&&Nat.beq n ti.len then .when (0≤i∧i<(ti.len:Int)) (c.at i.toNat) [] 0 [] else .no
   |some (.arr n cs),some (.int _ i),some ti=>bif Nat.beq ti.kind 5&&Nat.beq ti.el cs.length&&ti.ega&&Nat.beq n ti.len&& !Nat.beq ti.el 0 then .when (0≤i∧i<(ti.len:Int)) (.agg (colsAt cs i.toNat)) [] 0 [] else .no
   |_,_,_=> .no
 | .indexAddr t x ix=>match gv vs x,gv vs ix,aget T t with
   |some (.sl h q i n),some (.int _ m),some ti=>bif !Nat.beq ti.kind 6 then .no else onBlk vs.heap h q (fun _ b=>bif Nat.beq b.es ti.el&& !Nat.beq ti.el 0 then .when (0≤m∧m<(n:Int)) (.ptr h q (m.toNat+i) 0) [] 0 [h] else .no)
   |some (.ptr h q 0 0),some (.int _ m),some ti=>bif !Nat.beq ti.kind 5 then .no else onBlk vs.heap h q (fun _ b=>match b with
    | .cols n l=>bif Nat.beq n ti.len&&Nat.beq l.length ti.el&& !Nat.beq ti.el 0 then .when (0≤m∧m<(ti.len:Int)) (.ptr h q m.toNat 0) [] 0 [h] else .no
    |_=> .no)
   |_,_,_=> .no
 | .build t parts=>match aget T t with
   |some ti=>bif ti.bld&& !Nat.beq ti.kind 8 then (match buildL vs ti.place parts.toList ti.zero with
    |some l=>bif Nat.beq ti.kind 5 then (match colsOf ti.el l with|some cs=>bif Nat.beq (ti.len*ti.el) l.length then .one (.arr ti.len cs) else .no|none=> .one (.agg l)) else .one (.agg l)
    |none=> .no) else .no
   |none=> .no
 | .buildSlice t len parts=>match aget T t with
   |some ti=>bif Nat.beq ti.kind 6&&Nat.beq ti.ez.length ti.el&& !Nat.beq ti.el 0&&Nat.ble (len*ti.el) 16777216 then (match buildL vs (fun i=>some (i*ti.el,ti.el)) parts.toList (List.replicate len ti.ez).flatten with
    |some l=>bif allOne l&&Nat.beq l.length (len*ti.el) then .ok (.sl nx 0 0 len) [(nx,some (.one false (.cols len (bif Nat.beq len 0 then zcols 0 ti.ez else bcolsFrom ti.el l 0 ti.el))))] 1 [] else .no
    |none=> .no) else .no
   |none=> .no
 | .makeSlice t x y=>match gv vs x,gv vs y,aget T t with
   |some (.int _ l),some (.int _ c),some ti=>bif Nat.beq ti.kind 6&&allOne ti.ez&&Nat.beq ti.ez.length ti.el&& !Nat.beq ti.el 0 then .when (0≤l∧l≤c∧c*((ti.eb:Int)+1)≤281474976710656) (.sl nx 0 0 l.toNat) [(nx,some (.one false (.cols l.toNat (zcols l.toNat ti.ez))))] 1 [] else .no
   |_,_,_=> .no
 | .slice t x lo hi mx=>match gv vs x,aget T t with
   |some v,some ti=>sliceR vs ti v lo hi mx
   |_,_=> .no
 | .alloc t=>match aget T t with
   |some ti=>bif Nat.beq ti.kind 4&&Nat.beq ti.len 1 then bldR nx t ti else allocR nx ti
   |none=> .no
 | .box t x=>match gv vs x,aget T t with
   |some v,some ti=>boxR nx ti v
   |_,_=> .no
 | .makeFunc (.func f) first captured=>match first.toList,gvs vs captured.toList with
   | [],some l=> .one (.fn f l)
   |_,_=> .no
 | .makeInterface t x=>match gv vs x,aget T t with
   |some v,some ti=>bif Nat.beq ti.kind 9 then .no else .one (.iface t v)
   |_,_=> .no
 | .call { callee:= .builtin b,args:=args,argTypes:=ts}=>match b,args.toList with
   | .len,[x]=>(match ts.toList with
     | [t]=>(match gv vs x,aget T t with
       |some (.str s),some ti=>bif Nat.beq ti.kind 3 then .one (.int .i64 (s.size:Int)) else .no
       |some (.sl _ _ _ n),some ti=>bif Nat.beq ti.kind 6 then .one (.int .i64 (n:Int)) else .no
       |some .nsl,some ti=>bif Nat.beq ti.kind 6 then .one (.int .i64 0) else .no
       |some .zsl,some ti=>bif Nat.beq ti.kind 6 then .one (.int .i64 0) else .no
       |some .nmap,some ti=>bif Nat.beq ti.kind 8 then .one (.int .i64 0) else .no
       |some (.map h q),some ti=>bif Nat.beq ti.kind 8 then onBlk vs.heap h q (fun _ b=>match b with| .obj (.map _ _ n _ _ _ _)=> .ok (.int .i64 (n:Int)) [] 0 [h]|_=> .no) else .no
       |_,_=> .no)
     |_=> .no)
   | .delete,[x,y]=>(match ts.toList with
     |t::_=>(match gv vs x,gv vs y,aget T t with
      |some m,some k,some ti=>bif Nat.beq ti.kind 8 then deleteR vs ti m k else .no
      |_,_,_=> .no)
     |_=> .no)
   | .clear,[x]=>(match ts.toList with
     |t::_=>(match gv vs x,aget T t with
      |some s,some ti=>bif Nat.beq ti.kind 6&&allOne ti.ez&&Nat.beq ti.ez.length ti.el&& !Nat.beq ti.el 0 then clearR vs ti s else .no
      |_,_=> .no)
     |_=> .no)
   | .min,[x,y]=>(match gv vs x,gv vs y with
     |some (.int p a),some (.int q b)=>bif ikEq p q then .one (.int p (min a b)) else .no
     |some (.str a),some (.str b)=> .one (.str (strMin a b))
     |_,_=> .no)
   | .max,[x,y]=>(match gv vs x,gv vs y with
     |some (.int p a),some (.int q b)=>bif ikEq p q then .one (.int p (max a b)) else .no
     |some (.str a),some (.str b)=> .one (.str (strMax a b))
     |_,_=> .no)
   | .append,[x,y]=>(match ts.toList with
     | [t,t2]=>(match gv vs x,gv vs y,aget T t,aget T t2 with
       |some s,some v,some ti,some ti2=>bif Nat.beq ti.kind 6&&allOne ti.ez&&Nat.beq ti.ez.length ti.el&& !Nat.beq ti.el 0&&(Nat.beq ti2.kind 6||Nat.beq ti2.kind 3) then appendR vs nx ti s v else .no
       |_,_,_,_=> .no)
     |_=> .no)
   | .copy,[x,y]=>(match ts.toList with
     |t::_=>(match gv vs x,gv vs y,aget T t with
      |some s,some v,some ti=>bif Nat.beq ti.kind 6&&Nat.beq ti.ez.length ti.el&& !Nat.beq ti.el 0 then copyR vs ti s v else .no
      |_,_,_=> .no)
     |_=> .no)
   |_,_=> .no
 | .convert src dst x=>match gv vs x,aget T src,aget T dst with
   |some v,some a,some b=>convR vs nx a b v
   |_,_,_=> .no
 | .makeMap t none=>match aget T t with
   |some ti=>bif Nat.beq ti.kind 8 then makeMapR nx ti else .no
   |none=> .no
 | .lookup t x ix co=>match gv vs x,gv vs ix,aget T t with
   |some m,some k,some ti=>bif Nat.beq ti.kind 8 then lookupR vs ti m k co else .no
   |_,_,_=> .no
 | .mapUpdate t x ix y=>match gv vs x,gv vs ix,gv vs y,aget T t with
   |some m,some k,some v,some ti=>bif Nat.beq ti.kind 8 then updateR vs ti m k v else .no
   |_,_,_,_=> .no
 | .mapEntry t x ix=>match gv vs x,gv vs ix,aget T t with
   |some m,some k,some ti=>bif Nat.beq ti.kind 8 then mapEntryR vs ti m k else .no
   |_,_,_=> .no
 | .entryStore _ x y z=>match gv vs x,gv vs y,gv vs z with
   |some m,some k,some v=>entryStoreR vs m k v
   |_,_,_=> .no
 | .range t x=>match gv vs x,aget T t with
   |some m,some ti=>rangeR vs nx ti m
   |_,_=> .no
 | .entry x=>match gv vs x with
   |some v=>entryR vs v
   |none=> .no
 |_=> .no
def kindOf:TypeDesc→Nat
 | .bool=>1
 | .int _=>2
 | .string=>3
 | .struct _=>4
 | .array _ _=>5
 | .slice _=>6
 | .pointer _=>7
 | .map _ _=>8
 | .interface _=>9
 |_=>0
def aggB (P:Program) (t:TypeId):Bool:=
 match P.underlying t with
 |some (.struct _)=>true
 |some (.array _ _)=>true
 |_=>false
def nagB (P:Program) (t:TypeId):Bool:=
 match P.underlying t with
 |some (.struct _)=>false
 |some (.array _ _)=>false
 |some _=>true
 |none=>false
def fsz (P:Program) (t:TypeId):Nat:=
 match P.underlying t with
 |some _=>P.cellsOf t
 |none=>0
def scalarK (P:Program) (t:TypeId):Nat:=
 match P.underlying t with
 |some .bool=>1
 |some (.int _)=>2
 |some .string=>3
 |_=>0
def flatFrom (P:Program):Nat→List Field→Option (List Nat)
 |_,[]=>some []
 |i,f::r=>bif (f.name !="_")&& !Nat.beq (scalarK P f.type) 0&&(f.offset==i) then (match flatFrom P (i+1) r with|some l=>some (scalarK P f.type::l)|none=>none) else none
def flatIn (P:Program) (t:TypeId):Option (List Nat):=
 match P.underlying t with
 |some (.struct fs)=>bif !P.stoodInHeld t then (match flatFrom P 0 fs.toList with|some ks=>bif Nat.beq (P.cellsOf t) ks.length then some ks else none|none=>none) else none
 |_=>none
def flatN (P:Program):Nat→List Field→Option (List Nat)
 |_,[]=>some []
 |i,f::r=>bif (f.name !="_")&&(f.offset==i) then
   (bif !Nat.beq (scalarK P f.type) 0 then (match flatN P (i+1) r with|some l=>some (scalarK P f.type::l)|none=>none)
    else match flatIn P f.type with
     |some ks=>(match flatN P (i+ks.length) r with|some l=>some (ks++l)|none=>none)
     |none=>none) else none
def zshape (P:Program) (e:TypeId):Bool:=
 match P.info? e with
 |some i=>(match i.zero with
  |some (.agg _)=>aggB P e
  |some (.tuple _)=>false
  |some _=> !aggB P e
  |none=>false)
 |none=>false
def bldB (P:Program):TypeDesc→Bool
 | .map _ e=>zshape P e
 | .struct fs=>fs.toList.all (fun f=>(P.info? f.type).isSome&&(P.underlying f.type).isSome)
 | .array _ e=>(P.info? e).isSome
 |_=>false
def zeroOf (P:Program) (t:TypeId):List SV:=
 match P.info? t with
 |some i=>(match i.zero with|some z=>z.cells.toList.map cv|none=> [])
 |none=> []
def tiOf (P:Program) (t:TypeId):Option TI:=
 match P.info? t,P.underlying t with
 |some i,some d=>some {
   size:=i.size
   kind:=kindOf d
   zero:=zeroOf P t
   zc:=match d with| .array _ e=>(match colsOf (P.cellsOf e) (zeroOf P t) with|some cs=>cs|none=> [])|_=> []
   fields:=match d with| .struct fs=>fs.toList.map (fun f=>(f.offset,fsz P f.type,aggB P f.type))|_=> []
   ik:=match d with| .int k=>k| .map k _=>(match P.underlying k with|some (.int x)=>x|_=> .i64)|_=> .i64
   el:=match d with| .slice e=>P.cellsOf e| .array _ e=>P.cellsOf e| .map _ e=>P.cellsOf e|_=>0
   len:=match d with| .array n _=>n| .map k _=>scalarK P k| .struct _=>bif i.str=="strings.Builder" then 1 else 0|_=>0
   eag:=match d with| .array _ e=> !nagB P e| .map _ e=>(match P.underlying e with|some (.array _ _)=>true|_=>false)|_=>false
   ez:=match d with| .slice e=>zeroOf P e| .map _ e=>zeroOf P e|_=> []
   eb:=match d with| .slice e=>(match P.info? e with|some x=>x.bytes|none=>0)|_=>0
   flat:=match d with| .struct fs=>bif !P.stoodInHeld t&& !P.eqGuardType P.depth t then (flatN P 0 fs.toList).getD [] else []| .map k _=>(match P.underlying k with|some (.struct fs)=>bif !P.stoodInHeld k&& !P.eqGuardType P.depth k then (flatFrom P 0 fs.toList).getD [] else []|_=> [])| .array _ e=>bif !P.eqGuardType P.depth t&&Nat.beq (scalarK P e) 2&&Nat.beq (P.cellsOf e) 1 then [2] else []|_=> []
   bld:=i.zero.isSome&&bldB P d
   u8:=match d with| .slice e=>(match P.underlying e with|some (.int .u8)=>true|_=>false)|_=>false
   ega:=match d with| .slice e=>aggB P e| .array _ e=>aggB P e| .map _ e=>aggB P e|_=>false}
 |_,_=>none
def TabOk (P:Program) (T:Tab):Prop:=∀t ti,aget T t=some ti→tiOf P t=some ti
theorem tabOk_of (P:Program) (T:Tab) (h:T.map (fun p=>tiOf P p.1)=T.map (fun p=>some p.2)):TabOk P T:=by
 intro t ti
 induction T with
 |nil=>intro h;cases h
 |cons p r ih=>
  obtain ⟨k,x⟩:=p
  simp only [List.map_cons,List.cons.injEq] at h
  intro ha
  simp only [aget] at ha
  cases hb:Nat.beq k t with
  |true=>rw [hb] at ha;simp only [cond_true,Option.some.injEq] at ha;rw [←ha,←Nat.eq_of_beq_eq_true hb];exact h.1
  |false=>rw [hb] at ha;exact ih h.2 ha
end Go.Sy
