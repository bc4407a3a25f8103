/- Several texts in one: YDef YVc YS1 YS2 YS3 YS4 YS5 YS6 YS7 YS8 YS9 YS10 YS11. -/
import Derived.WalkKit
import Derived.Below
import Derived.ChangeKeysEq
import Derived.IntWalk
set_option linter.unusedVariables false
set_option linter.unusedSimpArgs false
open Option.some (injEq)
namespace Go.Sy
abbrev m0b:=@List.getElem?_eq_getElem
abbrev m0c:=@Nat.le_refl
abbrev n0M:=@Bool.and_eq_true
abbrev q0d:=@Nat.eq_of_beq_eq_true
abbrev s0c:=@List.length_append
abbrev a1X:=@List.getElem?_eq_none
abbrev b1f:=@Nat.zero_le
abbrev b1g:=@Result.andThen_ok
abbrev e1S:=@List.getElem?_append_left
abbrev f1I:=@List.mem_cons
abbrev f1K:=@List.getElem?_append_right
abbrev f1P:=@Array.getElem?_eq_getElem
abbrev f1Q:=@List.getElem?_map
abbrev i1B:=@Nat.lt_or_ge
abbrev i1y:=@List.length_cons
abbrev i1z:=@Nat.zero_add
abbrev k1h:=@Sem.run_bind
abbrev k1k:=@Option.map_some
abbrev k1p:=@List.cons_append
abbrev k1q:=@List.mem_append
abbrev m1S:=@Nat.eq_zero_or_pos
abbrev n1s:=@Bool.not_eq_true'
abbrev n1w:=@List.map_cons
abbrev n1x:=@Sem.run_pure
abbrev p1O:=@List.length_take
abbrev q1j:=@Nat.add_zero
abbrev r1T:=@List.getElem?_take
abbrev r1U:=@List.mem_map
abbrev r1W:=@Array.length_toList
abbrev r1X:=@Nat.mul_le_mul_right
abbrev r1Y:=@Array.getElem?_modify
abbrev s1B:=@List.getElem_of_mem
abbrev s1C:=@Nat.le_of_ble_eq_true
abbrev s1E:=@List.all_eq_true
abbrev s1G:=@Bool.or_eq_true
abbrev s1H:=@Array.getElem?_toList
abbrev s1J:=@List.getElem?_range
abbrev s1L:=@List.nil_append
abbrev s1M:=@List.length_nil
abbrev s1R:=@Array.toList_append
abbrev s1S:=@Bool.true_and
abbrev s1T:=@List.append_assoc
abbrev s1U:=@ByteArray.data_extract
abbrev s1X:=@Bool.false_eq_true
abbrev s1d:=@List.mem_of_getElem?
abbrev s1h:=@List.getElem?_set
abbrev s1i:=@Array.getElem?_append_left
abbrev s1j:=@Nat.lt_of_lt_of_le
abbrev s1k:=@List.getElem?_drop
abbrev s1l:=@Array.eq_empty_of_size_eq_zero
abbrev s1q:=@Option.isSome_iff_exists
abbrev s1u:=@Nat.mod_eq_of_lt
abbrev s1v:=@List.length_drop
abbrev s1w:=@Nat.lt_irrefl
abbrev s1y:=@List.mem_range
abbrev t1B:=@Nat.lt_trichotomy
abbrev t1J:=@Nat.mod_lt
abbrev t1M:=@List.getElem?_cons_succ
abbrev t1N:=@Array.getElem?_push_lt
abbrev t1R:=@Nat.div_lt_iff_lt_mul
abbrev t1X:=@Nat.mul_assoc
abbrev t1e:=@Nat.zero_mul
abbrev t1m:=@Nat.mul_comm
abbrev t1r:=@Array.getElem?_setIfInBounds_ne
abbrev t1w:=@Option.map_eq_some_iff
abbrev t1y:=@Array.size_append
abbrev u1A:=@List.drop_drop
abbrev u1B:=@List.getElem?_toArray
abbrev u1F:=@List.ext_getElem
abbrev u1G:=@Nat.div_eq_of_lt
abbrev u1O:=@Nat.mul_one
abbrev u1P:=@ByteArray.toList_eq
abbrev u1Q:=@List.take_succ_cons
abbrev u1W:=@List.length_eq_zero_iff
abbrev u1Z:=@Array.getElem?_eq_none
abbrev u1f:=@World.cell?_of_block
abbrev u1g:=@Nat.div_add_mod
abbrev u1j:=@List.replicate_succ
abbrev u1k:=@Nat.mul_le_mul_left
end Go.Sy
namespace Go.Sy
open Go.RowKit
structure Base where
 blk:Nat
 off:Nat
 es:Nat
 cap:Nat
abbrev G:=Nat->Nat->Option Base
def Base.addr (β:Base) (i j:Nat):Addr:=⟨β.blk,β.off+i*β.es+j,none⟩
inductive Col where
 |ints (k:IntKind) (l:List Int)
 |strs (l:List ByteArray)
 |bools (l:List Bool)
inductive SV where
 |bool (b:Bool)
 |int (k:IntKind) (n:Int)
 |str (s:ByteArray)
 |ptr (h q i j:Nat)
 |nptr
 |sl (h q i n:Nat)
 |nsl
 |zsl
 |map (h q:Nat)
 |nmap
 |fn (f:Nat) (l:List SV)
 |iface (t:Nat) (v:SV)
 |nif
 |agg (l:List SV)
 |arr (n:Nat) (l:List Col)
 |tup (l:List SV)
 |raw (v:Value)
 |unk
def Col.at:Col->Nat->SV
 | .ints k l,i=> .int k (l.getD i 0)
 | .strs l,i=> .str (l.getD i ⟨#[]⟩)
 | .bools l,i=> .bool (l.getD i false)
def Col.val:Col->Nat->Value
 | .ints k l,i=> .int k (l.getD i 0)
 | .strs l,i=> .string (l.getD i ⟨#[]⟩)
 | .bools l,i=> .bool (l.getD i false)
def i0c:List Col->Nat->List SV
 | [],_=> []
 |c::l,i=>c.at i::i0c l i
def nth {α:Type}:List α->Nat->Option α
 | [],_=>none
 |x::_,0=>some x
 |_::l,n+1=>nth l n
def Col.len:Col->Nat
 | .ints _ l=>l.length
 | .strs l=>l.length
 | .bools l=>l.length
def y0c (n:Nat) (cs:List Col) (vs:Array Value):Prop:=vs.size=n*cs.length/\(∀c∈cs,c.len=n)/\∀i j c,i<n->nth cs j=some c->vs[i*cs.length+j]? =some (c.val i)
mutual
def Rv (g:G):SV->Value->Prop
 | .bool b,v=>v= .bool b
 | .int k n,v=>v= .int k n
 | .str s,v=>v= .string s
 | .ptr h q i j,v=>∃β,g h q=some β/\v= .pointer (some (β.addr i j))
 | .nptr,v=>v= .pointer none
 | .sl h q i n,v=>∃a c,v= .slice a n c/\n<=c/\(c=0\/∃β,g h q=some β/\a=some (β.addr i 0)/\i+c<=β.cap)
 | .nsl,v=>v= .slice none 0 0
 | .zsl,v=>∃a,v= .slice a 0 0
 | .map h q,v=>∃β,g h q=some β/\v= .map (some β.blk)
 | .nmap,v=>v= .map none
 | .fn f l,v=>∃vs,v= .func (.func f) #[] vs/\Rvs g l vs.toList
 | .iface t s,v=>∃u,v= .iface t u/\Rv g s u
 | .nif,v=>v= .nilIface
 | .agg l,v=>∃vs,v= .agg vs/\Rvs g l vs.toList
 | .arr n cs,v=>∃vs,v= .agg vs/\y0c n cs vs
 | .tup l,v=>∃vs,v= .tuple vs/\Rvs g l vs.toList
 | .raw x,v=>v=x
 | .unk,_=>True
def Rvs (g:G):List SV->List Value->Prop
 | [],vs=>vs= []
 |s::ss,vs=>∃v vs',vs=v::vs'/\Rv g s v/\Rvs g ss vs'
end
inductive BCol where
 |sc (c:Col)
 |svs (l:List SV)
 |own (h:Nat) (ns:List Nat)
 |arrs (n:Nat) (k:IntKind) (rows:List (List Int))
 |ptrs (h n:Nat)
def k0h (h:Nat) (ns:List Nat):List SV:=(List.range ns.length).map (fun k=> .sl h k 0 (ns.getD k 0))
def e0A (h n:Nat):List SV:=(List.range n).map (fun k=> .ptr h k 0 0)
def m1X (n:Nat) (k:IntKind) (rows:List (List Int)):List SV:=rows.map (fun V=> .arr n [.ints k V])
def BCol.at:BCol->Nat->SV
 | .sc c,i=>c.at i
 | .svs l,i=>l.getD i .unk
 | .own h ns,i=> .sl h i 0 (ns.getD i 0)
 | .arrs n k rows,i=> .arr n [.ints k (rows.getD i (List.replicate n 0))]
 | .ptrs h _,i=> .ptr h i 0 0
inductive ObjS where
 |map (ka ea:Bool) (n:Nat) (ks:List Col) (vs:List BCol) (bs:List Nat) (ck:Nat)
 |iter (h q:Nat) (bs:List Nat) (ck:Nat) (sn:List Nat)
 |niter
 |siter (s:ByteArray) (pos:Nat)
 |bld0 (T:Nat)
 |bld (T h q n:Nat)
 |brow (T:Nat) (s:ByteArray)
 |bag (Q:List ByteArray->List ByteArray->List Int->Prop)
inductive Blk where
 |cells (l:List SV)
 |cols (n:Nat) (l:List BCol)
 |obj (o:ObjS)
def Blk.es:Blk->Nat
 | .cells l=>l.length
 | .cols _ l=>l.length
 | .obj _=>0
def Blk.has:Blk->Nat->Prop
 | .cells _,i=>i=0
 | .cols n _,i=>i<n
 | .obj _,_=>False
def Blk.at:Blk->Nat->Nat->Option SV
 | .cells l,_,j=>nth l j
 | .cols _ l,i,j=>match nth l j with|some c=>some (c.at i)|none=>none
 | .obj _,_,_=>none
inductive HB where
 |one (ro:Bool) (b:Blk)
 |fam (ro:Bool) (dom:Nat->Prop) (f:Nat->Blk)
def HB.ro:HB->Bool
 | .one r _=>r
 | .fam r _ _=>r
def HB.is:HB->Nat->Blk->Prop
 | .one _ b,q,b'=>q=0/\b'=b
 | .fam _ dom f,q,b'=>dom q/\b'=f q
def HB.set:HB->Nat->Blk->HB
 | .one r _,_,b=> .one r b
 | .fam r dom f,q,b=> .fam r dom (fun x=>if x=q then b else f x)
def HB.drop:HB->Nat->Option HB
 | .one _ _,_=>none
 | .fam r dom f,q=>some (.fam r (fun x=>dom x/\x≠q) f)
abbrev a0k:=List (Nat×Option HB)
abbrev Env:=List (Nat×SV)
def a0M {α:Type}:List (Nat×α)->Nat->Option α
 | [],_=>none
 |(k,v)::r,x=>bif Nat.beq k x then some v else a0M r x
def a0w:a0k->Nat->Option HB
 | [],_=>none
 |(k,v)::r,x=>bif Nat.beq k x then v else a0w r x
structure VS where
 env:Env
 heap:a0k
 next:Nat
def BCol.len:BCol->Nat
 | .sc c=>c.len
 | .svs l=>l.length
 | .own _ ns=>ns.length
 | .arrs _ _ rows=>rows.length
 | .ptrs _ n=>n
def Blk.lenOk:Blk->Prop
 | .cells _=>True
 | .cols n l=>∀c∈l,c.len=n
 | .obj _=>True
theorem e1Y (n:Nat) (k:IntKind) (rows:List (List Int)):(m1X n k rows).length=rows.length:=by simp [m1X]
theorem j1I {n:Nat} {k:IntKind} {rows:List (List Int)} {x:Nat} (hx:x<rows.length):(m1X n k rows).getD x .unk= .arr n [.ints k (rows.getD x (List.replicate n 0))]:=by simp [m1X,hx]
theorem b0O (h:Nat) (ns:List Nat):(k0h h ns).length=ns.length:=by simp [k0h]
theorem e0s {h:Nat} {ns:List Nat} {x:Nat} (hx:x<ns.length):(k0h h ns).getD x .unk= .sl h x 0 (ns.getD x 0):=by simp [k0h,hx]
theorem b0P (h n:Nat):(e0A h n).length=n:=by simp [e0A]
theorem e0Y {h n x:Nat} (hx:x<n):(e0A h n).getD x .unk= .ptr h x 0 0:=by simp [e0A,hx]
theorem m1Y {h:Nat} {ns:List Nat} {x:Nat} (hx:x<ns.length):(BCol.svs (k0h h ns)).at x=(BCol.own h ns).at x:=e0s hx
def c0b:List Col->Nat->List Value
 | [],_=> []
 |c::l,i=>c.val i::c0b l i
def a1b (ka:Bool) (ks:List Col) (i:Nat):Value:=
 match ka,ks with
 |true,ks=> .agg (c0b ks i).toArray
 |false,[c]=>c.val i
 |false,_=>undef
def a0C:List BCol->Nat->List SV
 | [],_=> []
 |c::l,i=>c.at i::a0C l i
def b0n (ea:Bool) (vs:List BCol) (i:Nat):SV:=
 match ea,vs with
 |true,vs=> .agg (a0C vs i)
 |false,[c]=>c.at i
 |false,_=> .unk
structure MapOk (g:G) (ka ea:Bool) (n:Nat) (ks:List Col) (vs:List BCol) (bs:List Nat) (ck:Nat) (es:Array MapEntry):Prop where
 size:es.size=n
 kl:∀c∈ks,c.len=n
 vl:∀c∈vs,c.len=n
 bl:bs.length=n
 nd:bs.Nodup
 lt:∀b∈bs,b<ck
 row:∀i e,es[i]? =some e->e.born=bs.getD i 0/\e.key=a1b ka ks i/\Rv g (b0n ea vs i) e.val
def ObjS.Ok (g:G) (w:World) (β:Base):ObjS->Prop
 | .map ka ea n ks vs bs ck=>∃es,w.heap[β.blk]? =some (.map es ck)/\MapOk g ka ea n ks vs bs ck es
 | .iter h q bs ck sn=>∃β',g h q=some β'/\w.heap[β.blk]? =some (.mapIter (some β'.blk) ck ((sn.reverse.map (fun i=>bs.getD i 0)).toArray) ck)/\(∀i∈sn,i<bs.length)
 | .niter=>∃a b c,w.heap[β.blk]? =some (.mapIter none a b c)
 | .siter s p=>w.heap[β.blk]? =some (.stringIter s p)
 | .bld0 T=>w.heap[β.blk]? =some (.cells #[.pointer none,.slice none 0 0] T (0,0))
 | .bld T h q n=>∃β',g h q=some β'/\w.heap[β.blk]? =some (.cells #[.pointer (some ⟨β.blk,0,none⟩),.slice (some ⟨β'.blk,0,none⟩) n β'.cap] T (0,0))
 | .brow T s=>∃cur,w.heap[β.blk]? =some (.cells cur T (0,0))/\cur.size=β.cap/\s.size<=β.cap/\β.cap<=maxLen/\cur.toList.take s.size=s.data.toList.map (fun x=>Value.int .u8 x.toNat)
 | .bag Q=>∃a c v n es,Q a c v/\w.heap[β.blk]? =some (.map es n)/\es.size=n/\a.length=n/\c.length=n/\v.length=n/\∀i e,es[i]? =some e->e.born=i/\e.key=a1b true [.strs a,.strs c] i/\e.val= .int .i64 (v.getD i 0)
def Blk.Ok (g:G) (w:World) (β:Base):Blk->Prop
 | .obj o=>0<β.cap/\β.off=0/\o.Ok g w β
 |_=>True
structure BlkAt (g:G) (β:Base) (ro:Bool) (b:Blk) (w:World):Prop where
 lt:0<β.cap->β.blk<w.heap.size
 es:β.es=b.es
 len:b.lenOk
 cap:∀i,b.has i->i<β.cap
 cell:∀i j sv,b.has i->b.at i j=some sv->∃v,w.cell? (β.addr i j)=some v/\Rv g sv v
 one:∀i j v,b.has i->j<β.es->w.cell? (β.addr i j)=some v->v.oneCell'=true
 rw:ro=false->∀i j,i<β.cap->j<β.es->w.frozen? (β.addr i j)=false/\∃v,w.cell? (β.addr i j)=some v
 obj:b.Ok g w β
def Ent (H:a0k) (h q:Nat) (ro:Bool) (b:Blk):Prop:=∃hb,a0w H h=some hb/\hb.is q b/\hb.ro=ro
structure Holds (g:G) (H:a0k) (w:World):Prop where
 blk:∀h q ro b,Ent H h q ro b->∃β,g h q=some β/\BlkAt g β ro b w
 sep:∀h q h' q' b ro' b' β β',¬(h=h'/\q=q')->Ent H h q false b->Ent H h' q' ro' b'->g h q=some β->g h' q'=some β'->0<β.cap->0<β'.cap->β.blk≠β'.blk
structure Fr (W:Nat->Prop) (w w':World):Prop where
 os:w'.os=w.os
 tape:w'.tape=w.tape
 output:w'.output=w.output
 size:w.heap.size<=w'.heap.size
 block:∀k,k<w.heap.size->¬W k->w'.heap[k]? =w.heap[k]?
def f0z (g:G) (H:a0k):Nat->Prop:=fun k=>∃h q b β,Ent H h q false b/\g h q=some β/\0<β.cap/\β.blk=k
def a1g (g:G) (H:a0k) (W:Nat->Prop) (w0:World):Prop:=∀h q b β,Ent H h q false b->g h q=some β->0<β.cap->W β.blk\/w0.heap.size<=β.blk
def G.le (g g':G):Prop:=∀h q β,g h q=some β->g' h q=some β
def G.upto (g:G) (n:Nat):Prop:=∀h q,n<=h->g h q=none
def G.glob (g:G):Prop:=∀q,∃es cap,g 0 q=some ⟨q,0,es,cap⟩
structure TI where
 size:Nat
 kind:Nat
 zero:List SV
 zc:List Col
 fields:List (Nat×Nat×Bool)
 ik:IntKind
 el:Nat
 len:Nat
 eag:Bool
 ez:List SV
 eb:Nat
 flat:List Nat
 bld:Bool
 u8:Bool
 ega:Bool
def TI.agg (ti:TI):Bool:=Nat.beq ti.kind 4||Nat.beq ti.kind 5
abbrev Tab:=List (Nat×TI)
def cv:Value->SV
 | .bool b=> .bool b
 | .int k n=> .int k n
 | .string s=> .str s
 | .pointer none=> .nptr
 | .slice none 0 0=> .nsl
 | .map none=> .nmap
 | .nilIface=> .nif
 |v=> .raw v
def gv (vs:VS):Operand->Option SV
 | .tmp t=>a0M vs.env t
 | .const v=>some (cv v)
 | .func f=>some (.fn f [])
 | .global n=>some (.ptr 0 n 0 0)
def gvs (vs:VS):List Operand->Option (List SV)
 | []=>some []
 |x::r=>match gv vs x with
  |some v=>(match gvs vs r with|some l=>some (v::l)|none=>none)
  |none=>none
def br (b:Bool) (p q:Prop):Prop:=match b with|true=>p|false=>q
theorem g0F {b:Bool} {p q:Prop} (h:b=true->p) (k:b=false->q):br b p q:=by cases b;exact k rfl;exact h rfl
theorem j0q {b:Bool} {p q:Prop} (h:br b p q):(b=true->p)/\(b=false->q):=by cases b;exact ⟨by simp,fun _=>h⟩;exact ⟨fun _=>h,by simp⟩
def f0J:IntKind->IntKind->Bool
 | .i8,.i8| .i16,.i16| .i32,.i32| .i64,.i64| .u8,.u8| .u16,.u16| .u32,.u32| .u64,.u64=>true
 |_,_=>false
def a0d (s:ByteArray) (i:Int):Int:=((s.data.toList.getD i.toNat 0).toNat:Int)
def seq (a b:ByteArray):Bool:=decide (a=b)
inductive Res where
 |no
 |ok (r:SV) (U:a0k) (b:Nat) (t:List Nat)
 |when (c:Prop) (r:SV) (U:a0k) (b:Nat) (t:List Nat)
def Res.is:Res->SV->a0k->Nat->List Nat->Prop
 | .no,_,_,_,_=>False
 | .ok r U b t,r',U',b',t'=>r'=r/\U'=U/\b'=b/\t'=t
 | .when c r U b t,r',U',b',t'=>c/\r'=r/\U'=U/\b'=b/\t'=t
def Res.guard (c:Prop):Res->Res
 | .no=> .no
 | .ok r U b t=> .when c r U b t
 | .when d r U b t=> .when (c/\d) r U b t
def Res.one (v:SV):Res:= .ok v [] 0 []
def a0Z:List Nat->List SV->List SV->Option Bool
 | [],[],[]=>some true
 |2::ks,.int p x::l,.int q y::m=>bif f0J p q then (match a0Z ks l m with|some b=>some (decide (x=y)&&b)|none=>none) else none
 |3::ks,.str x::l,.str y::m=>match a0Z ks l m with|some b=>some (seq x y&&b)|none=>none
 |1::ks,.bool x::l,.bool y::m=>match a0Z ks l m with|some b=>some ((x==y)&&b)|none=>none
 |_,_,_=>none
def t0I (k:IntKind) (x y:Int):Int:=k.wrap ((BitVec.ofInt k.bits x&&&BitVec.ofInt k.bits y).toNat:Int)
def ior (k:IntKind) (x y:Int):Int:=k.wrap ((BitVec.ofInt k.bits x|||BitVec.ofInt k.bits y).toNat:Int)
def i1l (k:IntKind) (x y:Int):Int:=k.wrap ((BitVec.ofInt k.bits x^^^BitVec.ofInt k.bits y).toNat:Int)
def a1h (k:IntKind) (x y:Int):Int:=k.wrap ((BitVec.ofInt k.bits x&&& ~~~BitVec.ofInt k.bits y).toNat:Int)
def r1c (k:IntKind) (x y:Int):Int:=k.wrap (x*2^(min y.toNat k.bits))
def i0b (k:IntKind) (x y:Int):Int:=x.fdiv (2^(min y.toNat k.bits))
def r1d (k:IntKind) (x:Int):Int:=i1l k (if k.signed then-1 else k.max) x
def a1i (op:BinOp) (k:IntKind) (x y:Int):Res:=
 match op with
 | .add=> .one (.int k (k.wrap (x+y)))
 | .sub=> .one (.int k (k.wrap (x-y)))
 | .mul=> .one (.int k (k.wrap (x*y)))
 | .quo=> .when (y≠0) (.int k (k.wrap (x.tdiv y))) [] 0 []
 | .rem=> .when (y≠0) (.int k (x.tmod y)) [] 0 []
 | .eql=> .one (.bool (decide (x=y)))
 | .neq=> .one (.bool (!decide (x=y)))
 | .lss=> .one (.bool (decide (x<y)))
 | .leq=> .one (.bool (decide (x<=y)))
 | .gtr=> .one (.bool (decide (y<x)))
 | .geq=> .one (.bool (decide (y<=x)))
 | .and=> .one (.int k (t0I k x y))
 | .or=> .one (.int k (ior k x y))
 | .xor=> .one (.int k (i1l k x y))
 | .andNot=> .one (.int k (a1h k x y))
 |_=> .no
def b0V (a b:ByteArray):Bool:=Op.bytesLess a.toList b.toList
def a1j (op:BinOp) (x y:ByteArray):Res:=
 match op with
 | .eql=> .one (.bool (seq x y))
 | .neq=> .one (.bool (!seq x y))
 | .lss=> .one (.bool (b0V x y))
 | .leq=> .one (.bool (b0V x y||seq x y))
 | .gtr=> .one (.bool (!(b0V x y||seq x y)))
 | .geq=> .one (.bool (!b0V x y))
 | .add=> .when (x.size+y.size<=9223372036854775807) (.str (x++y)) [] 0 []
 |_=> .no
def e0B (op:BinOp) (b:Bool):Res:=
 match op with
 | .eql=> .one (.bool b)
 | .neq=> .one (.bool (!b))
 |_=> .no
def isC:Operand->Bool
 | .const _=>true
 |_=>false
def q1d (T:Tab) (op:BinOp) (t:TypeId) (k:Bool) (a b:SV):Res:=
 match op,a,b with
 | .shl,.int k x,.int _ y=> .when (0<=y) (.int k (r1c k x y)) [] 0 []
 | .shr,.int k x,.int _ y=> .when (0<=y) (.int k (i0b k x y)) [] 0 []
 |op,.int p x,.int q y=>bif f0J p q then a1i op p x y else .no
 |op,.str x,.str y=>a1j op x y
 |op,.bool x,.bool y=>match a0M T t with
  |some ti=>bif Nat.beq ti.kind 1 then e0B op (x==y) else .no
  |none=> .no
 |op,.ptr _ _ _ _,.nptr=>match a0M T t with
  |some ti=>bif Nat.beq ti.kind 7 then e0B op false else .no
  |none=> .no
 |op,.nptr,.ptr _ _ _ _=>match a0M T t with
  |some ti=>bif Nat.beq ti.kind 7 then e0B op false else .no
  |none=> .no
 |op,.nptr,.nptr=>match a0M T t with
  |some ti=>bif Nat.beq ti.kind 7 then e0B op true else .no
  |none=> .no
 |op,.map _ _,.nmap=>match a0M T t with
  |some ti=>bif Nat.beq ti.kind 8 then e0B op false else .no
  |none=> .no
 |op,.nmap,.nmap=>match a0M T t with
  |some ti=>bif Nat.beq ti.kind 8 then e0B op true else .no
  |none=> .no
 |op,.sl _ _ _ (_+1),.nsl=>match a0M T t with
  |some ti=>bif Nat.beq ti.kind 6 then e0B op false else .no
  |none=> .no
 |op,.nsl,.nsl=>match a0M T t with
  |some ti=>bif Nat.beq ti.kind 6 then e0B op true else .no
  |none=> .no
 |op,.iface _ _,.nif=>match a0M T t with
  |some ti=>bif Nat.beq ti.kind 9 then e0B op false else .no
  |none=> .no
 |op,.nif,.nif=>match a0M T t with
  |some ti=>bif Nat.beq ti.kind 9&&k then e0B op true else .no
  |none=> .no
 |op,.arr n [.ints p x],.arr m [.ints q y]=>match a0M T t with
  |some ti=>bif Nat.beq ti.kind 5&&Nat.beq n ti.len&&Nat.beq m ti.len&&f0J p q&&(match ti.flat with| [2]=>true|_=>false) then e0B op (decide (x=y)) else .no
  |none=> .no
 |op,.agg l,.agg m=>match a0M T t with
  |some ti=>bif Nat.beq ti.kind 4&& !ti.flat.isEmpty then (match a0Z ti.flat l m with|some r=>e0B op r|none=> .no) else .no
  |none=> .no
 |_,_,_=> .no
def y0d {α:Type}:Nat->List α->Option (List α)
 |0,_=>some []
 |_+1,[]=>none
 |n+1,x::l=>match y0d n l with
  |some r=>some (x::r)
  |none=>none
def y0e {α:Type}:Nat->List α->List α
 |0,l=>l
 |_+1,[]=> []
 |n+1,_::l=>y0e n l
def b0s {α:Type}:List α->Nat->α->List α
 | [],_,_=> []
 |_::l,0,v=>v::l
 |x::l,n+1,v=>x::b0s l n v
def b0k {α:Type}:List α->Nat->List α->List α
 |l,_,[]=>l
 |l,j,v::r=>b0k (b0s l j v) (j+1) r
def a1k {α β:Type}:List α->(List α->β)->β
 | [],k=>k []
 |a::t,k=>a1k t (fun r=>k (a::r))
theorem l0h {α β:Type}:∀(l:List α) (k:List α->β),a1k l k=k l
 | [],_=>rfl
 |_::t,_=>l0h t _
def SV.cells:SV->Option (List SV)
 | .agg l=>some l
 | .arr _ _=>none
 | .tup _=>none
 | .unk=>none
 | .raw (.agg _)=>none
 | .raw (.tuple _)=>none
 |v=>some [v]
def SV.one:SV->Bool
 | .int _ _=>true
 | .bool _=>true
 | .str _=>true
 | .ptr _ _ _ _=>true
 | .nptr=>true
 | .sl _ _ _ _=>true
 | .nsl=>true
 | .zsl=>true
 | .map _ _=>true
 | .nmap=>true
 | .fn _ _=>true
 | .iface _ _=>true
 | .nif=>true
 | .raw (.agg _)=>false
 | .raw (.tuple _)=>false
 | .raw _=>true
 |_=>false
def d0B:List SV->Bool
 | []=>true
 |s::r=>s.one&&d0B r
def TI.place (ti:TI) (i:Nat):Option (Nat×Nat):=
 bif Nat.beq ti.kind 4 then (match nth ti.fields i with|some (o,n,_)=>some (o,n)|none=>none) else some (i*ti.el,ti.el)
def i0d (vs:VS) (place:Nat->Option (Nat×Nat)):List (Nat×Operand)->List SV->Option (List SV)
 | [],l=>some l
 |(i,x)::r,l=>match place i,gv vs x with
  |some (o,n),some v=>(match v.cells with
   |some m=>bif Nat.beq m.length n&&Nat.ble (o+n) l.length then i0d vs place r (b0k l o m) else none
   |none=>none)
  |_,_=>none
def b0r (k:IntKind):List SV->Option (List Int)
 | []=>some []
 | .int p x::r=>bif f0J p k then (match b0r k r with|some l=>some (x::l)|none=>none) else none
 |_=>none
def l0i:List SV->Option (List ByteArray)
 | []=>some []
 | .str x::r=>match l0i r with|some l=>some (x::l)|none=>none
 |_=>none
def i0e:List SV->Option (List Bool)
 | []=>some []
 | .bool x::r=>match i0e r with|some l=>some (x::l)|none=>none
 |_=>none
def a1l (l:List SV):Option Col:=
 match l with
 | .int k _::_=>(match b0r k l with|some m=>some (.ints k m)|none=>none)
 | .str _::_=>(match l0i l with|some m=>some (.strs m)|none=>none)
 | .bool _::_=>(match i0e l with|some m=>some (.bools m)|none=>none)
 |_=>none
def every {α:Type} (es:Nat):Nat->List α->List α
 |_,[]=> []
 |0,x::l=>x::every es (es-1) l
 |k+1,_::l=>every es k l
def i0f (es:Nat) (l:List SV):Nat->Nat->Option (List Col)
 |_,0=>some []
 |j,n+1=>match a1l (every es j l),i0f es l (j+1) n with
  |some c,some r=>some (c::r)
  |_,_=>none
def n0X (es:Nat) (l:List SV):Option (List Col):=i0f es l 0 es
def r0h (l:List SV):BCol:=match a1l l with|some c=> .sc c|none=> .svs l
def c0J (es:Nat) (l:List SV):Nat->Nat->List BCol
 |_,0=> []
 |j,n+1=>r0h (every es j l)::c0J es l (j+1) n
def scs:List BCol->Option (List Col)
 | []=>some []
 | .sc c::l=>match scs l with|some r=>some (c::r)|none=>none
 |_::_=>none
def b0b:List Col->List BCol
 | []=> []
 |c::l=> .sc c::b0b l
def m1M (n:Nat):SV->BCol
 | .int k x=> .sc (.ints k (List.replicate n x))
 | .str s=> .sc (.strs (List.replicate n s))
 | .bool b=> .sc (.bools (List.replicate n b))
 |v=> .svs (List.replicate n v)
def e0Z (n:Nat):List SV->List BCol
 | []=> []
 |v::l=>m1M n v::e0Z n l
def d0f (c:BCol) (i:Nat) (v:SV):Option BCol:=
 match c,v with
 | .sc (.ints k l),.int p x=>bif f0J p k then some (.sc (.ints k (l.set i x))) else none
 | .sc (.strs l),.str s=>some (.sc (.strs (l.set i s)))
 | .sc (.bools l),.bool b=>some (.sc (.bools (l.set i b)))
 | .svs l,v=>some (.svs (l.set i v))
 | .own h ns,v=>some (.svs ((k0h h ns).set i v))
 | .ptrs h n,v=>some (.svs ((e0A h n).set i v))
 |_,_=>none
def n0Y (i:Nat):List BCol->List SV->Option (List BCol)
 |l,[]=>some l
 |c::l,v::m=>match d0f c i v,n0Y i l m with
  |some d,some r=>some (d::r)
  |_,_=>none
 | [],_::_=>none
def h0C (i:Nat):Nat->List BCol->List SV->Option (List BCol)
 |0,l,m=>n0Y i l m
 |j+1,c::l,m=>(match h0C i j l m with|some r=>some (c::r)|none=>none)
 |_+1,[],_=>none
def seg {α:Type} (i n:Nat) (l:List α):List α:=(l.drop i).take n
def Col.seg (i n:Nat):Col->Col
 | .ints k l=> .ints k (Sy.seg i n l)
 | .strs l=> .strs (Sy.seg i n l)
 | .bools l=> .bools (Sy.seg i n l)
def BCol.seg (i n:Nat):BCol->BCol
 | .sc c=> .sc (c.seg i n)
 | .svs l=> .svs (Sy.seg i n l)
 | .own h ns=> .svs (Sy.seg i n (k0h h ns))
 | .ptrs h m=> .svs (Sy.seg i n (e0A h m))
 | .arrs m k rows=> .svs (Sy.seg i n (m1X m k rows))
def t0E (i n:Nat):List BCol->List BCol
 | []=> []
 |c::l=>c.seg i n::t0E i n l
def i0g:BCol->BCol->Option BCol
 | .sc (.ints k l),.sc (.ints p m)=>bif f0J p k then some (.sc (.ints k (l++m))) else none
 | .sc (.strs l),.sc (.strs m)=>some (.sc (.strs (l++m)))
 | .sc (.bools l),.sc (.bools m)=>some (.sc (.bools (l++m)))
 | .svs l,.svs m=>some (.svs (l++m))
 | .own h ns,.svs m=>some (.svs (k0h h ns++m))
 | .ptrs h n,.svs m=>some (.svs (e0A h n++m))
 | .svs [],.own h ns=>some (.own h ns)
 | .svs [],.arrs n k r=>some (.arrs n k r)
 | .svs [],.ptrs h n=>some (.ptrs h n)
 |_,_=>none
def e0t:List BCol->List BCol->Option (List BCol)
 | [],[]=>some []
 |c::l,d::m=>match i0g c d,e0t l m with
  |some e,some r=>some (e::r)
  |_,_=>none
 |_,_=>none
def f0A {α:Type} (i n:Nat) (l s:List α):List α:=l.take i++s.take n++l.drop (i+n)
def e1Z (i n:Nat):BCol->BCol->Option BCol
 | .sc (.ints k l),.sc (.ints p m)=>bif f0J p k then some (.sc (.ints k (f0A i n l m))) else none
 | .sc (.strs l),.sc (.strs m)=>some (.sc (.strs (f0A i n l m)))
 | .sc (.bools l),.sc (.bools m)=>some (.sc (.bools (f0A i n l m)))
 | .svs l,.svs m=>some (.svs (f0A i n l m))
 |_,_=>none
def l0j (i n:Nat):List BCol->List BCol->Option (List BCol)
 | [],[]=>some []
 |c::l,d::m=>match e1Z i n c d,l0j i n l m with
  |some e,some r=>some (e::r)
  |_,_=>none
 |_,_=>none
def l0k (s:ByteArray):List Int:=s.data.toList.map (fun b=>(b.toNat:Int))
def a0m (l:List Int):ByteArray:=⟨(l.map (fun x=>UInt8.ofNat x.toNat)).toArray⟩
def c0h (H:a0k) (h q:Nat) (F:Bool->Blk->Res):Res:=
 match a0w H h with
 |some (.one r b)=>(match q with|0=>F r b|_=> .no)
 |some (.fam r dom f)=>(F r (f q)).guard (dom q)
 |none=> .no
def b0c (H:a0k) (h q:Nat) (b:Blk):a0k:=
 match a0w H h with
 |some (.one r _)=> [(h,some (.one r b))]
 |some (.fam r dom f)=> [(h,some (.fam r dom (fun x=>if x=q then b else f x)))]
 |none=> []
theorem f0a {H:a0k} {h q:Nat} {b:Blk} {hb:HB} (e:a0w H h=some hb):b0c H h q b= [(h,some (hb.set q b))]:=by
 unfold b0c;rw [e];cases hb<;>rfl
def f0K (H:a0k) (h q:Nat):a0k:=
 match a0w H h with
 |some hb=> [(h,hb.drop q)]
 |none=> []
def Blk.elt (b:Blk) (i:Nat) (R:Res):Res:=
 match b with
 | .cells _=>(match i with|0=>R|_=> .no)
 | .cols n _=>R.guard (i<n)
 | .obj _=> .no
def y0f (b:Blk) (i:Nat):Nat->Nat->Option (List SV)
 |_,0=>some []
 |j,n+1=>match b.at i j with
  |some v=>match y0f b i (j+1) n with
   |some l=>some (v::l)
   |none=>none
  |none=>none
def a1m (b:Blk) (i j:Nat) (ti:TI) (h:Nat):Res:=
 match b,Nat.beq ti.kind 5 with
 | .cols n l,true=>bif Nat.beq n ti.len&&Nat.beq l.length ti.el&&Nat.beq i 0&&Nat.beq j 0&&Nat.beq ti.size (ti.len*ti.el) then (match scs l with|some cs=> .ok (.arr n cs) [] 0 [h]|none=> .no) else .no
 |b,_=>bif ti.agg then b.elt i (match y0f b i j ti.size with|some l=> .ok (.agg l) [] 0 [h]|none=> .no) else b.elt i (match b.at i j with|some v=> .ok v [] 0 [h]|none=> .no)
def l0l (H:a0k) (h q i j:Nat) (v:SV) (ti:TI) (b:Blk):Res:=
 match b,v with
 | .cols n l,.arr m cs=>bif !Nat.beq n 0&&Nat.beq n m&&Nat.beq cs.length l.length&&Nat.beq i 0&&Nat.beq j 0&&Nat.beq ti.size (n*l.length) then .ok (.raw undef) (b0c H h q (.cols n (b0b cs))) 0 [h] else .no
 | .cols n l,v=>(match v.cells with
   |some m=>bif d0B m&&Nat.beq m.length ti.size&&Nat.ble (j+m.length) l.length then (match h0C i j l m with|some r=> .when (i<n) (.raw undef) (b0c H h q (.cols n r)) 0 [h]|none=> .no) else .no
   |none=> .no)
 | .cells l,v=>(match i,v.cells with
   |0,some m=>bif d0B m&&Nat.beq m.length ti.size&&Nat.ble (j+m.length) l.length then a1k (b0k l j m) (fun l'=> .ok (.raw undef) (b0c H h q (.cells l')) 0 [h]) else .no
   |_,_=> .no)
 | .obj _,_=> .no
def b0W (vs:VS) (d:Int):Option Operand->Option Int
 |none=>some d
 |some x=>match gv vs x with|some (.int _ n)=>some n|_=>none
def f0L:Option Int->Bool
 |some (.ofNat 0)=>true
 |_=>false
def k0A (vs:VS) (ti:TI) (x:SV) (F:Nat->List BCol->List Nat->Res):Res:=
 match x with
 | .sl h q i n=>c0h vs.heap h q (fun _ b=>match b with
   | .cols m l=>bif Nat.beq l.length ti.el then (F n (t0E i n l) [h]).guard (i+n<=m) else .no
   |_=> .no)
 | .nsl=>F 0 (e0Z 0 ti.ez) []
 | .zsl=>F 0 (e0Z 0 ti.ez) []
 | .str s=>bif ti.u8&&Nat.beq ti.el 1 then F s.size [.sc (.ints .u8 (l0k s))] [] else .no
 |_=> .no
def p0w (vs:VS) (nx:Nat) (ti:TI) (s x:SV):Res:=
 match s with
 | .sl h q i n=>c0h vs.heap h q (fun ro b=>match ro,b with
   |false,.cols m l=>bif Nat.beq l.length ti.el then k0A vs ti x (fun n2 l2 t=>match e0t (bif Nat.beq i 0 then l else t0E i n l) l2 with
    |some r=> .when (i+n=m/\(n+n2+500)*(ti.eb+1)<=70368744177664) (.sl nx 0 0 (n+n2)) ((nx,some (.one false (.cols (n+n2) r)))::f0K vs.heap h q) 1 (h::t)
    |none=> .when (i+n=m/\(n+n2+500)*(ti.eb+1)<=70368744177664) (.sl nx 0 0 (n+n2)) (b0c vs.heap h q (.cols m l)) 1 (h::t)) else .no
   |_,_=> .no)
 | .nsl=>k0A vs ti x (fun n2 l2 t=> .when ((n2+500)*(ti.eb+1)<=70368744177664) (.sl nx 0 0 n2) [(nx,some (.one false (.cols n2 l2)))] 1 t)
 | .zsl=>k0A vs ti x (fun n2 l2 t=> .when ((n2+500)*(ti.eb+1)<=70368744177664) (.sl nx 0 0 n2) [(nx,some (.one false (.cols n2 l2)))] 1 t)
 |_=> .no
def f1a (vs:VS) (ti:TI) (d x:SV):Res:=
 match d with
 | .sl h q i n=>c0h vs.heap h q (fun ro b=>match ro,b with
   |false,.cols m l=>bif Nat.beq l.length ti.el then k0A vs ti x (fun n2 l2 t=>match l0j i (min n2 n) l l2 with
    |some r=> .when (i+n<=m) (.int .i64 (min n2 n:Nat)) (b0c vs.heap h q (.cols m r)) 0 (h::t)
    |none=> .no) else .no
   |_,_=> .no)
 |_=> .no
def Col.cut (i:Nat):Col->Col
 | .ints k l=> .ints k (l.take i)
 | .strs l=> .strs (l.take i)
 | .bools l=> .bools (l.take i)
def BCol.cut (i:Nat):BCol->BCol
 | .sc c=> .sc (c.cut i)
 | .svs l=> .svs (l.take i)
 | .own h ns=> .own h (ns.take i)
 | .ptrs h n=> .ptrs h (min i n)
 | .arrs m k rows=> .arrs m k (rows.take i)
def f0M (i:Nat):List BCol->List BCol
 | []=> []
 |c::l=>c.cut i::f0M i l
def n0Z (vs:VS) (ti:TI) (s:SV):Res:=
 match s with
 | .sl h q i n=>c0h vs.heap h q (fun ro b=>match ro,b with
   |false,.cols m l=>bif Nat.beq l.length ti.el then .when (i+n=m) (.tup []) (b0c vs.heap h q (.cols i (f0M i l))) 0 [h] else .no
   |_,_=> .no)
 |_=> .no
def v0M (vs:VS) (ti:TI) (x:SV) (lo hi mx:Option Operand):Res:=
 match x with
 | .str s=>(match Nat.beq ti.kind 3,mx,b0W vs 0 lo,b0W vs s.size hi with
   |true,none,some l,some h=> .when (0<=l/\l<=h/\h<=(s.size:Int)) (.str (s.extract l.toNat h.toNat)) [] 0 []
   |_,_,_,_=> .no)
 | .sl hd q i n=>(match Nat.beq ti.kind 6&& !Nat.beq ti.el 0,b0W vs 0 lo,b0W vs n hi,b0W vs n mx,mx,hi with
   |true,some l,some h,some m,some _,some _=>bif f0L (some h)&&f0L (some m) then .when (l=0) .zsl [] 0 [] else c0h vs.heap hd q (fun _ b=>bif Nat.beq b.es ti.el then .when (0<=l/\l<=h/\h<=m/\m<=(n:Int)) (.sl hd q (l.toNat+i) (h.toNat-l.toNat)) [] 0 [hd] else .no)
   |true,some l,some h,_,none,_=>c0h vs.heap hd q (fun _ b=>bif Nat.beq b.es ti.el then .when (0<=l/\l<=h/\h<=(n:Int)) (.sl hd q (l.toNat+i) (h.toNat-l.toNat)) [] 0 [hd] else .no)
   |_,_,_,_,_,_=> .no)
 | .nsl=>(match Nat.beq ti.kind 6&& !Nat.beq ti.el 0,b0W vs 0 lo,b0W vs 0 hi,mx with
   |true,some l,some h,none=> .when (l=0/\h=0) .nsl [] 0 []
   |_,_,_,_=> .no)
 | .ptr hd q 0 0=>(match Nat.beq ti.kind 5&& !Nat.beq ti.el 0,b0W vs 0 lo,b0W vs ti.len hi,mx with
   |true,some l,some h,none=>c0h vs.heap hd q (fun _ b=>match b with
    | .cols n cs=>bif Nat.beq n ti.len&&Nat.beq cs.length ti.el then .when (0<=l/\l<=h/\h<=(ti.len:Int)) (.sl hd q l.toNat (h.toNat-l.toNat)) [] 0 [hd] else .no
    |_=> .no)
   |_,_,_,_=> .no)
 |_=> .no
def f1b (vs:VS) (nx:Nat) (a b:TI) (x:SV):Res:=
 match x with
 | .int _ n=>bif Nat.beq b.kind 2 then .one (.int b.ik (b.ik.wrap n)) else .no
 | .str s=>bif Nat.beq b.kind 3 then .one (.str s) else bif b.u8&&Nat.beq b.el 1 then .ok (.sl nx 0 0 s.size) [(nx,some (.one false (.cols s.size [.sc (.ints .u8 (l0k s))])))] 1 [] else .no
 | .sl h q i n=>bif Nat.beq b.kind 3&&a.u8 then c0h vs.heap h q (fun _ bl=>match bl with
   | .cols m [.sc (.ints .u8 l)]=> .when (i+n<=m) (.str (a0m (seg i n l))) [] 0 [h]
   |_=> .no) else .no
 |_=> .no
def a1n (nx:Nat) (b:Blk):Res:= .ok (.ptr nx 0 0 0) [(nx,some (.one false b))] 1 []
def a1o (nx:Nat) (ti:TI):Res:=
 bif ti.zero.isEmpty|| !d0B ti.zero then .no else bif Nat.beq ti.kind 5&& !ti.zc.isEmpty&&Nat.beq ti.zero.length (ti.len*ti.el) then a1n nx (.cols ti.len (b0b ti.zc)) else a1n nx (.cells ti.zero)
def q1e (nx t:Nat) (ti:TI):Res:=
 match ti.zero with
 | [.nptr,.nsl]=> .ok (.ptr nx 0 0 0) [(nx,some (.one false (.obj (.bld0 t))))] 1 []
 |_=> .no
def r1e (nx:Nat) (ti:TI) (v:SV):Res:=
 match v with
 | .arr n cs=>a1n nx (.cols n (b0b cs))
 | .agg l=>bif !d0B l then .no else bif Nat.beq ti.kind 5 then (match n0X ti.el l with|some cs=>bif Nat.beq (ti.len*ti.el) l.length then a1n nx (.cols ti.len (b0b cs)) else .no|none=>a1n nx (.cells l)) else a1n nx (.cells l)
 |v=>bif v.one then a1n nx (.cells [v]) else .no
def a0q:List ByteArray->ByteArray->Nat
 | [],_=>0
 |x::l,s=>bif seq x s then 0 else a0q l s+1
def a0S:List Int->Int->Nat
 | [],_=>0
 |x::l,s=>bif decide (x=s) then 0 else a0S l s+1
def c0B:List ByteArray->List ByteArray->ByteArray->ByteArray->Nat
 |x::l,y::m,s,t=>bif seq x s&&seq y t then 0 else c0B l m s t+1
 |_,_,_,_=>0
def e0C (ti:TI) (ka:Bool) (ks:List Col) (key:SV):Option Nat:=
 match ka,ks,key with
 |false,[.strs l],.str s=>bif Nat.beq ti.len 3 then some (a0q l s) else none
 |false,[.ints k l],.int p x=>bif Nat.beq ti.len 2&&f0J p k&&f0J p ti.ik then some (a0S l x) else none
 |true,[.strs l,.strs m],.agg [.str s,.str t]=>(match ti.flat with| [3,3]=>some (c0B l m s t)|_=>none)
 |_,_,_=>none
def b0j {α:Type} (i:Nat) (x:α) (l:List α):List α:=if i<l.length then l.set i x else l++ [x]
def c0v (i:Nat):Col->SV->Option Col
 | .ints k l,.int p x=>bif f0J p k then some (.ints k (b0j i x l)) else none
 | .strs l,.str s=>some (.strs (b0j i s l))
 | .bools l,.bool b=>some (.bools (b0j i b l))
 |_,_=>none
def d0t (i:Nat):List Col->List SV->Option (List Col)
 | [],[]=>some []
 |c::l,v::m=>match c0v i c v,d0t i l m with
  |some d,some r=>some (d::r)
  |_,_=>none
 |_,_=>none
def l0m (i:Nat):BCol->SV->Option BCol
 | .sc c,v=>(match c0v i c v with|some d=>some (.sc d)|none=>none)
 | .svs l,v=>some (.svs (b0j i v l))
 | .own h ns,v=>some (.svs (b0j i v (k0h h ns)))
 | .ptrs h n,v=>some (.svs (b0j i v (e0A h n)))
 | .arrs n k rows,.arr m [.ints p x]=>bif Nat.beq m n&&f0J p k then some (.arrs n k (b0j i x rows)) else none
 | .arrs _ _ _,_=>none
def c0s (i:Nat):List BCol->List SV->Option (List BCol)
 | [],[]=>some []
 |c::l,v::m=>match l0m i c v,c0s i l m with
  |some d,some r=>some (d::r)
  |_,_=>none
 |_,_=>none
def y0g:SV->Bool
 | .arr _ _=>true
 |_=>false
def b0e (ag:Bool) (v:SV):Option (List SV):=
 match ag,v with
 |true,.agg l=>some l
 |true,_=>none
 |false,v=>bif v.one||y0g v then some [v] else none
def zOk:List BCol->List SV->Bool
 | [],[]=>true
 | .sc (.ints k _)::l,.int p x::m=>f0J p k&&f0L (some x)&&zOk l m
 | .sc (.strs _)::l,.str s::m=>Nat.beq s.size 0&&zOk l m
 | .sc (.bools _)::l,.bool false::m=>zOk l m
 |_,_=>false
def j0r (k:IntKind):List SV->Bool
 | []=>true
 | .int p x::l=>f0J p k&&f0L (some x)&&j0r k l
 |_=>false
def q1f (ea ega:Bool) (vl:List BCol) (ez:List SV):Bool:=
 match ea,ega,vl with
 |false,true,[.arrs n k _]=>Nat.beq n ez.length&&j0r k ez
 |_,_,_=>false
def q1g:List BCol->List SV->Bool
 | [.own _ _],[.nsl]=>true
 | [.ptrs _ _],[.nptr]=>true
 |_,_=>false
def m1Z (ti:TI):Option SV:=
 match ti.ega,ti.ez with
 |true,l=>some (.agg l)
 |false,[v]=>some v
 |false,_=>none
def e0D (ea:Bool) (n:Nat) (vl:List BCol) (i:Nat):SV:=
 match ea,vl with
 |false,[.own h ns]=>bif decide (i<n) then .sl h i 0 (ns.getD i 0) else .nsl
 |false,[.ptrs h _]=>bif decide (i<n) then .ptr h i 0 0 else .nptr
 |ea,vl=>b0n ea vl i
def r0i (co:Bool) (v:SV) (b:Bool):SV:=bif co then .tup [v,.bool b] else v
def d0u (vs:VS) (ti:TI) (m key:SV) (co:Bool):Res:=
 match m with
 | .nmap=>(match m1Z ti with
   |some z=>bif !ti.bld then .no else (match e0C ti (!Nat.beq ti.len 3&& !Nat.beq ti.len 2) (bif Nat.beq ti.len 3 then [.strs []] else bif Nat.beq ti.len 2 then [.ints ti.ik []] else [.strs [],.strs []]) key with|some _=> .ok (r0i co z false) [] 0 []|none=> .no)
   |none=> .no)
 | .map h q=>c0h vs.heap h q (fun _ b=>match b with
   | .obj (.map ka ea n ks vl _ _)=>(match e0C ti ka ks key with
     |some i=>bif ti.bld&&(((zOk vl ti.ez||(!ea&&q1g vl ti.ez))&&(match ea,ti.ega with|true,true=>true|false,false=>true|_,_=>false))||q1f ea ti.ega vl ti.ez) then .ok (r0i co (e0D ea n vl i) (decide (i<n))) [] 0 [h] else .no
     |none=> .no)
   |_=> .no)
 |_=> .no
def j0s (vs:VS) (ti:TI) (m key v:SV):Res:=
 match m with
 | .map h q=>c0h vs.heap h q (fun ro b=>match ro,b with
   |false,.obj (.map ka ea n ks vl bs ck)=>(match e0C ti ka ks key,b0e ka key,b0e ea v with
    |some i,some kc,some vc=>(match d0t i ks kc,c0s i vl vc with
     |some ks',some vl'=> .ok (.raw undef) (b0c vs.heap h q (.obj (.map ka ea (if i<n then n else n+1) ks' vl' (if i<n then bs else bs++ [ck]) (if i<n then ck else ck+1)))) 0 [h]
     |_,_=> .no)
    |_,_,_=> .no)
   |_,_=> .no)
 |_=> .no
def c0w (vs:VS) (ti:TI) (m key:SV):Res:=
 match m with
 | .map h q=>c0h vs.heap h q (fun ro b=>match ro,b with
   |false,.obj (.map ka ea n ks vl bs ck)=>(match e0C ti ka ks key,b0e ka key with
    |some i,some kc=>(match b0e ea (b0n ea vl i) with
     |some vc=>(match d0t i ks kc,c0s i vl vc with
      |some ks',some vl'=>bif ti.bld&&zOk vl ti.ez&&(match ea,ti.ega with|true,true=>true|false,false=>true|_,_=>false) then .ok (.tup [b0n ea vl i,.int .i64 ((if i<n then bs.getD i 0 else ck:Nat):Int)]) (b0c vs.heap h q (.obj (.map ka ea (if i<n then n else n+1) ks' vl' (if i<n then bs else bs++ [ck]) (if i<n then ck else ck+1)))) 0 [h] else .no
      |_,_=> .no)
     |none=> .no)
    |_,_=> .no)
   |_,_=> .no)
 |_=> .no
def c0U (vs:VS) (m st v:SV):Res:=
 match m,st with
 | .map h q,.int .i64 b=>c0h vs.heap h q (fun ro bl=>match ro,bl with
   |false,.obj (.map ka ea n ks vl bs ck)=>(match b0e ea v with
    |some vc=>(match c0s (bs.idxOf b.toNat) vl vc with
     |some vl'=> .when (0<=b/\b.toNat∈bs) (.raw undef) (b0c vs.heap h q (.obj (.map ka ea n ks vl' bs ck))) 0 [h]
     |none=> .no)
    |none=> .no)
   |_,_=> .no)
 |_,_=> .no
def k0i (i:Nat):Col->Col
 | .ints k l=> .ints k (l.eraseIdx i)
 | .strs l=> .strs (l.eraseIdx i)
 | .bools l=> .bools (l.eraseIdx i)
def c0V (i:Nat):List Col->List Col
 | []=> []
 |c::l=>k0i i c::c0V i l
def d0N (i:Nat):BCol->BCol
 | .sc c=> .sc (k0i i c)
 | .svs l=> .svs (l.eraseIdx i)
 | .own h ns=>if i<ns.length then .svs ((k0h h ns).eraseIdx i) else .own h ns
 | .ptrs h n=>if i<n then .svs ((e0A h n).eraseIdx i) else .ptrs h n
 | .arrs n k rows=> .arrs n k (rows.eraseIdx i)
def c0W (i:Nat):List BCol->List BCol
 | []=> []
 |c::l=>d0N i c::c0W i l
def j0t (vs:VS) (ti:TI) (m key:SV):Res:=
 match m with
 | .map h q=>c0h vs.heap h q (fun ro b=>match ro,b with
   |false,.obj (.map ka ea n ks vl bs ck)=>(match e0C ti ka ks key with
    |some i=> .ok (.tup []) (b0c vs.heap h q (.obj (.map ka ea (if i<n then n-1 else n) (c0V i ks) (c0W i vl) (bs.eraseIdx i) ck))) 0 [h]
    |none=> .no)
   |_,_=> .no)
 |_=> .no
def e0u (ti:TI):Bool×List BCol:=
 match ti.eag,ti.ez with
 |true,.int k _::_=>(false,[.arrs ti.ez.length k []])
 |_,_=>(ti.ega,e0Z 0 ti.ez)
def p0x (nx:Nat) (ti:TI):Res:=
 match ti.len,ti.flat with
 |3,_=> .ok (.map nx 0) [(nx,some (.one false (.obj (.map false (e0u ti).1 0 [.strs []] (e0u ti).2 [] 0))))] 1 []
 |2,_=> .ok (.map nx 0) [(nx,some (.one false (.obj (.map false (e0u ti).1 0 [.ints ti.ik []] (e0u ti).2 [] 0))))] 1 []
 |0,[3,3]=> .ok (.map nx 0) [(nx,some (.one false (.obj (.map true (e0u ti).1 0 [.strs [],.strs []] (e0u ti).2 [] 0))))] 1 []
 |_,_=> .no
def i1m (a b:ByteArray):ByteArray:=if (b0V a b||seq a b)=true then a else b
def i1n (a b:ByteArray):ByteArray:=if (!b0V a b)=true then a else b
def o0a (vs:VS) (nx:Nat) (ti:TI) (m:SV):Res:=
 match m with
 | .str s=>bif Nat.beq ti.kind 3 then .ok (.ptr nx 0 0 0) [(nx,some (.one false (.obj (.siter s 0))))] 1 [] else .no
 | .nmap=>bif Nat.beq ti.kind 8 then .ok (.ptr nx 0 0 0) [(nx,some (.one false (.obj .niter)))] 1 [] else .no
 | .map h q=>bif Nat.beq ti.kind 8 then c0h vs.heap h q (fun _ b=>match b with
   | .obj (.map _ _ _ _ _ bs ck)=> .ok (.ptr nx 0 0 0) [(nx,some (.one false (.obj (.iter h q bs ck []))))] 1 [h]
   |_=> .no) else .no
 |_=> .no
def f1c (ka:Bool) (ks:List Col) (i:Nat):SV:=
 match ka,ks with
 |true,ks=> .agg (i0c ks i)
 |false,[c]=>c.at i
 |false,_=> .unk
def o0b (vs:VS) (it:SV):Res:=
 match it with
 | .ptr h 0 0 0=>c0h vs.heap h 0 (fun _ b=>match b with
   | .obj (.iter hm qm bs ck (i::_))=>c0h vs.heap hm qm (fun _ b2=>match b2 with
     | .obj (.map ka ea n ks vl bs2 ck2)=> .when (bs2=bs/\ck2=ck/\i<n) (.tup [f1c ka ks i,b0n ea vl i]) [] 0 [h,hm]
     |_=> .no)
   |_=> .no)
 |_=> .no
def eff (T:Tab) (vs:VS) (nx:Nat) (op:Op):Res:=
 match op with
 | .move x=>match gv vs x with|some v=> .one v|none=> .no
 | .assign x=>match gv vs x with|some v=> .one v|none=> .no
 | .nilCheck x=>match gv vs x with
   |some (.ptr h q i j)=> .one (.ptr h q i j)
   |some (.fn f l)=> .one (.fn f l)
   |some (.iface t v)=> .one (.iface t v)
   |_=> .no
 | .pick c x y=>match gv vs c with
   |some (.bool true)=>(match gv vs x with|some v=> .one v|none=> .no)
   |some (.bool false)=>(match gv vs y with|some v=> .one v|none=> .no)
   |_=> .no
 | .binOp op t x y _=>match gv vs x,gv vs y with
   |some a,some b=>q1d T op t (isC x||isC y) a b
   |_,_=> .no
 | .unOp op _ x=>match op,gv vs x with
   | .not,some (.bool b)=> .one (.bool (!b))
   | .neg,some (.int k n)=> .one (.int k (k.wrap (0-n)))
   | .xor,some (.int k n)=> .one (.int k (r1d k n))
   |_,_=> .no
 | .fieldAddr s x f=>match gv vs x,a0M T s with
   |some (.ptr h q i j),some ti=>bif !Nat.beq ti.kind 4 then .no else (match nth ti.fields f with
    |some (o,n,_)=>bif Nat.beq n 0 then .no else .one (.ptr h q i (j+o))
    |none=> .no)
   |_,_=> .no
 | .field s x f=>match gv vs x,a0M T s with
   |some (.agg l),some ti=>bif !Nat.beq ti.kind 4 then .no else (match nth ti.fields f with
    |some (o,n,ag)=>bif Nat.beq n 0 then .no else bif ag then (match y0d n (y0e o l) with|some r=> .one (.agg r)|none=> .no) else (match nth l o with|some v=> .one v|none=> .no)
    |none=> .no)
   |_,_=> .no
 | .load t x=>match gv vs x,a0M T t with
   |some (.ptr h q i j),some ti=>c0h vs.heap h q (fun _ b=>a1m b i j ti h)
   |_,_=> .no
 | .store t x y=>match gv vs x,gv vs y,a0M T t with
   |some (.ptr h q i j),some v,some ti=>c0h vs.heap h q (fun ro b=>bif ro then .no else l0l vs.heap h q i j v ti b)
   |_,_,_=> .no
 | .extract x ix=>match gv vs x with
   |some (.tup l)=>(match nth l ix with|some v=> .one v|none=> .no)
   |_=> .no
 | .index t x ix=>match gv vs x,gv vs ix,a0M T t with
   |some (.str s),some (.int _ i),some ti=>bif Nat.beq ti.kind 3 then .when (0<=i/\i<(s.size:Int)) (.int .u8 (a0d s i)) [] 0 [] else .no
   |some (.arr n [c]),some (.int _ i),some ti=>bif Nat.beq ti.kind 5&&Nat.beq ti.el 1&& !ti.eag&&Nat.beq n ti.len then .when (0<=i/\i<(ti.len:Int)) (c.at i.toNat) [] 0 [] else .no
   |some (.arr n cs),some (.int _ i),some ti=>bif Nat.beq ti.kind 5&&Nat.beq ti.el cs.length&&ti.ega&&Nat.beq n ti.len&& !Nat.beq ti.el 0 then .when (0<=i/\i<(ti.len:Int)) (.agg (i0c cs i.toNat)) [] 0 [] else .no
   |_,_,_=> .no
 | .indexAddr t x ix=>match gv vs x,gv vs ix,a0M T t with
   |some (.sl h q i n),some (.int _ m),some ti=>bif !Nat.beq ti.kind 6 then .no else c0h vs.heap h q (fun _ b=>bif Nat.beq b.es ti.el&& !Nat.beq ti.el 0 then .when (0<=m/\m<(n:Int)) (.ptr h q (m.toNat+i) 0) [] 0 [h] else .no)
   |some (.ptr h q 0 0),some (.int _ m),some ti=>bif !Nat.beq ti.kind 5 then .no else c0h vs.heap h q (fun _ b=>match b with
    | .cols n l=>bif Nat.beq n ti.len&&Nat.beq l.length ti.el&& !Nat.beq ti.el 0 then .when (0<=m/\m<(ti.len:Int)) (.ptr h q m.toNat 0) [] 0 [h] else .no
    |_=> .no)
   |_,_,_=> .no
 | .build t parts=>match a0M T t with
   |some ti=>bif ti.bld&& !Nat.beq ti.kind 8 then (match i0d vs ti.place parts.toList ti.zero with
    |some l=>bif Nat.beq ti.kind 5 then (match n0X ti.el l with|some cs=>bif Nat.beq (ti.len*ti.el) l.length then .one (.arr ti.len cs) else .no|none=> .one (.agg l)) else .one (.agg l)
    |none=> .no) else .no
   |none=> .no
 | .buildSlice t len parts=>match a0M T t with
   |some ti=>bif Nat.beq ti.kind 6&&Nat.beq ti.ez.length ti.el&& !Nat.beq ti.el 0&&Nat.ble (len*ti.el) 16777216 then (match i0d vs (fun i=>some (i*ti.el,ti.el)) parts.toList (List.replicate len ti.ez).flatten with
    |some l=>bif d0B l&&Nat.beq l.length (len*ti.el) then .ok (.sl nx 0 0 len) [(nx,some (.one false (.cols len (bif Nat.beq len 0 then e0Z 0 ti.ez else c0J ti.el l 0 ti.el))))] 1 [] else .no
    |none=> .no) else .no
   |none=> .no
 | .makeSlice t x y=>match gv vs x,gv vs y,a0M T t with
   |some (.int _ l),some (.int _ c),some ti=>bif Nat.beq ti.kind 6&&d0B ti.ez&&Nat.beq ti.ez.length ti.el&& !Nat.beq ti.el 0 then .when (0<=l/\l<=c/\c*((ti.eb:Int)+1)<=281474976710656) (.sl nx 0 0 l.toNat) [(nx,some (.one false (.cols l.toNat (e0Z l.toNat ti.ez))))] 1 [] else .no
   |_,_,_=> .no
 | .slice t x lo hi mx=>match gv vs x,a0M T t with
   |some v,some ti=>v0M vs ti v lo hi mx
   |_,_=> .no
 | .alloc t=>match a0M T t with
   |some ti=>bif Nat.beq ti.kind 4&&Nat.beq ti.len 1 then q1e nx t ti else a1o nx ti
   |none=> .no
 | .box t x=>match gv vs x,a0M T t with
   |some v,some ti=>r1e nx ti v
   |_,_=> .no
 | .makeFunc (.func f) first captured=>match first.toList,gvs vs captured.toList with
   | [],some l=> .one (.fn f l)
   |_,_=> .no
 | .makeInterface t x=>match gv vs x,a0M T t with
   |some v,some ti=>bif Nat.beq ti.kind 9 then .no else .one (.iface t v)
   |_,_=> .no
 | .call { callee:= .builtin b,args:=args,argTypes:=ts}=>match b,args.toList with
   | .len,[x]=>(match ts.toList with
     | [t]=>(match gv vs x,a0M T t with
       |some (.str s),some ti=>bif Nat.beq ti.kind 3 then .one (.int .i64 (s.size:Int)) else .no
       |some (.sl _ _ _ n),some ti=>bif Nat.beq ti.kind 6 then .one (.int .i64 (n:Int)) else .no
       |some .nsl,some ti=>bif Nat.beq ti.kind 6 then .one (.int .i64 0) else .no
       |some .zsl,some ti=>bif Nat.beq ti.kind 6 then .one (.int .i64 0) else .no
       |some .nmap,some ti=>bif Nat.beq ti.kind 8 then .one (.int .i64 0) else .no
       |some (.map h q),some ti=>bif Nat.beq ti.kind 8 then c0h vs.heap h q (fun _ b=>match b with| .obj (.map _ _ n _ _ _ _)=> .ok (.int .i64 (n:Int)) [] 0 [h]|_=> .no) else .no
       |_,_=> .no)
     |_=> .no)
   | .delete,[x,y]=>(match ts.toList with
     |t::_=>(match gv vs x,gv vs y,a0M T t with
      |some m,some k,some ti=>bif Nat.beq ti.kind 8 then j0t vs ti m k else .no
      |_,_,_=> .no)
     |_=> .no)
   | .clear,[x]=>(match ts.toList with
     |t::_=>(match gv vs x,a0M T t with
      |some s,some ti=>bif Nat.beq ti.kind 6&&d0B ti.ez&&Nat.beq ti.ez.length ti.el&& !Nat.beq ti.el 0 then n0Z vs ti s else .no
      |_,_=> .no)
     |_=> .no)
   | .min,[x,y]=>(match gv vs x,gv vs y with
     |some (.int p a),some (.int q b)=>bif f0J p q then .one (.int p (min a b)) else .no
     |some (.str a),some (.str b)=> .one (.str (i1m a b))
     |_,_=> .no)
   | .max,[x,y]=>(match gv vs x,gv vs y with
     |some (.int p a),some (.int q b)=>bif f0J p q then .one (.int p (max a b)) else .no
     |some (.str a),some (.str b)=> .one (.str (i1n a b))
     |_,_=> .no)
   | .append,[x,y]=>(match ts.toList with
     | [t,t2]=>(match gv vs x,gv vs y,a0M T t,a0M T t2 with
       |some s,some v,some ti,some ti2=>bif Nat.beq ti.kind 6&&d0B ti.ez&&Nat.beq ti.ez.length ti.el&& !Nat.beq ti.el 0&&(Nat.beq ti2.kind 6||Nat.beq ti2.kind 3) then p0w vs nx ti s v else .no
       |_,_,_,_=> .no)
     |_=> .no)
   | .copy,[x,y]=>(match ts.toList with
     |t::_=>(match gv vs x,gv vs y,a0M T t with
      |some s,some v,some ti=>bif Nat.beq ti.kind 6&&Nat.beq ti.ez.length ti.el&& !Nat.beq ti.el 0 then f1a vs ti s v else .no
      |_,_,_=> .no)
     |_=> .no)
   |_,_=> .no
 | .convert src dst x=>match gv vs x,a0M T src,a0M T dst with
   |some v,some a,some b=>f1b vs nx a b v
   |_,_,_=> .no
 | .makeMap t none=>match a0M T t with
   |some ti=>bif Nat.beq ti.kind 8 then p0x nx ti else .no
   |none=> .no
 | .lookup t x ix co=>match gv vs x,gv vs ix,a0M T t with
   |some m,some k,some ti=>bif Nat.beq ti.kind 8 then d0u vs ti m k co else .no
   |_,_,_=> .no
 | .mapUpdate t x ix y=>match gv vs x,gv vs ix,gv vs y,a0M T t with
   |some m,some k,some v,some ti=>bif Nat.beq ti.kind 8 then j0s vs ti m k v else .no
   |_,_,_,_=> .no
 | .mapEntry t x ix=>match gv vs x,gv vs ix,a0M T t with
   |some m,some k,some ti=>bif Nat.beq ti.kind 8 then c0w vs ti m k else .no
   |_,_,_=> .no
 | .entryStore _ x y z=>match gv vs x,gv vs y,gv vs z with
   |some m,some k,some v=>c0U vs m k v
   |_,_,_=> .no
 | .range t x=>match gv vs x,a0M T t with
   |some m,some ti=>o0a vs nx ti m
   |_,_=> .no
 | .entry x=>match gv vs x with
   |some v=>o0b vs v
   |none=> .no
 |_=> .no
def b0f:TypeDesc->Nat
 | .bool=>1
 | .int _=>2
 | .string=>3
 | .struct _=>4
 | .array _ _=>5
 | .slice _=>6
 | .pointer _=>7
 | .map _ _=>8
 | .interface _=>9
 |_=>0
def y0h (P:Program) (t:TypeId):Bool:=
 match P.underlying t with
 |some (.struct _)=>true
 |some (.array _ _)=>true
 |_=>false
def p1M (P:Program) (t:TypeId):Bool:=
 match P.underlying t with
 |some (.struct _)=>false
 |some (.array _ _)=>false
 |some _=>true
 |none=>false
def fsz (P:Program) (t:TypeId):Nat:=
 match P.underlying t with
 |some _=>P.cellsOf t
 |none=>0
def a0V (P:Program) (t:TypeId):Nat:=
 match P.underlying t with
 |some .bool=>1
 |some (.int _)=>2
 |some .string=>3
 |_=>0
def b0q (P:Program):Nat->List Field->Option (List Nat)
 |_,[]=>some []
 |i,f::r=>bif (f.name !="_")&& !Nat.beq (a0V P f.type) 0&&(f.offset==i) then (match b0q P (i+1) r with|some l=>some (a0V P f.type::l)|none=>none) else none
def a1p (P:Program) (t:TypeId):Option (List Nat):=
 match P.underlying t with
 |some (.struct fs)=>bif !P.stoodInHeld t then (match b0q P 0 fs.toList with|some ks=>bif Nat.beq (P.cellsOf t) ks.length then some ks else none|none=>none) else none
 |_=>none
def r0j (P:Program):Nat->List Field->Option (List Nat)
 |_,[]=>some []
 |i,f::r=>bif (f.name !="_")&&(f.offset==i) then
   (bif !Nat.beq (a0V P f.type) 0 then (match r0j P (i+1) r with|some l=>some (a0V P f.type::l)|none=>none)
    else match a1p P f.type with
     |some ks=>(match r0j P (i+ks.length) r with|some l=>some (ks++l)|none=>none)
     |none=>none) else none
def v0N (P:Program) (e:TypeId):Bool:=
 match P.info? e with
 |some i=>(match i.zero with
  |some (.agg _)=>y0h P e
  |some (.tuple _)=>false
  |some _=> !y0h P e
  |none=>false)
 |none=>false
def k0B (P:Program):TypeDesc->Bool
 | .map _ e=>v0N P e
 | .struct fs=>fs.toList.all (fun f=>(P.info? f.type).isSome&&(P.underlying f.type).isSome)
 | .array _ e=>(P.info? e).isSome
 |_=>false
def c0E (P:Program) (t:TypeId):List SV:=
 match P.info? t with
 |some i=>(match i.zero with|some z=>z.cells.toList.map cv|none=> [])
 |none=> []
def k0j (P:Program) (t:TypeId):Option TI:=
 match P.info? t,P.underlying t with
 |some i,some d=>some {
   size:=i.size
   kind:=b0f d
   zero:=c0E P t
   zc:=match d with| .array _ e=>(match n0X (P.cellsOf e) (c0E P t) with|some cs=>cs|none=> [])|_=> []
   fields:=match d with| .struct fs=>fs.toList.map (fun f=>(f.offset,fsz P f.type,y0h P f.type))|_=> []
   ik:=match d with| .int k=>k| .map k _=>(match P.underlying k with|some (.int x)=>x|_=> .i64)|_=> .i64
   el:=match d with| .slice e=>P.cellsOf e| .array _ e=>P.cellsOf e| .map _ e=>P.cellsOf e|_=>0
   len:=match d with| .array n _=>n| .map k _=>a0V P k| .struct _=>bif i.str=="strings.Builder" then 1 else 0|_=>0
   eag:=match d with| .array _ e=> !p1M P e| .map _ e=>(match P.underlying e with|some (.array _ _)=>true|_=>false)|_=>false
   ez:=match d with| .slice e=>c0E P e| .map _ e=>c0E P e|_=> []
   eb:=match d with| .slice e=>(match P.info? e with|some x=>x.bytes|none=>0)|_=>0
   flat:=match d with| .struct fs=>bif !P.stoodInHeld t&& !P.eqGuardType P.depth t then (r0j P 0 fs.toList).getD [] else []| .map k _=>(match P.underlying k with|some (.struct fs)=>bif !P.stoodInHeld k&& !P.eqGuardType P.depth k then (b0q P 0 fs.toList).getD [] else []|_=> [])| .array _ e=>bif !P.eqGuardType P.depth t&&Nat.beq (a0V P e) 2&&Nat.beq (P.cellsOf e) 1 then [2] else []|_=> []
   bld:=i.zero.isSome&&k0B P d
   u8:=match d with| .slice e=>(match P.underlying e with|some (.int .u8)=>true|_=>false)|_=>false
   ega:=match d with| .slice e=>y0h P e| .array _ e=>y0h P e| .map _ e=>y0h P e|_=>false}
 |_,_=>none
def b0t (P:Program) (T:Tab):Prop:=∀t ti,a0M T t=some ti->k0j P t=some ti
theorem f1d (P:Program) (T:Tab) (h:T.map (fun p=>k0j P p.1)=T.map (fun p=>some p.2)):b0t P T:=by
 intro t ti;induction T with
 |nil=>intro h;cases h
 |cons p r ih=>
  obtain ⟨k,x⟩:=p;simp only [n1w,List.cons.injEq] at h;intro ha;simp only [a0M] at ha;cases hb:Nat.beq k t with
  |true=>simp_all
  |false=>simp_all
mutual
def SV.ren (ρ:Nat->Nat):SV->SV
 | .ptr h q i j=> .ptr (ρ h) q i j
 | .sl h q i n=> .sl (ρ h) q i n
 | .map h q=> .map (ρ h) q
 | .fn f l=> .fn f (SV.rens ρ l)
 | .iface t v=> .iface t (SV.ren ρ v)
 | .agg l=> .agg (SV.rens ρ l)
 | .tup l=> .tup (SV.rens ρ l)
 | .bool b=> .bool b
 | .int k n=> .int k n
 | .str s=> .str s
 | .nptr=> .nptr
 | .nsl=> .nsl
 | .zsl=> .zsl
 | .nmap=> .nmap
 | .nif=> .nif
 | .arr n l=> .arr n l
 | .raw v=> .raw v
 | .unk=> .unk
def SV.rens (ρ:Nat->Nat):List SV->List SV
 | []=> []
 |s::r=>SV.ren ρ s::SV.rens ρ r
end
def BCol.ren (ρ:Nat->Nat):BCol->BCol
 | .sc c=> .sc c
 | .svs l=> .svs (SV.rens ρ l)
 | .own h ns=> .own (ρ h) ns
 | .arrs n k r=> .arrs n k r
 | .ptrs h n=> .ptrs (ρ h) n
def d0v (ρ:Nat->Nat):List BCol->List BCol
 | []=> []
 |c::l=>c.ren ρ::d0v ρ l
def ObjS.ren (ρ:Nat->Nat):ObjS->ObjS
 | .map ka ea n ks vs bs ck=> .map ka ea n ks (d0v ρ vs) bs ck
 | .iter h q a b c=> .iter (ρ h) q a b c
 | .niter=> .niter
 | .siter s p=> .siter s p
 | .bld0 T=> .bld0 T
 | .bld T h q n=> .bld T (ρ h) q n
 | .brow T s=> .brow T s
 | .bag Q=> .bag Q
def Blk.ren (ρ:Nat->Nat):Blk->Blk
 | .cells l=> .cells (SV.rens ρ l)
 | .cols n l=> .cols n (d0v ρ l)
 | .obj o=> .obj (o.ren ρ)
def HB.ren (ρ:Nat->Nat):HB->HB
 | .one r b=> .one r (b.ren ρ)
 | .fam r dom f=> .fam r dom (fun q=>(f q).ren ρ)
mutual
def SV.wf (n:Nat):SV->Bool
 | .ptr h _ _ _=>Nat.blt h n
 | .sl h _ _ _=>Nat.blt h n
 | .map h _=>Nat.blt h n
 | .fn _ l=>SV.wfs n l
 | .iface _ v=>SV.wf n v
 | .agg l=>SV.wfs n l
 | .tup l=>SV.wfs n l
 |_=>true
def SV.wfs (n:Nat):List SV->Bool
 | []=>true
 |s::r=>SV.wf n s&&SV.wfs n r
end
def BCol.wf (n:Nat):BCol->Bool
 | .sc _=>true
 | .svs l=>SV.wfs n l
 | .own h _=>Nat.blt h n
 | .arrs _ _ _=>true
 | .ptrs h _=>Nat.blt h n
def f0N (n:Nat):List BCol->Bool
 | []=>true
 |c::l=>c.wf n&&f0N n l
def ObjS.wf (n:Nat):ObjS->Bool
 | .map _ _ _ _ vs _ _=>f0N n vs
 | .iter h _ _ _ _=>Nat.blt h n
 | .niter=>true
 | .siter _ _=>true
 | .bld0 _=>true
 | .bld _ h _ _=>Nat.blt h n
 | .brow _ _=>true
 | .bag _=>true
def Blk.wf (n:Nat):Blk->Bool
 | .cells l=>SV.wfs n l
 | .cols _ l=>f0N n l
 | .obj o=>o.wf n
def HB.wf (n:Nat):HB->Prop
 | .one _ b=>b.wf n=true
 | .fam _ dom f=>∀q,dom q->(f q).wf n=true
def f0O (n:Nat):a0k->Prop
 | []=>True
 |(h,some hb)::r=>Nat.blt h n=true/\hb.wf n/\f0O n r
 |(_,none)::_=>False
def rho (l:List Nat) (nx:Nat) (h:Nat):Nat:=match nth l h with|some k=>k|none=>nx+(h-l.length)
def HB.fits:HB->HB->Prop
 | .one r b,.one r' b'=>(r|| !r')=true/\b'=b
 | .fam r dom f,.fam r' dom' f'=>(r|| !r')=true/\dom'=dom/\f'=f
 |_,_=>False
def a1q (o:Option HB) (hb:HB):Prop:=match o with|some hb'=>hb.fits hb'|none=>False
def f0B (ρ:Nat->Nat):a0k->a0k->Prop
 | [],_=>True
 |(h,some hb)::r,H=>a1q (a0w H (ρ h)) (hb.ren ρ)/\f0B ρ r H
 |(_,none)::_,_=>False
def n0E (ρ:Nat->Nat):a0k->a0k
 | []=> []
 |(h,some hb)::r=>(ρ h,some (hb.ren ρ))::n0E ρ r
 |(h,none)::r=>(ρ h,none)::n0E ρ r
def n0F (ρ:Nat->Nat):a0k->a0k
 | []=> []
 |(h,some hb)::r=>bif hb.ro then n0F ρ r else (ρ h,none)::n0F ρ r
 |(_,none)::r=>n0F ρ r
def d0C (P:Program) (f:FuncId):Prop:=∃fn c,P.funcs[f]? =some fn/\fn.body=some c/\(fn.name=="runtime.NumGoroutine")=false
def c0x (H:a0k):Prop:=∀h q ro b,Ent H h q ro b->ro=false
def Out (g:G) (w:World) (n:Nat) (H:a0k) (post:SV->a0k->Nat->Prop) (v:Value) (w':World):Prop:=
 ∃sv H' n' g',post sv H' n'/\n<=n'/\g'.upto n'/\(∀h q,h<n->g' h q=g h q)/\Rv g' sv v/\Holds g' H' w'/\c0x H'/\Fr (f0z g H) w w'/\a1g g' H' (f0z g H) w
def FC (P:Program) (n:Nat) (f:FuncId) (args:List SV) (H:a0k) (post:SV->a0k->Nat->Prop):Prop:=
 (d0C P f/\∀(g:G) (w:World) (vals:List Value),g.glob->g.upto n->Holds g H w->Rvs g args vals->Calls P f vals.toArray w (fun e w'=>∃v,e= .returned v/\Out g w n H post v w'))\/
 (∀(g:G) (w:World) (vals:List Value),g.glob->g.upto n->Holds g H w->Rvs g args vals->∃v w',(callFunc f vals.toArray).run P w= .ok (.value v) w'/\Out g w n H post v w')
def a0g (r:SV) (H':a0k) (n':Nat):SV->a0k->Nat->Prop:=fun sv h n=>sv=r/\h=H'/\n=n'
def a0K (P:Program) (f:FuncId) (args:List SV) (r:SV):Prop:=FC P 1 f args [] (a0g r [] 1)
def j0u (l:List Nat) (n:Nat):Bool:=match l with| []=>true|k::r=>Nat.blt k n&&j0u r n
def o0c:List Nat->Bool
 |0::_=>true
 |_=>false
def v0O (ρ:Nat->Nat) (h:Nat):a0k->Bool
 | []=>true
 |(k,_)::r=>(Nat.beq h k|| !Nat.beq (ρ h) (ρ k))&&v0O ρ h r
def p0y (ρ:Nat->Nat) (all:a0k):a0k->Bool
 | []=>true
 |(h,some hb)::r=>(hb.ro||v0O ρ h all)&&p0y ρ all r
 |(_,none)::r=>p0y ρ all r
structure Fits (l:List Nat) (nx:Nat) (args args0:List SV) (H Hc:a0k):Prop where
 head:o0c l=true
 inj:p0y (rho l nx) H H=true
 args:args=SV.rens (rho l nx) args0
 wfA:SV.wfs l.length args0=true
 wfH:f0O l.length H
 heap:f0B (rho l nx) H Hc
def a0n (P:Program) (f:FuncId) (args:List SV) (Hc:a0k) (nx:Nat) (K:SV->a0k->Nat->Prop):Prop:=
 ∃(l:List Nat) (args0:List SV) (H:a0k) (post:SV->a0k->Nat->Prop),FC P l.length f args0 H post/\Fits l nx args args0 H Hc/\∀sv H' n',post sv H' n'->K (SV.ren (rho l nx) sv) (n0E (rho l nx) H'++n0F (rho l nx) H) (n'-l.length)
def a0i (P:Program) (f:FuncId) (args:List SV) (Hc:a0k) (nx:Nat) (K:SV->a0k->Nat->List Nat->Prop):Prop:=
 ∃(l:List Nat) (args0:List SV) (H:a0k) (r:SV) (H':a0k) (n':Nat),FC P l.length f args0 H (a0g r H' n')/\Fits l nx args args0 H Hc/\K (SV.ren (rho l nx) r) (n0E (rho l nx) H'++n0F (rho l nx) H) (n'-l.length) l
def a1r:a0k->a0k->(a0k->Prop)->Prop
 | [],H,K=>K H
 |x::r,H,K=>a1r r H (fun H'=>K (x::H'))
def o0d (vs:VS) (d:Option Nat) (r:SV) (U:a0k) (b:Nat) (K:VS->Prop):Prop:=
 match vs with
 |⟨e,H,n⟩=>a1r U H (fun H'=>match d,b with
  |some d,0=>K ⟨(d,r)::e,H',n⟩
  |none,0=>K ⟨e,H',n⟩
  |some d,b+1=>K ⟨(d,r)::e,H',n+(b+1)⟩
  |none,b+1=>K ⟨e,H',n+(b+1)⟩)
def m1N (l:List SV):List SV->List SV
 | []=>l
 |c=>l++c
def m1O (R:Res) (K:SV->a0k->Nat->List Nat->Prop):Prop:=
 match R with
 | .no=>False
 | .ok r U b t=>K r U b t
 | .when c r U b t=>c/\K r U b t
def n1a (vs:VS) (d:Option Nat) (it:SV) (K:VS->Prop):Prop:=
 match it with
 | .ptr h 0 0 0=>(match a0w vs.heap h with
   |some (.one false (.obj (.iter hm 0 bs ck sn)))=>(match a0w vs.heap hm with
    |some (.one _ (.obj (.map ka ea n ks vl bs2 ck2)))=>(bs2=bs/\ck2=ck)/\(∀i,i<n->¬i∈sn->o0d vs d (.tup [.bool true,f1c ka ks i,b0n ea vl i]) [(h,some (.one false (.obj (.iter hm 0 bs ck (i::sn)))))] 0 K)/\((∀i,i<n->i∈sn)->o0d vs d (.tup [.bool false]) [] 0 K)
    |_=>False)
   |_=>False)
 |_=>False
def i1o (vs:VS) (d:Option Nat) (it:SV) (K:VS->Prop):Prop:=
 match it with
 | .ptr h 0 0 0=>(match a0w vs.heap h with
   |some (.one false (.obj (.siter s p)))=>(p<s.size->o0d vs d (.tup [.bool true,.int .i64 (p:Int),.int .i32 ((Utf8.decode s p).1:Int)]) [(h,some (.one false (.obj (.siter s (p+(Utf8.decode s p).2)))))] 0 K)/\(¬p<s.size->o0d vs d (.tup [.bool false]) [] 0 K)
   |_=>False)
 |_=>False
def r0k (P:Program) (t:TypeId) (name:String) (f:FuncId):Prop:=∀v w,(method (P.types.size+Made.depth) t v name).run P w= .ok (f,v) w
def vex (P:Program) (T:Tab) (o:Oper) (vs:VS) (K:VS->Prop):Prop:=
 match vs with
 |⟨e,H,nx⟩=>match o.op with
  | .call { callee:= .value f,args:=args,argTypes:=_}=>(match gv ⟨e,H,nx⟩ f,gvs ⟨e,H,nx⟩ args.toList with
    |some (.fn n cap),some l=>a0n P n (m1N l cap) H nx (fun r U b=>o0d ⟨e,H,nx⟩ o.dst r U b K)
    |_,_=>False)
  | .call { callee:= .invoke x name,args:=args,argTypes:=_}=>(match gv ⟨e,H,nx⟩ x,gvs ⟨e,H,nx⟩ args.toList with
    |some (.iface t v),some l=>∃f,r0k P t name f/\a0n P f (v::l) H nx (fun r U b=>o0d ⟨e,H,nx⟩ o.dst r U b K)
    |_,_=>False)
  | .next x false=>(match gv ⟨e,H,nx⟩ x with
    |some it=>n1a ⟨e,H,nx⟩ o.dst it K
    |none=>False)
  | .next x true=>(match gv ⟨e,H,nx⟩ x with
    |some it=>i1o ⟨e,H,nx⟩ o.dst it K
    |none=>False)
  | .binOp .eql t x y ty=>(match gv ⟨e,H,nx⟩ x,gv ⟨e,H,nx⟩ y with
    |some (.sl _ _ _ 0),some .nsl=>(match a0M T t with
     |some ti=>bif Nat.beq ti.kind 6 then (o0d ⟨e,H,nx⟩ o.dst (.bool true) [] 0 K/\o0d ⟨e,H,nx⟩ o.dst (.bool false) [] 0 K) else False
     |none=>False)
    |_,_=>m1O (eff T ⟨e,H,nx⟩ nx (.binOp .eql t x y ty)) (fun r U b _=>o0d ⟨e,H,nx⟩ o.dst r U b K))
  |op=>m1O (eff T ⟨e,H,nx⟩ nx op) (fun r U b _=>o0d ⟨e,H,nx⟩ o.dst r U b K)
def vop (P:Program) (T:Tab) (ops:List Oper) (o:Oper) (vs:VS) (K:VS->Prop):Prop:=
 match o.guard with
 |none=>vex P T o vs K
 |some (j,want)=>match nth ops j with
  |some oj=>(match oj.dst with
   |some d=>(match a0M vs.env d with
    |some (.bool true)=>bif want then vex P T o vs K else o0d vs o.dst (.raw undef) [] 0 K
    |some (.bool false)=>bif want then o0d vs o.dst (.raw undef) [] 0 K else vex P T o vs K
    |some (.raw (.tuple _))=>o0d vs o.dst (.raw undef) [] 0 K
    |_=>False)
   |none=>False)
  |none=>False
def known (vs:VS) (d:Nat) (K:VS->Prop):Prop:=
 match vs with
 |⟨e,h,n⟩=>match a0M e d with
  |some (.bool b)=>br b (K ⟨(d,.bool true)::e,h,n⟩) (K ⟨(d,.bool false)::e,h,n⟩)
  |some (.raw (.tuple _))=>K ⟨e,h,n⟩
  |_=>False
def d0m (ops:List Oper) (o:Oper):Option Nat:=
 match o.guard with
 |none=>none
 |some (j,_)=>match nth ops j with
  |some oj=>oj.dst
  |none=>none
def m1P (P:Program) (T:Tab) (ops:List Oper):List Oper->VS->(VS->Prop)->Prop
 | [],vs,K=>K vs
 |o::r,vs,K=>match d0m ops o with
  |none=>vop P T ops o vs (fun vs'=>m1P P T ops r vs' K)
  |some d=>known vs d (fun v1=>vop P T ops o v1 (fun vs'=>m1P P T ops r vs' K))
structure Rec where
 keys:List Nat
 touch:List Nat
def a0s:a0k->List Nat
 | []=> []
 |(h,_)::r=>h::a0s r
def a1s:List Nat->Nat->Bool
 | [],_=>false
 |x::r,t=>Nat.beq x t||a1s r t
def d0O:List Nat->List Nat->Bool
 | [],_=>true
 |x::r,l=> !a1s l x&&d0O r l
def v0P (o:Oper) (j:Nat):Bool:=o.after.toList.any (fun e=>Region.binds .any e&&Nat.beq e.on j)
def l0n (ops:List Oper):Nat->Oper->Nat->Bool
 |0,o,j=>v0P o j
 |n+1,o,j=>v0P o j||o.after.toList.any (fun e=>Region.binds .any e&&Nat.blt j e.on&&(match nth ops e.on with|some oe=>l0n ops n oe j|none=>false))
def f1e:Operand->Operand->Bool
 | .tmp a,.tmp b=>Nat.beq a b
 |_,_=>false
def e0v:List Oper->Nat
 | []=>0
 |o::r=>(match o.op with| .mapEntry _ _ _=>e0v r+1|_=>e0v r)
def k0K (x:Operand) (l:List Oper):Bool:=
 match x with
 | .tmp a=>l.all (fun o=>match o.dst with|some d=> !Nat.beq d a|none=>true)
 |_=>false
def l0o (ops:List Oper) (k:Nat) (o:Oper):Bool:=
 match nth ops k,o.op with
 |some ok,.mapEntry ty x y=>(match ok.op with
  | .lookup ty' x' y' false=>Nat.beq ty' ty&&f1e x' x&&f1e y' y&&Nat.beq (e0v ops) 1&&k0K x (ops.drop k)&&k0K y (ops.drop k)
  |_=>false)
 |_,_=>false
def h0t (ops:List Oper) (o:Oper) (keys touch:List Nat):Nat->List Rec->Bool
 |_,[]=>true
 |i,c::r=>((d0O c.keys touch&&d0O c.keys keys&&d0O keys c.touch)||l0n ops 7 o i||l0o ops i o)&&h0t ops o keys touch (i+1) r
def y0i {α:Type}:List α->α->List α
 | [],x=> [x]
 |y::l,x=>y::y0i l x
def f1f {α:Type}:List α->α->(List α->Prop)->Prop
 | [],x,K=>K [x]
 |y::l,x,K=>f1f l x (fun l'=>K (y::l'))
theorem p0z {α:Type}:∀(l:List α) (x:α) (K:List α->Prop),f1f l x K=K (y0i l x)
 | [],x,K=>rfl
 |y::l,x,K=>by simp only [f1f,y0i,p0z l]
def f1g:a0k->(List Nat->Prop)->Prop
 | [],K=>K []
 |(h,_)::r,K=>f1g r (fun l=>K (h::l))
theorem p0A:∀(U:a0k) (K:List Nat->Prop),f1g U K=K (a0s U)
 | [],K=>rfl
 |(h,_)::r,K=>by simp only [f1g,a0s,p0A r]
def n0H (ops:List Oper) (o:Oper) (recs:List Rec) (vs:VS) (r:SV) (U:a0k) (b:Nat) (t:List Nat) (K:List Rec->VS->Prop):Prop:=
 f1g U (fun ks=>bif h0t ops o ks t 0 recs then f1f recs ⟨ks,t⟩ (fun recs'=>o0d vs o.dst r U b (K recs')) else False)
def n1b (P:Program) (T:Tab) (ops:List Oper) (o:Oper) (recs:List Rec) (vs:VS) (K:List Rec->VS->Prop):Prop:=
 match vs with
 |⟨e,H,nx⟩=>match o.op with
  | .call { callee:= .value f,args:=args,argTypes:=_}=>(match gv ⟨e,H,nx⟩ f,gvs ⟨e,H,nx⟩ args.toList with
    |some (.fn n cap),some l=>a0i P n (m1N l cap) H nx (fun r U b t=>n0H ops o recs ⟨e,H,nx⟩ r U b t K)
    |_,_=>False)
  | .call { callee:= .invoke x name,args:=args,argTypes:=_}=>(match gv ⟨e,H,nx⟩ x,gvs ⟨e,H,nx⟩ args.toList with
    |some (.iface t v),some l=>∃f,r0k P t name f/\a0i P f (v::l) H nx (fun r U b t=>n0H ops o recs ⟨e,H,nx⟩ r U b t K)
    |_,_=>False)
  |op=>m1O (eff T ⟨e,H,nx⟩ nx op) (fun r U b t=>n0H ops o recs ⟨e,H,nx⟩ r U b t K)
def n1c (P:Program) (T:Tab) (ops:List Oper) (o:Oper) (recs:List Rec) (vs:VS) (K:List Rec->VS->Prop):Prop:=
 match o.guard with
 |none=>n1b P T ops o recs vs K
 |some (j,want)=>match nth ops j with
  |some oj=>(match oj.dst with
   |some d=>(match a0M vs.env d with
    |some (.bool true)=>bif want then n1b P T ops o recs vs K else n0H ops o recs vs (.raw undef) [] 0 [] K
    |some (.bool false)=>bif want then n0H ops o recs vs (.raw undef) [] 0 [] K else n1b P T ops o recs vs K
    |some (.raw (.tuple _))=>n0H ops o recs vs (.raw undef) [] 0 [] K
    |_=>False)
   |none=>False)
  |none=>False
def t0J (P:Program) (T:Tab) (ops:List Oper):List Oper->List Rec->VS->(VS->Prop)->Prop
 | [],_,vs,K=>K vs
 |o::r,recs,vs,K=>match d0m ops o with
  |none=>n1c P T ops o recs vs (fun recs' vs'=>t0J P T ops r recs' vs' K)
  |some d=>known vs d (fun v1=>n1c P T ops o recs v1 (fun recs' vs'=>t0J P T ops r recs' vs' K))
def f0C:Nat->List Nat->Bool
 |0,_=>true
 |n+1,l=>(match nth l n with|some k=>Nat.beq k n|none=>false)&&f0C n l
def l0p:List Nat->Bool
 | []=>true
 |x::r=> !a1s r x&&l0p r
def f0b (ρ:Nat->Nat):Env->Env->Prop
 | [],_=>True
 |(t,sv)::r,e=>a0M e t=some (SV.ren ρ sv)/\f0b ρ r e
def b0D (ρ:Nat->Nat):a0k->a0k->Prop
 | [],_=>True
 |(h,some hb)::r,e=>a0w e (ρ h)=some (hb.ren ρ)/\b0D ρ r e
 |(_,none)::_,_=>False
structure Weak (n0:Nat) (l:List Nat) (vs v0:VS):Prop where
 ids:(Nat.ble 1 n0&&Nat.ble n0 l.length&&f0C n0 l&&Nat.beq l.length v0.next&&j0u l vs.next&&p0y (rho l vs.next) v0.heap v0.heap)=true
 env:f0b (rho l vs.next) v0.env vs.env
 heap:b0D (rho l vs.next) v0.heap vs.heap
def SLe (n:Nat) (R:Nat->Nat->Option (Nat×Nat)) (sv sv':SV):Prop:=∀(g g1:G) (v:Value),G.le g g1->(∀h q p,n<=h->R h q=some p->∀β,g p.1 p.2=some β->g1 h q=some β)->Rv g sv v->Rv g1 sv' v
def BLs (n:Nat) (R:Nat->Nat->Option (Nat×Nat)):Blk->Blk->Prop
 | .cells l,.cells l'=>l'.length=l.length/\∀j sv',nth l' j=some sv'->∃sv,nth l j=some sv/\SLe n R sv sv'
 | .cols m cs,.cols m' cs'=>m'<=m/\cs'.length=cs.length/\((∀c∈cs,c.len=m)->∀c∈cs',c.len=m')/\∀i j c',i<m'->nth cs' j=some c'->∃c,nth cs j=some c/\SLe n R (c.at i) (c'.at i)
 | .obj (.map ka ea m ks vl bs ck),.obj (.map ka' ea' m' ks' vl' bs' ck')=>ka'=ka/\ea'=ea/\m'=m/\ks'=ks/\bs'=bs/\ck'=ck/\((∀c∈vl,c.len=m)->∀c∈vl',c.len=m')/\∀i,i<m'->SLe n R (b0n ea' vl i) (b0n ea' vl' i)
 |_,_=>False
def BLe (n:Nat) (R:Nat->Nat->Option (Nat×Nat)) (b b':Blk):Prop:=b'=b\/BLs n R b b'
def n1d (n:Nat) (R:Nat->Nat->Option (Nat×Nat)) (h q h0 q0:Nat):Prop:=(h<n/\h0=h/\q0=q)\/(n<=h/\R h q=some (h0,q0))
def i1p:List Nat->a0k
 | []=> []
 |h::r=>(h,none)::i1p r
def j0v:List BCol->Bool
 | []=>true
 | .sc (.ints _ [])::r=>j0v r
 | .sc (.strs [])::r=>j0v r
 | .sc (.bools [])::r=>j0v r
 | .svs []::r=>j0v r
 | .own _ []::r=>j0v r
 | .ptrs _ 0::r=>j0v r
 |_=>false
structure Relab (H:a0k) (n:Nat) (R:Nat->Nat->Option (Nat×Nat)) (E:Nat->Nat) (N:a0k) (dr:List Nat) (m:Nat):Prop where
 lim:∀h q p,n<=h->R h q=some p->h<n+m
 ro:∀h q ro b,Ent N h q ro b->ro=false
 src:∀h q b',Ent N h q false b'->(∃h0 q0 b0,n1d n R h q h0 q0/\Ent H h0 q0 false b0/\BLe n R b0 b')\/((n<=h/\h<n+m)/\R h q=none/\∃cs,b'= .cols 0 cs/\j0v cs=true/\E h=cs.length)
 took:∀h q p,n<=h->R h q=some p->p.1∈dr
 inj:∀h q h' q' h0 q0,h∈a0s N->h'∈a0s N->n1d n R h q h0 q0->n1d n R h' q' h0 q0->h=h'/\q=q'
inductive Up where
 |slot (t:Nat) (cs:List BCol)
 |cell (h j:Nat) (cs:List BCol)
 |relab (R:Nat->Nat->Option (Nat×Nat)) (E:Nat->Nat) (N:a0k) (dr:List Nat) (m:Nat)
def SV.none:SV->Bool
 | .nsl=>true
 | .zsl=>true
 |_=>false
def up1 (u:Up) (vs:VS):Option VS:=
 match vs,u with
 |⟨e,H,n⟩,.slot t cs=>(match a0M e t with
  |some v=>bif v.none&&j0v cs then some ⟨(t,.sl n 0 0 0)::e,(n,some (.one false (.cols 0 cs)))::H,n+1⟩ else none
  |none=>none)
 |⟨e,H,n⟩,.cell h j cs=>(match a0w H h with
  |some (.one false (.cells l))=>(match nth l j with
   |some v=>bif v.none&&j0v cs then some ⟨e,(h,some (.one false (.cells (b0s l j (.sl n 0 0 0)))))::(n,some (.one false (.cols 0 cs)))::H,n+1⟩ else none
   |none=>none)
  |_=>none)
 |_,.relab _ _ _ _ _=>none
def upK:List Up->VS->(VS->Prop)->Prop
 | [],vs,K=>K vs
 | .relab R E N dr m::r,⟨e,H,n⟩,K=>Relab H n R E N dr m/\a1r N (i1p dr++H) (fun H'=>upK r ⟨e,H',n+m⟩ K)
 |u::r,vs,K=>match up1 u vs with
  |some v=>upK r v K
  |none=>False
def a0o (n0:Nat) (body:VS->(Exit->VS->Prop)->Prop) (vs:VS) (K:Exit->VS->Prop):Prop:=
 ∃(α:Type) (st:α->VS) (inv:α->Prop) (μ:α->Nat) (x0:α) (l0:List Nat) (u0:List Up),upK u0 vs (fun v=>Weak n0 l0 v (st x0))/\inv x0/\∀x,inv x->body (st x) (fun e v'=>match e with
  | .normal=>∃y l u,inv y/\μ y<μ x/\upK u v' (fun v=>Weak n0 l v (st y))
  |e=>K e v')
def i1q (vs:VS) (d:Nat) (b:Bool) (K:VS->Prop):Prop:=
 match vs with
 |⟨e,h,n⟩=>K ⟨(d,.bool b)::e,h,n⟩
def r1x (f:VS->(Exit->VS->Prop)->Prop) (K:Exit->VS->Prop):Exit->VS->Prop:=fun e vs'=>match e with| .normal=>f vs' K|e=>K e vs'
def a1t (id:Nat) (K:Exit->VS->Prop):Exit->VS->Prop:=fun e vs'=>match e with| .exit i=>(bif Nat.beq i id then K .normal vs' else K (.exit i) vs')|e=>K e vs'
def j1J (K:Exit->VS->Prop):Exit->VS->Prop:=fun e vs'=>match e with| .goto _=>False|e=>K e vs'
def b0x (P:Program) (T:Tab) (n0:Nat):Code->VS->(Exit->VS->Prop)->Prop
 | .skip,vs,K=>K .normal vs
 | .region _ ops draw,vs,K=>bif draw then t0J P T ops.toList ops.toList [] vs (K .normal) else m1P P T ops.toList ops.toList vs (K .normal)
 | .seq a b,vs,K=>b0x P T n0 a vs (r1x (fun v k=>b0x P T n0 b v k) K)
 | .cond c x y,vs,K=>(match c,gv vs c with
   | .tmp t,some (.bool b)=>br b (i1q vs t true (fun v=>b0x P T n0 x v K)) (i1q vs t false (fun v=>b0x P T n0 y v K))
   | .const (.bool true),_=>b0x P T n0 x vs K
   | .const (.bool false),_=>b0x P T n0 y vs K
   |_,_=>False)
 | .block id c,vs,K=>b0x P T n0 c vs (a1t id K)
 | .loop c,vs,K=>a0o n0 (b0x P T n0 c) vs K
 | .exit id,vs,K=>K (.exit id) vs
 | .ret,vs,K=>K .ret vs
 | .label _,vs,K=>K .normal vs
 | .scope c,vs,K=>b0x P T n0 c vs (j1J K)
 |_,_,_=>False
def y0j (T:Tab) (vs:VS):List ResultVar->(List SV->Prop)->Prop
 | [],K=>K []
 | .tmp t::r,K=>(match a0M vs.env t with|some v=>y0j T vs r (fun l=>K (v::l))|none=>False)
 | .cell a t::r,K=>(match a0M vs.env a,a0M T t with
   |some (.ptr h q i j),some ti=>m1O (c0h vs.heap h q (fun _ b=>a1m b i j ti h)) (fun v _ _ _=>y0j T vs r (fun m=>K (v::m)))
   |_,_=>False)
def c0g:List SV->SV
 | [x]=>x
 |l=> .tup l
structure RetOk (n0:Nat) (l:List Nat) (r:SV) (vs:VS) (r0:SV) (H0:a0k) (n1:Nat):Prop where
 ids:(Nat.ble 1 n0&&Nat.ble n0 l.length&&f0C n0 l&&Nat.beq l.length n1&&j0u l vs.next&&p0y (rho l vs.next) H0 H0)=true
 res:r=SV.ren (rho l vs.next) r0
 heap:b0D (rho l vs.next) H0 vs.heap
 rw:c0x H0
def a0E (n0:Nat) (post:SV->a0k->Nat->Prop) (r:SV) (vs:VS):Prop:=
 ∃l u r0 H0 n1,upK u vs (fun v=>RetOk n0 l r v r0 H0 n1)/\post r0 H0 n1
def n1e (T:Tab) (n0:Nat) (rs:List ResultVar) (post:SV->a0k->Nat->Prop):Exit->VS->Prop
 | .normal,vs=>y0j T vs rs (fun l=>a0E n0 post (c0g l) vs)
 | .ret,vs=>y0j T vs rs (fun l=>a0E n0 post (c0g l) vs)
 |_,_=>False
def l0q:Nat->List SV->Env
 |_,[]=> []
 |i,v::r=>(i,v)::l0q (i+1) r
def f0P (N:Nat):List Oper->Bool
 | []=>true
 |o::r=>(match o.dst with|some d=>Nat.ble (d+1) N|none=>true)&&f0P N r
def h0D:List Operand->List Nat
 | []=> []
 | .tmp t::r=>t::h0D r
 |_::r=>h0D r
def looks (ops:List Oper) (o:Oper):List Nat:=
 match d0m ops o with
 |some d=>d::h0D o.op.operands.toList
 |none=>h0D o.op.operands.toList
def r0l (ops:List Oper) (i j:Nat) (oi oj:Oper):Bool:=
 Nat.beq i j||(match oj.dst with
  |some t=>(match oi.dst with|some u=> !Nat.beq u t|none=>true)&&(!a1s (looks ops oi) t||(Nat.blt j i&&l0n ops 7 oi j)||(Nat.blt i j&&l0n ops 7 oj i))
  |none=>true)
def y0k (ops:List Oper) (i:Nat) (oi:Oper):Nat->List Oper->Bool
 |_,[]=>true
 |j,oj::r=>r0l ops i j oi oj&&y0k ops i oi (j+1) r
def r0m (i:Nat) (o:Oper):Bool:=o.after.toList.all (fun e=> !Region.binds .any e||Nat.blt e.on i)
def o0e (ops:List Oper) (i:Nat) (o:Oper):Bool:=
 (match o.dst with|some t=> !a1s (looks ops o) t|none=>true)&&r0m i o&&(match d0m ops o,o.guard with|none,some _=>false|_,_=>true)
def v0Q (ops:List Oper):Nat->List Oper->Bool
 |_,[]=>true
 |i,o::r=>o0e ops i o&&y0k ops i o 0 ops&&v0Q ops (i+1) r
def a1u (ops:List Oper):Bool:=v0Q ops 0 ops
def c0r (N:Nat):Code->Bool
 | .region _ ops draw=>f0P N ops.toList&&(!draw||a1u ops.toList)
 | .seq a b=>c0r N a&&c0r N b
 | .cond _ a b=>c0r N a&&c0r N b
 | .block _ c=>c0r N c
 | .loop c=>c0r N c
 | .scope c=>c0r N c
 |_=>true
mutual
theorem Rv.mono {g g':G} (h:G.le g g'):∀(sv:SV) (v:Value),Rv g sv v->Rv g' sv v
 | .bool _,_,r=>by simp only [Rv] at r⊢;exact r
 | .int _ _,_,r=>by simp only [Rv] at r⊢;exact r
 | .str _,_,r=>by simp only [Rv] at r⊢;exact r
 | .ptr a q i j,v,r=>by simp only [Rv] at r⊢;obtain ⟨β,e,k⟩:=r;exact ⟨β,h _ _ _ e,k⟩
 | .nptr,_,r=>by simp only [Rv] at r⊢;exact r
 | .sl a q i n,v,r=>by
   simp only [Rv] at r⊢;obtain ⟨ad,c,e,hn,k⟩:=r;refine ⟨ad,c,e,hn,?_⟩;rcases k with k|⟨β,hb,k1,k2⟩
   .exact .inl k
   .exact .inr ⟨β,h _ _ _ hb,k1,k2⟩
 | .nsl,_,r=>by simp only [Rv] at r⊢;exact r
 | .zsl,_,r=>by simp only [Rv] at r⊢;exact r
 | .map a q,v,r=>by simp only [Rv] at r⊢;obtain ⟨β,e,k⟩:=r;exact ⟨β,h _ _ _ e,k⟩
 | .nmap,_,r=>by simp only [Rv] at r⊢;exact r
 | .fn f l,v,r=>by simp only [Rv] at r⊢;obtain ⟨vs,e,k⟩:=r;exact ⟨vs,e,Rvs.mono h l _ k⟩
 | .iface t s,v,r=>by simp only [Rv] at r⊢;obtain ⟨u,e,k⟩:=r;exact ⟨u,e,Rv.mono h s _ k⟩
 | .nif,_,r=>by simp only [Rv] at r⊢;exact r
 | .agg l,v,r=>by simp only [Rv] at r⊢;obtain ⟨vs,e,k⟩:=r;exact ⟨vs,e,Rvs.mono h l _ k⟩
 | .arr n l,v,r=>by simp only [Rv] at r⊢;exact r
 | .tup l,v,r=>by simp only [Rv] at r⊢;obtain ⟨vs,e,k⟩:=r;exact ⟨vs,e,Rvs.mono h l _ k⟩
 | .raw _,_,r=>by simp only [Rv] at r⊢;exact r
 | .unk,_,_=>by simp only [Rv]
theorem Rvs.mono {g g':G} (h:G.le g g'):∀(l:List SV) (vs:List Value),Rvs g l vs->Rvs g' l vs
 | [],_,r=>by simp only [Rvs] at r⊢;exact r
 |s::ss,vs,r=>by
  simp only [Rvs] at r⊢;obtain ⟨v,vs',e,h1,h2⟩:=r;exact ⟨v,vs',e,Rv.mono h s v h1,Rvs.mono h ss vs' h2⟩
end
theorem rvi {g:G} {k:IntKind} {n:Int}:Rv g (.int k n) (.int k n):=by rfl
theorem rvb {g:G} {b:Bool}:Rv g (.bool b) (.bool b):=by rfl
theorem rvt {g:G} {b:ByteArray}:Rv g (.str b) (.string b):=by rfl
theorem G.le.refl (g:G):G.le g g:=fun _ _ _ h=>h
theorem G.le.trans {a b c:G} (h:G.le a b) (k:G.le b c):G.le a c:=fun _ _ _ hx=>k _ _ _ (h _ _ _ hx)
theorem Rvs.length {g:G}:∀(l:List SV) (vs:List Value),Rvs g l vs->vs.length=l.length
 | [],vs,r=>by simp_all [Rvs]
 |s::ss,vs,r=>by
  obtain ⟨v,vs',e,_,h2⟩:=r;simp [e,Rvs.length ss vs' h2]
theorem b0l {α:Type} (l:List α) (i:Nat):nth l i=l[i]?:=by
 induction l generalizing i with
 |nil=>rfl
 |cons x l ih=>cases i with
  |zero=>rfl
  |succ i=>simp [nth,ih]
theorem Rvs.nth {g:G}:∀(l:List SV) (vs:List Value) (i:Nat) (sv:SV),Rvs g l vs->nth l i=some sv->∃v,vs[i]? =some v/\Rv g sv v
 | [],vs,i,sv,_,h=>by trivial
 |s::ss,vs,i,sv,r,h=>by
  obtain ⟨v,vs',e,h1,h2⟩:=r;cases i with
  |zero=>simp_all [Sy.nth]
  |succ i=>obtain ⟨u,hu,hr⟩:=Rvs.nth ss vs' i sv h2 h;simp_all
theorem y0l (g:G) (v:Value):Rv g (cv v) v:=by
 unfold cv;split<;>simp [Rv]
theorem k0k (g:G):∀l:List Value,Rvs g (l.map cv) l
 | []=>by rfl
 |v::l=>by exact ⟨v,l,rfl,y0l g v,k0k g l⟩
theorem Col.at_ok (g:G) (c:Col) (i:Nat):Rv g (c.at i) (c.val i):=by cases c<;>simp [Col.at,Col.val,Rv]
def c0c (g:G) (vs:VS) (a:Act):Prop:=∀t sv,a0M vs.env t=some sv->Rv g sv (a.tmps.getD t undef)
theorem a0F {g:G} {vs:VS} {a:Act} (hg:g.glob) (h:c0c g vs a) {x:Operand} {sv:SV} (hx:gv vs x=some sv):Rv g sv (a.eval x):=by
 cases x with
 |tmp t=>exact h t sv hx
 |const v=>simp only [gv,injEq] at hx;subst hx;exact y0l g v
 |global n=>
  simp only [gv,injEq] at hx;subst hx;obtain ⟨es,cap,e⟩:=hg n;simp_all [Rv,Act.eval,Base.addr]
 |func f=>grind [gv,Rv,Rvs,Act.eval]
theorem v0R {g:G} {vs:VS} {a:Act} (hg:g.glob) (R:c0c g vs a):∀(xs:List Operand) (l:List SV),gvs vs xs=some l->Rvs g l (xs.map a.eval)
 | [],l,h=>by simp_all [gvs,Rvs]
 |x::xs,l,h=>by
  simp only [gvs] at h;split at h
  .rename_i v hv;split at h
   .rename_i l' hl';simp only [injEq] at h;subst h;exact ⟨_,_,rfl,a0F hg R hv,v0R hg R xs l' hl'⟩
   grind
  grind
theorem c0t {a b:IntKind} (h:f0J a b=true):a=b:=by
 revert h;cases a<;>cases b<;>simp [f0J]
theorem b0u (a b:ByteArray):(a.toList==b.toList)=decide (a=b):=by
 rw [<-beq_toListBytes];by_cases h:a=b
 .simp_all [beq_toListBytes]
 .have:(a==b)=false:=by
   rw [beq_toListBytes,u1P,u1P];obtain ⟨⟨x⟩⟩:=a;obtain ⟨⟨y⟩⟩:=b;grind
  simp_all
theorem c0i {α:Type} (k x:Nat) (v:α) (r:List (Nat×α)):a0M ((k,v)::r) x=if k=x then some v else a0M r x:=by
 simp only [a0M];simp
theorem a0T (k x:Nat) (v:Option HB) (r:a0k):a0w ((k,v)::r) x=if k=x then v else a0w r x:=by
 simp only [a0w];simp
theorem Ent.fn {H:a0k} {h q:Nat} {ro ro':Bool} {b b':Blk} (x:Ent H h q ro b) (y:Ent H h q ro' b'):ro=ro'/\b=b':=by
 obtain ⟨hb,h1,h2,h3⟩:=x;obtain ⟨hb',k1,k2,k3⟩:=y;rw [h1] at k1;cases k1;cases hb<;>simp only [HB.is] at h2 k2
 all_goals simp_all
theorem a0v {k:Nat} {v:Option HB} {H:a0k} {h q:Nat} {ro:Bool} {b:Blk}:Ent ((k,v)::H) h q ro b↔(k=h/\∃hb,v=some hb/\hb.is q b/\hb.ro=ro)\/(k≠h/\Ent H h q ro b):=by
 grind [Ent,a0T]
theorem Res.is_guard {c:Prop} {R:Res} {r:SV} {U:a0k} {b:Nat} {t:List Nat}:(R.guard c).is r U b t↔c/\R.is r U b t:=by
 cases R<;>simp [Res.guard,Res.is,and_assoc]
theorem a0J {H:a0k} {h q:Nat} {F:Bool->Blk->Res} {r:SV} {U:a0k} {b:Nat} {t:List Nat} (hr:(c0h H h q F).is r U b t):∃ro bl,Ent H h q ro bl/\(F ro bl).is r U b t:=by
 unfold c0h at hr;split at hr
 .rename_i ro bl hh;split at hr
  .exact ⟨ro,bl,⟨_,hh,⟨rfl,rfl⟩,rfl⟩,hr⟩
  trivial
 .rename_i ro dom f hh;rw [Res.is_guard] at hr;exact ⟨ro,f q,⟨_,hh,⟨hr.1,rfl⟩,rfl⟩,hr.2⟩
 trivial
theorem r0n {b:Blk} {i:Nat} {R:Res} {r:SV} {U:a0k} {n:Nat} {t:List Nat} (hr:(b.elt i R).is r U n t):b.has i/\R.is r U n t:=by
 unfold Blk.elt at hr;split at hr
 .split at hr
  all_goals trivial
 .rw [Res.is_guard] at hr;exact hr
 trivial
theorem d0E (β:Base) (i j k:Nat):(β.addr i j).add k=β.addr i (j+k):=by
 unfold Addr.add Base.addr;grind
theorem d0P (β:Base) (i k:Nat):(β.addr i 0).add (k*β.es)=β.addr (i+k) 0:=by
 rw [d0E];unfold Base.addr;grind
structure After (g:G) (H:a0k) (nx:Nat) (w:World) (r:SV) (U:a0k) (b:Nat) (g':G) (v:Value) (w':World):Prop where
 le:G.le g g'
 born:∀h q,g h q=none->¬(nx<=h/\h<nx+b)->g' h q=none
 rv:Rv g' r v
 heap:Holds g' (U++H) w'
 fr:Fr (f0z g H) w w'
 own:a1g g' (U++H) (f0z g H) w
theorem Fr.refl (W:Nat->Prop) (w:World):Fr W w w:=⟨rfl,rfl,rfl,m0c _,fun _ _ _=>rfl⟩
theorem e0E {g:G} {H:a0k} {nx:Nat} {w:World} {r:SV} {v:Value} (hH:Holds g H w) (hr:Rv g r v):After g H nx w r [] 0 g v w:=
 ⟨G.le.refl g,fun _ _ h _=>h,hr,hH,Fr.refl _ _,fun h q b β he hg hc=> .inl ⟨h,q,b,β,he,hg,hc,rfl⟩⟩
def Blk.plain:Blk->Prop
 | .obj _=>False
 |_=>True
theorem v0S {b:Blk} (h:b.plain) {g:G} {w:World} {β:Base}:b.Ok g w β:=by
 cases b<;>first|trivial
theorem y0m {g g':G} {β:Base} {o:ObjS} {w w':World} (h:o.Ok g w β) (hg:G.le g g') (hw:w'.heap[β.blk]? =w.heap[β.blk]?):o.Ok g' w' β:=by
 cases o with
 |map ka ea n ks vs bs ck=>
  obtain ⟨es,e,m⟩:=h;exact ⟨es,by simp_all,m.size,m.kl,m.vl,m.bl,m.nd,m.lt,fun i x hx=>⟨(m.row i x hx).1,(m.row i x hx).2.1,Rv.mono hg _ _ (m.row i x hx).2.2⟩⟩
 |iter h0 q bs ck sn=>obtain ⟨β',e1,e,e2⟩:=h;exact ⟨β',hg _ _ _ e1,by simp_all,e2⟩
 |niter=>obtain ⟨a,b,c,e⟩:=h;exact ⟨a,b,c,by simp_all⟩
 |siter s p=>exact hw.trans h
 |bld0 T=>exact hw.trans h
 |bld T h0 q n=>obtain ⟨β',e1,e⟩:=h;exact ⟨β',hg _ _ _ e1,hw.trans e⟩
 |brow T s=>obtain ⟨c,e,k⟩:=h;exact ⟨c,hw.trans e,k⟩
 |bag Q=>obtain ⟨a,c,v,n,es,hq,e,k⟩:=h;exact ⟨a,c,v,n,es,hq,hw.trans e,k⟩
theorem y0n {g g':G} {β:Base} {b:Blk} {w w':World} (h:b.Ok g w β) (hg:G.le g g') (hw:0<β.cap->w'.heap[β.blk]? =w.heap[β.blk]?):b.Ok g' w' β:=by
 cases b with
 |obj o=>exact ⟨h.1,h.2.1,y0m h.2.2 hg (hw h.1)⟩
 |_=>trivial
theorem b0E {g g':G} {β:Base} {ro:Bool} {b:Blk} {w w':World} (h:BlkAt g β ro b w) (hg:G.le g g') (hs:w.heap.size<=w'.heap.size) (hw:0<β.cap->w'.heap[β.blk]? =w.heap[β.blk]?):BlkAt g' β ro b w':=by
 refine ⟨fun hl=>s1j (h.lt hl) hs,h.es,h.len,h.cap,?_,?_,?_,y0n h.obj hg hw⟩
 .intro i j sv hi hj;have hc:=h.cap i hi;obtain ⟨v,h1,h2⟩:=h.cell i j sv hi hj;exact ⟨v,by rw [u1f (w:=w) (a:=β.addr i j) (hw (by omega))];omega,Rv.mono hg _ _ h2⟩
 .intro i j v hi hj hv;have hc:=h.cap i hi;rw [u1f (w:=w) (a:=β.addr i j) (hw (by omega))] at hv;exact h.one i j v hi hj hv
 .intro hr i j hi hj;obtain ⟨h1,v,h2⟩:=h.rw hr i j hi hj;have:=hw (by omega);exact ⟨by rw [World.frozen?_of_block (w:=w) (a:=β.addr i j) this];omega,v,by rw [u1f (w:=w) (a:=β.addr i j) this];omega⟩
theorem c0K {g g':G} {H U:a0k} {nx b:Nat} {w w':World} {r:SV} {v:Value} {h1 q1:Nat} {b1:Blk} {β1:Base} (hH:Holds g H w) (hle:G.le g g') (hborn:∀h q,g h q=none->¬(nx<=h/\h<nx+b)->g' h q=none) (hrv:Rv g' r v)
  (ent:∀h q ro b,Ent (U++H) h q ro b->(h=h1/\q=q1/\ro=false/\b=b1)\/(¬(h=h1/\q=q1)/\Ent H h q ro b))
  (hg1:g' h1 q1=some β1) (hB:BlkAt g' β1 false b1 w')
  (org:0<β1.cap->w.heap.size<=β1.blk\/∃h0 q0 b0 β0,Ent H h0 q0 false b0/\g h0 q0=some β0/\0<β0.cap/\β0.blk=β1.blk/\∀h q ro b,Ent (U++H) h q ro b->¬(h=h1/\q=q1)->¬(h=h0/\q=q0))
  (os:w'.os=w.os) (tape:w'.tape=w.tape) (out:w'.output=w.output) (size:w.heap.size<=w'.heap.size) (blk:∀k,k<w.heap.size->¬(0<β1.cap/\k=β1.blk)->w'.heap[k]? =w.heap[k]?):After g H nx w r U b g' v w':=by
 have apart:∀h q ro bb β,Ent (U++H) h q ro bb->¬(h=h1/\q=q1)->Ent H h q ro bb->g h q=some β->0<β.cap->0<β1.cap->β1.blk≠β.blk:=by
  intro h q ro bb β he hne heH hg hc hc1;rcases org hc1 with ho|⟨h0,q0,b0,β0,he0,hg0,hc0,eb,hno⟩
  .obtain ⟨β',e',hB'⟩:=hH.blk h q ro bb heH;rw [hg] at e';cases e';have:=hB'.lt hc;omega
  .rw [<-eb];exact hH.sep h0 q0 h q b0 ro bb β0 β (fun e=>hno h q ro bb he hne ⟨e.1.symm,e.2.symm⟩) he0 heH hg0 hg hc0 hc
 refine ⟨hle,hborn,hrv,⟨?_,?_⟩,⟨os,tape,out,size,?_⟩,?_⟩
 .intro h q ro bb he;rcases ent h q ro bb he with rX|⟨hne,heH⟩
  .simp_all
  .obtain ⟨β,hg,hB'⟩:=hH.blk h q ro bb heH;refine ⟨β,hle _ _ _ hg,b0E hB' hle size (fun hc=>blk _ (hB'.lt hc) ?_)⟩;grind
 .intro h q h' q' bb ro' bb' β β' hne he he' hg hg' hc hc';rcases ent h q false bb he with ⟨rfl,rfl,_,rfl⟩|⟨hn,heH⟩
  .rcases ent h' q' ro' bb' he' with ⟨e1,e2,_⟩|⟨hn',heH'⟩
   .omega
   .obtain ⟨β2,hg2,_⟩:=hH.blk h' q' ro' bb' heH';have:=hle _ _ _ hg2;grind
  .obtain ⟨β2,hg2,_⟩:=hH.blk h q false bb heH;have e2:=hle _ _ _ hg2;rw [hg] at e2;cases e2;rcases ent h' q' ro' bb' he' with ⟨rfl,rfl,_,rfl⟩|⟨hn',heH'⟩
   .grind
   .obtain ⟨β3,hg3,_⟩:=hH.blk h' q' ro' bb' heH';have e3:=hle _ _ _ hg3;rw [hg'] at e3;cases e3;exact hH.sep h q h' q' bb ro' bb' β β' hne heH heH' hg2 hg3 hc hc'
 .intro k hk hW;refine blk k hk ?_;rintro ⟨hc1,e⟩;rcases org hc1 with ho|⟨h0,q0,b0,β0,he0,hg0,hc0,eb,_⟩
  .omega
  .exact hW ⟨h0,q0,b0,β0,he0,hg0,hc0,by omega⟩
 .intro h q bb β he hg hc;rcases ent h q false bb he with ⟨rfl,rfl,_,rfl⟩|⟨hn,heH⟩
  .rw [hg1] at hg;cases hg;rcases org hc with ho|⟨h0,q0,b0,β0,he0,hg0,hc0,eb,_⟩
   .omega
   .exact .inl ⟨h0,q0,b0,β0,he0,hg0,hc0,eb⟩
  .obtain ⟨β2,hg2,_⟩:=hH.blk h q false bb heH;have e2:=hle _ _ _ hg2;rw [hg] at e2;cases e2;exact .inl ⟨h,q,bb,β,heH,hg2,hc,rfl⟩
def G.add (g:G) (n:Nat) (β:Base):G:=fun h q=>if h=n/\q=0 then some β else g h q
theorem G.le_add {g:G} {n:Nat} (β:Base) (hn:g n 0=none):G.le g (g.add n β):=by
 intro h q β' e;grind [G.add]
theorem l0r {g:G} {H:a0k} {nx:Nat} {w w':World} {r:SV} {v:Value} {b1:Blk} {β1:Base} (hH:Holds g H w) (hn:∀q,g nx q=none) (hrv:Rv (g.add nx β1) r v)
  (hB:BlkAt (g.add nx β1) β1 false b1 w') (org:0<β1.cap->w.heap.size<=β1.blk)
  (os:w'.os=w.os) (tape:w'.tape=w.tape) (out:w'.output=w.output) (size:w.heap.size<=w'.heap.size) (blk:∀k,k<w.heap.size->w'.heap[k]? =w.heap[k]?):After g H nx w r [(nx,some (.one false b1))] 1 (g.add nx β1) v w':=by
 refine c0K (h1:=nx) (q1:=0) (b1:=b1) (β1:=β1) hH (G.le_add β1 (hn 0)) ?_ hrv ?_ (by simp [G.add]) hB (fun hc=> .inl (org hc)) os tape out size (fun k hk _=>blk k hk)
 .grind [G.add]
 .intro h q ro b he;simp only [k1p] at he;rcases a0v.1 he with ⟨e,hb,e1,e2,e3⟩|⟨e,he⟩
  .cases e1;exact .inl ⟨e.symm,e2.1,e3.symm,e2.2⟩
  grind
theorem t0K {H:a0k} {h q:Nat} {ro:Bool} {b b':Blk} (he:Ent H h q ro b):∃hb,a0w H h=some hb/\b0c H h q b'= [(h,some (hb.set q b'))]/\hb.ro=ro/\(hb.set q b').ro=ro/\∀x bb,(hb.set q b').is x bb↔(x=q/\bb=b')\/(x≠q/\hb.is x bb):=by
 obtain ⟨hb,e1,e2,e3⟩:=he;refine ⟨hb,e1,f0a e1,e3,?_,?_⟩
 .cases hb<;>exact e3
 .cases hb with
  |one r b0=>
   simp only [HB.set,HB.is,e2.1];simp_all
  |fam r dom f=>
   grind [HB.is,HB.set]
theorem f1h {H:a0k} {h q:Nat} {ro:Bool} {b:Blk} (he:Ent H h q ro b):∃hb,a0w H h=some hb/\f0K H h q= [(h,hb.drop q)]/\∀hb',hb.drop q=some hb'->hb'.ro=hb.ro/\∀x bb,hb'.is x bb->x≠q/\hb.is x bb:=by
 obtain ⟨hb,e1,e2,e3⟩:=he;refine ⟨hb,e1,by simp [f0K,e1],?_⟩;intro hb' e;cases hb with
 |one r b0=>trivial
 |fam r dom f=>
  simp only [HB.drop,injEq] at e;subst e;refine ⟨rfl,?_⟩;simp_all [HB.is]
theorem d0n {g:G} {H:a0k} {nx:Nat} {w w':World} {r:SV} {v:Value} {h q:Nat} {b b1:Blk} {β:Base} (hH:Holds g H w) (he:Ent H h q false b) (hg:g h q=some β) (hc:0<β.cap) (hrv:Rv g r v)
  (hB:BlkAt g β false b1 w')
  (os:w'.os=w.os) (tape:w'.tape=w.tape) (out:w'.output=w.output) (size:w.heap.size<=w'.heap.size) (blk:∀k,k<w.heap.size->k≠β.blk->w'.heap[k]? =w.heap[k]?):After g H nx w r (b0c H h q b1) 0 g v w':=by
 obtain ⟨hb,e1,e2,e3,e4,e5⟩:=t0K (b':=b1) he;have ent:∀h' q' ro' b',Ent (b0c H h q b1++H) h' q' ro' b'->(h'=h/\q'=q/\ro'=false/\b'=b1)\/(¬(h'=h/\q'=q)/\Ent H h' q' ro' b'):=by
  intro h' q' ro' b' hx;rw [e2] at hx;simp only [k1p] at hx;rcases a0v.1 hx with ⟨e,hb',k1,k2,k3⟩|⟨e,hx⟩
  .cases k1;subst e;rcases (e5 q' b').1 k2 with ⟨rfl,rfl⟩|⟨hne,hi⟩
   .simp_all
   .exact .inr ⟨fun x=>hne x.2,hb,e1,hi,e3.trans (e4.symm.trans k3)⟩
  grind
 refine c0K (h1:=h) (q1:=q) (b1:=b1) (β1:=β) hH (G.le.refl g) (fun _ _ h _=>h) hrv ent hg hB (fun _=> .inr ⟨h,q,b,β,he,hg,hc,rfl,fun _ _ _ _ _ hn=>hn⟩) os tape out size ?_;simp_all
section ops
variable {P:Program} {T:Tab} {g:G} {vs:VS} {a:Act} {w:World} {r:SV} {U:a0k} {b:Nat} {t:List Nat}
theorem a0p {c:Bool} {R:Res} (h:(bif c then R else .no).is r U b t):c=true/\R.is r U b t:=by all_goals grind [Res.is]
theorem c0X {c:Bool} {R:Res} (h:(bif c then .no else R).is r U b t):c=false/\R.is r U b t:=by all_goals grind [Res.is]
theorem l0s {t:TypeId} {ti:TI} (h:k0j P t=some ti):∃i d,P.info? t=some i/\P.underlying t=some d/\i.size=ti.size/\b0f d=ti.kind:=by
 unfold k0j at h;grind
theorem l0t {t:TypeId} {ti:TI} (h:k0j P t=some ti) (w:World):(sizeOf t).run P w= .ok ti.size w:=by
 obtain ⟨i,d,hi,_,hs,_⟩:=l0s h;simp_all [sizeOf,typeInfo]
theorem y0o {t:TypeId} {ti:TI} (h:k0j P t=some ti) (w:World):(isAgg t).run P w= .ok ti.agg w:=by
 obtain ⟨i,d,_,hd,_,hk⟩:=l0s h;unfold TI.agg;rw [<-hk];cases d<;>simp [isAgg,run_underlying hd,b0f]<;>decide
theorem c0L {t:TypeId} {ti:TI} (h:k0j P t=some ti) {k:Nat} (hk:Nat.beq ti.kind k=true):∃d,P.underlying t=some d/\b0f d=k:=by
 obtain ⟨i,d,_,hd,_,hkd⟩:=l0s h;simp_all
theorem riv {k:IntKind} {n:Int} {v:Value} (h:Rv g (.int k n) v):v= .int k n:=by trivial
theorem rbv {b:Bool} {v:Value} (h:Rv g (.bool b) v):v= .bool b:=by trivial
theorem rtv {b:ByteArray} {v:Value} (h:Rv g (.str b) v):v= .string b:=by trivial
theorem rpv {h q i j:Nat} {v:Value} (r:Rv g (.ptr h q i j) v):∃β,g h q=some β/\v= .pointer (some (β.addr i j)):=by trivial
theorem rnv {v:Value} (r:Rv g .nptr v):v= .pointer none:=by trivial
theorem rsv {h q i n:Nat} {v:Value} (r:Rv g (.sl h q i n) v):∃a c,v= .slice a n c/\n<=c/\(c=0\/∃β,g h q=some β/\a=some (β.addr i 0)/\i+c<=β.cap):=by trivial
theorem rav {l:List SV} {v:Value} (r:Rv g (.agg l) v):∃vs,v= .agg vs/\Rvs g l vs.toList:=by trivial
theorem ruv {l:List SV} {v:Value} (r:Rv g (.tup l) v):∃vs,v= .tuple vs/\Rvs g l vs.toList:=by trivial
theorem p1N {n:Nat} {l:List Col} {v:Value} (r:Rv g (.arr n l) v):∃vs,v= .agg vs/\y0c n l vs:=by trivial
theorem a1v {op:BinOp} {k:IntKind} {x y:Int} (ty:TypeId) (hs:op≠.shl/\op≠.shr) (h:(a1i op k x y).is r U b t):
  U= []/\b=0/\∃v,Rv g r v/\∀w,(binOp op ty (.int k x) (.int k y)).run P w= .ok v w:=by
 cases op<;>try exact h.elim
 case add=>obtain ⟨rfl,rfl,rfl,_⟩:=h;exact ⟨rfl,rfl,_,rvi,fun w=>by simp [binOp,Op.intArith]⟩
 case sub=>obtain ⟨rfl,rfl,rfl,_⟩:=h;exact ⟨rfl,rfl,_,rvi,fun w=>by simp [binOp,Op.intArith]⟩
 case mul=>obtain ⟨rfl,rfl,rfl,_⟩:=h;exact ⟨rfl,rfl,_,rvi,fun w=>by simp [binOp,Op.intArith]⟩
 case quo=>obtain ⟨h0,rfl,rfl,rfl,_⟩:=h;exact ⟨rfl,rfl,_,rvi,fun w=>by simp [binOp,Op.intDiv,h0]⟩
 case rem=>obtain ⟨h0,rfl,rfl,rfl,_⟩:=h;exact ⟨rfl,rfl,_,rvi,fun w=>by simp [binOp,Op.intDiv,h0]⟩
 case eql=>obtain ⟨rfl,rfl,rfl,_⟩:=h;exact ⟨rfl,rfl,_,rvb,fun w=>by simp [binOp];rfl⟩
 case neq=>obtain ⟨rfl,rfl,rfl,_⟩:=h;exact ⟨rfl,rfl,_,rvb,fun w=>by simp [binOp];rfl⟩
 case lss=>obtain ⟨rfl,rfl,rfl,_⟩:=h;exact ⟨rfl,rfl,_,rvb,fun w=>by simp [binOp,Op.intCmp]⟩
 case leq=>obtain ⟨rfl,rfl,rfl,_⟩:=h;exact ⟨rfl,rfl,_,rvb,fun w=>by simp [binOp,Op.intCmp]⟩
 case gtr=>obtain ⟨rfl,rfl,rfl,_⟩:=h;exact ⟨rfl,rfl,_,rvb,fun w=>by simp [binOp,Op.intCmp]⟩
 case geq=>obtain ⟨rfl,rfl,rfl,_⟩:=h;exact ⟨rfl,rfl,_,rvb,fun w=>by simp [binOp,Op.intCmp]⟩
 case and=>obtain ⟨rfl,rfl,rfl,_⟩:=h;exact ⟨rfl,rfl,_,rvi,fun w=>by simp [binOp,Op.intBits,t0I]⟩
 case or=>obtain ⟨rfl,rfl,rfl,_⟩:=h;exact ⟨rfl,rfl,_,rvi,fun w=>by simp [binOp,Op.intBits,ior]⟩
 case xor=>obtain ⟨rfl,rfl,rfl,_⟩:=h;exact ⟨rfl,rfl,_,rvi,fun w=>by simp [binOp,Op.intBits,i1l]⟩
 case andNot=>obtain ⟨rfl,rfl,rfl,_⟩:=h;exact ⟨rfl,rfl,_,rvi,fun w=>by simp [binOp,Op.intBits,a1h]⟩
theorem a1w {op:BinOp} {x y:ByteArray} (ty:TypeId) (h:(a1j op x y).is r U b t):
  U= []/\b=0/\∃v,Rv g r v/\∀w,(binOp op ty (.string x) (.string y)).run P w= .ok v w:=by
 cases op<;>try exact h.elim
 case add=>
  obtain ⟨h0,rfl,rfl,rfl,_⟩:=h;exact ⟨rfl,rfl,_,rvt,fun w=>by
   have h2:¬(((x.size+y.size:Nat):Int)>IntKind.i64.max):=by
    have:IntKind.i64.max=9223372036854775807:=by rfl
    omega
   simp only [binOp,Op.stringOp,if_neg h2];rfl⟩
 case eql=>obtain ⟨rfl,rfl,rfl,_⟩:=h;exact ⟨rfl,rfl,_,rvb,fun w=>by simp [binOp,Op.stringOp,b0u,seq]⟩
 case neq=>obtain ⟨rfl,rfl,rfl,_⟩:=h;exact ⟨rfl,rfl,_,rvb,fun w=>by simp [binOp,Op.stringOp,b0u,seq]⟩
 case lss=>obtain ⟨rfl,rfl,rfl,_⟩:=h;exact ⟨rfl,rfl,_,rvb,fun w=>by rfl⟩
 case leq=>obtain ⟨rfl,rfl,rfl,_⟩:=h;exact ⟨rfl,rfl,_,rvb,fun w=>by simp [binOp,Op.stringOp,b0V,b0u,seq]⟩
 case gtr=>obtain ⟨rfl,rfl,rfl,_⟩:=h;exact ⟨rfl,rfl,_,rvb,fun w=>by simp [binOp,Op.stringOp,b0V,b0u,seq]⟩
 case geq=>obtain ⟨rfl,rfl,rfl,_⟩:=h;exact ⟨rfl,rfl,_,rvb,fun w=>by rfl⟩
theorem h0E (op:BinOp) (t:TypeId) (x y:Operand) (k k':IntKind) (m n:Int) (w:World):(eqGuard op t x y (.int k m) (.int k' n)).run P w= .ok () w:=by
 cases op<;>simp [eqGuard]
theorem t0L (op:BinOp) (t:TypeId) (x y:Operand) (m n:ByteArray) (w:World):(eqGuard op t x y (.string m) (.string n)).run P w= .ok () w:=by
 cases op<;>simp [eqGuard]
theorem k0l (op:BinOp) (t:TypeId) (x y:Operand) (m n:Bool) (w:World):(eqGuard op t x y (.bool m) (.bool n)).run P w= .ok () w:=by
 cases op<;>simp [eqGuard]
theorem l0u (op:BinOp) (t:TypeId) (x y:Operand) (m n:Option Addr) (w:World):(eqGuard op t x y (.pointer m) (.pointer n)).run P w= .ok () w:=by
 cases op<;>simp [eqGuard]
theorem l0v (d:Nat) (xs ys:Array Value) (w:World):∀(fs:List Field) (i:Nat) (ks:List Nat) (l m:List SV) (r:Bool),b0q P i fs=some ks->
  Rvs g l (xs.toList.drop i)->Rvs g m (ys.toList.drop i)->a0Z ks l m=some r->(Op.eqFields (d+1) xs ys fs).run P w= .ok r w:=by
 intro fs;induction fs with
 |nil=>
  intro i ks l m r hf _ _ he;simp only [b0q,injEq] at hf;subst hf;cases l with
  |nil=>cases m with
   |nil=>simp only [a0Z,injEq] at he;subst he;simp [Op.eqFields]
   |cons _ _=>simp [a0Z] at he
  |cons _ _=>simp [a0Z] at he
 |cons f fs ih=>
  intro i ks l m r hf hx hy he;simp only [b0q] at hf;cases hg:((f.name !="_")&& !Nat.beq (a0V P f.type) 0&&(f.offset==i)) with
  |false=>rw [hg] at hf;simp at hf
  |true=>
   rw [hg] at hf;simp only [cond_true] at hf;simp only [n0M,bne_iff_ne,ne_eq,beq_iff_eq] at hg;obtain ⟨⟨hname,_⟩,hoff⟩:=hg;split at hf
   .rename_i kr hkr;simp only [injEq] at hf;subst hf;generalize hk:a0V P f.type=k at he;have step:∀(s t:SV) (ss ts:List SV),l=s::ss->m=t::ts->
      (∀u v,Rv g s u->Rv g t v->∃b c,r=(b&&c)/\a0Z kr ss ts=some c/\(Op.equalIn (d+1) f.type u v).run P w= .ok b w)->(Op.eqFields (d+1) xs ys (f::fs)).run P w= .ok r w:=by
     intro s t ss ts hl hm key;subst hl;subst hm;simp only [Rvs] at hx hy;obtain ⟨u,us,hu,ru,rus⟩:=hx;obtain ⟨v,vs',hv,rv,rvs⟩:=hy;have hxu:xs[i]? =some u:=by
      have:xs.toList[i]? =some u:=by
       have h0:=congrArg (fun z:List Value=>z[0]?) hu;simpa using h0
      simpa using this
     have hyv:ys[i]? =some v:=by
      have:ys.toList[i]? =some v:=by
       have h0:=congrArg (fun z:List Value=>z[0]?) hv;simpa using h0
      simpa using this
     have hus:us=xs.toList.drop (i+1):=by
      have h0:=congrArg (fun z:List Value=>z.drop 1) hu;simp at h0;exact h0.symm
     have hvs:vs'=ys.toList.drop (i+1):=by
      have h0:=congrArg (fun z:List Value=>z.drop 1) hv;simp at h0;exact h0.symm
     rw [hus] at rus;rw [hvs] at rvs;have part1:∀(zs:Array Value) (z:Value),zs[i]? =some z->(part f.type zs f.offset).run P w= .ok z w:=by
      intro zs z hz;rw [hoff];have hk':=hk;unfold a0V at hk';split at hk'
      .rename_i hd;simp [part,isAgg,run_underlying hd,hz]
      .rename_i hd;simp [part,isAgg,run_underlying hd,hz]
      .rename_i hd;simp [part,isAgg,run_underlying hd,hz]
      .subst hk';cases s<;>cases t<;>simp [a0Z] at he
     obtain ⟨b,c,hr,hc,hrun⟩:=key u v ru rv;have hi:=ih (i+1) kr ss ts c hkr rus rvs hc;simp only [Op.eqFields,hname,ne_eq,not_false_eq_true,if_true,k1h,part1 xs u hxu,part1 ys v hyv,b1g,hrun];cases b with
     |false=>simp [hr]
     |true=>simp [hr,hi]
    unfold a0V at hk;unfold a0Z at he;split at he
    .exact absurd ‹k::kr= []› (by simp)
    .rename_i kr' p x l' q y m' e1;cases e1;cases hpq:f0J p q with
     |false=>rw [hpq] at he;simp at he
     |true=>
      rw [hpq] at he;simp only [cond_true] at he;have hpq':=c0t hpq;subst hpq';split at he
      .rename_i c hc;simp only [injEq] at he;refine step _ _ _ _ rfl rfl fun u v ru rv=>⟨_,c,he.symm,hc,?_⟩
       have e1:=riv ru;have e2:=riv rv;subst e1;subst e2;split at hk<;>first|(rename_i hd;simp [Op.equalIn,run_underlying hd];done)|(rename_i hd;simp [Op.equalIn,run_underlying hd];rfl)|(exfalso;omega)
      .cases he
    .rename_i kr' x l' y m' e1;cases e1;split at he
     .rename_i c hc;simp only [injEq] at he;refine step _ _ _ _ rfl rfl fun u v ru rv=>⟨_,c,he.symm,hc,?_⟩
      have e1:=rtv ru;have e2:=rtv rv;subst e1;subst e2;split at hk<;>first|(rename_i hd;simp [Op.equalIn,run_underlying hd,beq_toListBytes,b0u,seq];done)|(exfalso;omega)
     .cases he
    .rename_i kr' x l' y m' e1;cases e1;split at he
     .rename_i c hc;simp only [injEq] at he;refine step _ _ _ _ rfl rfl fun u v ru rv=>⟨_,c,he.symm,hc,?_⟩
      have e1:=rbv ru;have e2:=rbv rv;subst e1;subst e2;split at hk<;>first|(rename_i hd;simp [Op.equalIn,run_underlying hd];done)|(exfalso;omega)
     .cases he
    .cases he
   .cases hf
theorem d0g:∀(ks1 kr:List Nat) (l m:List SV) (r:Bool),a0Z (ks1++kr) l m=some r->∃l1 l2 m1 m2 b c,l=l1++l2/\m=m1++m2/\l1.length=ks1.length/\m1.length=ks1.length/\a0Z ks1 l1 m1=some b/\a0Z kr l2 m2=some c/\r=(b&&c)
 | [],kr,l,m,r,h=>⟨[],l,[],m,true,r,rfl,rfl,rfl,rfl,by rfl,h,by simp⟩
 |k::ks1,kr,l,m,r,h=>by
  unfold a0Z at h;split at h
  .trivial
  .rename_i ks p x l' q y m' e1;cases e1;cases hpq:f0J p q with
   |false=>simp_all
   |true=>
    rw [hpq] at h;simp only [cond_true] at h;split at h
    .rename_i b0 hb0;obtain ⟨l1,l2,m1,m2,b,c,rfl,rfl,h1,h2,h3,h4,rfl⟩:=d0g ks1 kr _ _ _ hb0;exact ⟨.int p x::l1,l2,.int q y::m1,m2,decide (x=y)&&b,c,rfl,rfl,by grind,by grind,by simp [a0Z,hpq,h3],h4,by grind⟩
    grind
  .rename_i ks x l' y m' e1;cases e1;split at h
   .rename_i b0 hb0;obtain ⟨l1,l2,m1,m2,b,c,rfl,rfl,h1,h2,h3,h4,rfl⟩:=d0g ks1 kr _ _ _ hb0;exact ⟨.str x::l1,l2,.str y::m1,m2,seq x y&&b,c,rfl,rfl,by grind,by grind,by simp [a0Z,h3],h4,by grind⟩
   grind
  .rename_i ks x l' y m' e1;cases e1;split at h
   .rename_i b0 hb0;obtain ⟨l1,l2,m1,m2,b,c,rfl,rfl,h1,h2,h3,h4,rfl⟩:=d0g ks1 kr _ _ _ hb0;exact ⟨.bool x::l1,l2,.bool y::m1,m2,(x==y)&&b,c,rfl,rfl,by grind,by grind,by simp [a0Z,h3],h4,by grind⟩
   grind
  grind
theorem l0w:∀(l1 l2:List SV) (vs:List Value),Rvs g (l1++l2) vs->Rvs g l1 (vs.take l1.length)/\Rvs g l2 (vs.drop l1.length)
 | [],l2,vs,h=>⟨by rfl,h⟩
 |s::l1,l2,vs,h=>by
  simp only [Rvs] at h⊢;obtain ⟨v,vs',rfl,h1,h2⟩:=h;obtain ⟨q1,q2⟩:=l0w l1 l2 vs' h2;grind
theorem a1x {t:TypeId} {ks:List Nat} (h:a1p P t=some ks):∃fs:Array Field,P.underlying t=some (.struct fs)/\P.stoodInHeld t=false/\b0q P 0 fs.toList=some ks/\P.cellsOf t=ks.length:=by
 unfold a1p at h;split at h
 .cases hs: !P.stoodInHeld t with
  |false=>simp_all
  |true=>
   split at h
   .rename_i ks' hf;cases hc:Nat.beq (P.cellsOf t) ks'.length with
    |false=>simp_all
    |true=>
     simp_all
   grind
 grind
theorem r0o {e':Nat} (d:Nat) (hde:e'=d+1) (xs ys:Array Value) (w:World):∀(fs:List Field) (i:Nat) (ks:List Nat) (l m:List SV) (r:Bool),r0j P i fs=some ks->
  Rvs g l (xs.toList.drop i)->Rvs g m (ys.toList.drop i)->a0Z ks l m=some r->(Op.eqFields (e'+1) xs ys fs).run P w= .ok r w:=by
 intro fs;induction fs with
 |nil=>
  intro i ks l m r hf _ _ he;simp only [r0j,injEq] at hf;subst hf;cases l with
  |nil=>cases m with
   |nil=>simp only [a0Z,injEq] at he;subst he;simp [Op.eqFields]
   |cons _ _=>simp [a0Z] at he
  |cons _ _=>simp [a0Z] at he
 |cons f fs ih=>
  intro i ks l m r hf hx hy he;simp only [r0j] at hf;cases hg:((f.name !="_")&&(f.offset==i)) with
  |false=>rw [hg] at hf;simp at hf
  |true=>
   rw [hg] at hf;simp only [cond_true] at hf;simp only [n0M,bne_iff_ne,ne_eq,beq_iff_eq] at hg;obtain ⟨hname,hoff⟩:=hg;cases hsc: !Nat.beq (a0V P f.type) 0 with
   |false=>
    rw [hsc] at hf;simp only [cond_false] at hf;split at hf
    .rename_i ks1 hin;split at hf
     .rename_i kr hkr;simp only [injEq] at hf;subst hf;obtain ⟨l1,l2,m1,m2,b,c,rfl,rfl,hl1,hm1,hb,hc,rfl⟩:=d0g ks1 kr l m r he;obtain ⟨hx1,hx2⟩:=l0w l1 l2 _ hx;obtain ⟨hy1,hy2⟩:=l0w m1 m2 _ hy;rw [u1A,hl1] at hx2;rw [u1A,hm1] at hy2;rw [hl1] at hx1;rw [hm1] at hy1;obtain ⟨fs1,hu,hst,hff,hcs⟩:=a1x hin;have part1:∀(zs:Array Value),(part f.type zs f.offset).run P w= .ok (.agg (zs.extract i (i+ks1.length))) w:=by
       intro zs;rw [hoff];have hsz:(sizeOf f.type).run P w= .ok ks1.length w:=by
        have hi2:(P.info? f.type).isSome=true:=by
         unfold Program.underlying at hu;cases hi3:P.info? f.type with
         |none=>simp [hi3] at hu
         |some x=>rfl
        obtain ⟨x,hx3⟩:=s1q.1 hi2;have:P.cellsOf f.type=x.size:=by simp [Program.cellsOf,hx3]
        simp [sizeOf,typeInfo,hx3,<-hcs,this]
       simp [part,isAgg,run_underlying hu,hsz]
      have hfo:P.fieldsOf f.type=fs1:=by simp [Program.fieldsOf,hu]
      have hrun:(Op.equalIn (e'+1) f.type (.agg (xs.extract i (i+ks1.length))) (.agg (ys.extract i (i+ks1.length)))).run P w= .ok b w:=by
       rw [run_equalIn_struct w e' f.type _ _ (by rw [hfo];exact hu) hst,hfo,hde];refine l0v (g:=g) d _ _ w fs1.toList 0 ks1 l1 m1 b hff ?_ ?_ hb
       .simpa using hx1
       .simpa using hy1
      have hi:=ih (i+ks1.length) kr l2 m2 c hkr hx2 hy2 hc;simp only [Op.eqFields,hname,ne_eq,not_false_eq_true,if_true,k1h,part1 xs,part1 ys,b1g,hrun];cases b with
      |false=>simp
      |true=>simp [hi]
     .cases hf
    .cases hf
   |true=>
   rw [hsc] at hf;simp only [cond_true] at hf;split at hf
   .rename_i kr hkr;simp only [injEq] at hf;subst hf;generalize hk:a0V P f.type=k at he;have step:∀(s t:SV) (ss ts:List SV),l=s::ss->m=t::ts->
      (∀u v,Rv g s u->Rv g t v->∃b c,r=(b&&c)/\a0Z kr ss ts=some c/\(Op.equalIn (e'+1) f.type u v).run P w= .ok b w)->(Op.eqFields (e'+1) xs ys (f::fs)).run P w= .ok r w:=by
     intro s t ss ts hl hm key;subst hl;subst hm;simp only [Rvs] at hx hy;obtain ⟨u,us,hu,ru,rus⟩:=hx;obtain ⟨v,vs',hv,rv,rvs⟩:=hy;have hxu:xs[i]? =some u:=by
      have:xs.toList[i]? =some u:=by
       have h0:=congrArg (fun z:List Value=>z[0]?) hu;simpa using h0
      simpa using this
     have hyv:ys[i]? =some v:=by
      have:ys.toList[i]? =some v:=by
       have h0:=congrArg (fun z:List Value=>z[0]?) hv;simpa using h0
      simpa using this
     have hus:us=xs.toList.drop (i+1):=by
      have h0:=congrArg (fun z:List Value=>z.drop 1) hu;simp at h0;exact h0.symm
     have hvs:vs'=ys.toList.drop (i+1):=by
      have h0:=congrArg (fun z:List Value=>z.drop 1) hv;simp at h0;exact h0.symm
     rw [hus] at rus;rw [hvs] at rvs;have part1:∀(zs:Array Value) (z:Value),zs[i]? =some z->(part f.type zs f.offset).run P w= .ok z w:=by
      intro zs z hz;rw [hoff];have hk':=hk;unfold a0V at hk';split at hk'
      .rename_i hd;simp [part,isAgg,run_underlying hd,hz]
      .rename_i hd;simp [part,isAgg,run_underlying hd,hz]
      .rename_i hd;simp [part,isAgg,run_underlying hd,hz]
      .subst hk';cases s<;>cases t<;>simp [a0Z] at he
     obtain ⟨b,c,hr,hc,hrun⟩:=key u v ru rv;have hi:=ih (i+1) kr ss ts c hkr rus rvs hc;simp only [Op.eqFields,hname,ne_eq,not_false_eq_true,if_true,k1h,part1 xs u hxu,part1 ys v hyv,b1g,hrun];cases b with
     |false=>simp [hr]
     |true=>simp [hr,hi]
    unfold a0V at hk;unfold a0Z at he;split at he
    .exact absurd ‹k::kr= []› (by simp)
    .rename_i kr' p x l' q y m' e1;cases e1;cases hpq:f0J p q with
     |false=>rw [hpq] at he;simp at he
     |true=>
      rw [hpq] at he;simp only [cond_true] at he;have hpq':=c0t hpq;subst hpq';split at he
      .rename_i c hc;simp only [injEq] at he;refine step _ _ _ _ rfl rfl fun u v ru rv=>⟨_,c,he.symm,hc,?_⟩
       have e1:=riv ru;have e2:=riv rv;subst e1;subst e2;split at hk<;>first|(rename_i hd;simp [Op.equalIn,run_underlying hd];done)|(rename_i hd;simp [Op.equalIn,run_underlying hd];rfl)|(exfalso;omega)
      .cases he
    .rename_i kr' x l' y m' e1;cases e1;split at he
     .rename_i c hc;simp only [injEq] at he;refine step _ _ _ _ rfl rfl fun u v ru rv=>⟨_,c,he.symm,hc,?_⟩
      have e1:=rtv ru;have e2:=rtv rv;subst e1;subst e2;split at hk<;>first|(rename_i hd;simp [Op.equalIn,run_underlying hd,beq_toListBytes,b0u,seq];done)|(exfalso;omega)
     .cases he
    .rename_i kr' x l' y m' e1;cases e1;split at he
     .rename_i c hc;simp only [injEq] at he;refine step _ _ _ _ rfl rfl fun u v ru rv=>⟨_,c,he.symm,hc,?_⟩
      have e1:=rbv ru;have e2:=rbv rv;subst e1;subst e2;split at hk<;>first|(rename_i hd;simp [Op.equalIn,run_underlying hd];done)|(exfalso;omega)
     .cases he
    .cases he
   .cases hf
def d0Q (P:Program) (op:Op) (a:Act) (w:World) (v:Value):Prop:=∀o:Oper,o.op=op->(execOp a.eval o).run P w= .ok (.value v) w
theorem e0f {op:BinOp} {c:Bool} (h:(e0B op c).is r U b t):U= []/\b=0/\((op= .eql/\r= .bool c)\/(op= .neq/\r= .bool (!c))):=by
 cases op<;>simp only [e0B,Res.is,Res.one] at h<;>try simp_all
theorem l0x (d:Nat) {ty e:TypeId} (c1 c2:Option Addr) (hd:P.underlying ty=some (.pointer e)) (hn:c1=none\/c2=none) (w:World):(Op.equalIn (d+1) ty (.pointer c1) (.pointer c2)).run P w= .ok (c1.isNone&&c2.isNone) w:=by
 rcases hn with rfl|rfl
 .simp [Op.equalIn,run_underlying hd]
 .cases c1<;>simp [Op.equalIn,run_underlying hd]
theorem p0B (hT:b0t P T) {op:BinOp} {ty t':TypeId} {x y:Operand} {c1 c2:Option Addr} (ex:a.eval x= .pointer c1) (ey:a.eval y= .pointer c2) (hn:c1=none\/c2=none)
  (h:(match a0M T ty with|some ti=>bif Nat.beq ti.kind 7 then e0B op (c1.isNone&&c2.isNone) else .no|none=> .no).is r U b t):U= []/\b=0/\∃v,Rv g r v/\d0Q P (.binOp op ty x y t') a w v:=by
 split at h
 .rename_i ti hti;obtain ⟨hk,h2⟩:=a0p h;obtain ⟨d,hd,hkd⟩:=c0L (hT _ _ hti) hk;obtain ⟨e,hd'⟩:∃e,d= .pointer e:=by cases d<;>first|simp_all [b0f]
  subst hd';have hq:∀w,(Op.equal ty (.pointer c1) (.pointer c2)).run P w= .ok (c1.isNone&&c2.isNone) w:=fun w=>l0x 9999 c1 c2 hd hn w
  obtain ⟨e1,e2,⟨rfl,rfl⟩|⟨rfl,rfl⟩⟩:=e0f h2
  .refine ⟨e1,e2,_,rvb,fun o ho=> ?_⟩;simp_all [execOp,binOp,l0u]
  .refine ⟨e1,e2,_,rvb,fun o ho=> ?_⟩;simp_all [execOp,binOp,l0u]
 trivial
theorem l0y (op:BinOp) (t:TypeId) (x y:Operand) (m n:Option Nat) (w:World):(eqGuard op t x y (.map m) (.map n)).run P w= .ok () w:=by
 cases op<;>simp [eqGuard]
theorem o0f (op:BinOp) (t:TypeId) (x y:Operand) (m n:Option Addr) (i j k l:Nat) (w:World):(eqGuard op t x y (.slice m i j) (.slice n k l)).run P w= .ok () w:=by
 cases op<;>simp [eqGuard]
theorem l0z (d:Nat) {ty k e:TypeId} (c1:Option Nat) (hd:P.underlying ty=some (.map k e)) (w:World):(Op.equalIn (d+1) ty (.map c1) (.map none)).run P w= .ok c1.isNone w:=by
 cases c1<;>simp [Op.equalIn,run_underlying hd]
theorem n0I (d:Nat) {ty e:TypeId} (c1:Option Addr) (i j:Nat) (hd:P.underlying ty=some (.slice e)) (w:World):(Op.equalIn (d+1) ty (.slice c1 i j) (.slice none 0 0)).run P w= .ok c1.isNone w:=by
 cases c1<;>simp [Op.equalIn,run_underlying hd]
theorem v0T (hT:b0t P T) {op:BinOp} {ty t':TypeId} {x y:Operand} {c1:Option Nat} (ex:a.eval x= .map c1) (ey:a.eval y= .map none)
  (h:(match a0M T ty with|some ti=>bif Nat.beq ti.kind 8 then e0B op c1.isNone else .no|none=> .no).is r U b t):U= []/\b=0/\∃v,Rv g r v/\d0Q P (.binOp op ty x y t') a w v:=by
 split at h
 .rename_i ti hti;obtain ⟨hk,h2⟩:=a0p h;obtain ⟨d,hd,hkd⟩:=c0L (hT _ _ hti) hk;obtain ⟨k,e,hd'⟩:∃k e,d= .map k e:=by cases d<;>first|simp_all [b0f]
  subst hd';have hq:∀w,(Op.equal ty (.map c1) (.map none)).run P w= .ok c1.isNone w:=fun w=>l0z 9999 c1 hd w
  obtain ⟨e1,e2,⟨rfl,rfl⟩|⟨rfl,rfl⟩⟩:=e0f h2
  .refine ⟨e1,e2,_,rvb,fun o ho=> ?_⟩;simp_all [execOp,binOp,l0y]
  .refine ⟨e1,e2,_,rvb,fun o ho=> ?_⟩;simp_all [execOp,binOp,l0y]
 trivial
theorem t0M (hT:b0t P T) {op:BinOp} {ty t':TypeId} {x y:Operand} {c1:Option Addr} {i j:Nat} (ex:a.eval x= .slice c1 i j) (ey:a.eval y= .slice none 0 0)
  (h:(match a0M T ty with|some ti=>bif Nat.beq ti.kind 6 then e0B op c1.isNone else .no|none=> .no).is r U b t):U= []/\b=0/\∃v,Rv g r v/\d0Q P (.binOp op ty x y t') a w v:=by
 split at h
 .rename_i ti hti;obtain ⟨hk,h2⟩:=a0p h;obtain ⟨d,hd,hkd⟩:=c0L (hT _ _ hti) hk;obtain ⟨e,hd'⟩:∃e,d= .slice e:=by cases d<;>first|simp_all [b0f]
  subst hd';have hq:∀w,(Op.equal ty (.slice c1 i j) (.slice none 0 0)).run P w= .ok c1.isNone w:=fun w=>n0I 9999 c1 i j hd w
  obtain ⟨e1,e2,⟨rfl,rfl⟩|⟨rfl,rfl⟩⟩:=e0f h2
  .refine ⟨e1,e2,_,rvb,fun o ho=> ?_⟩;simp_all [execOp,binOp,o0f]
  .refine ⟨e1,e2,_,rvb,fun o ho=> ?_⟩;simp_all [execOp,binOp,o0f]
 trivial
theorem n0J (d:Nat) {ty:TypeId} {ms:Array (String×TypeId)} (tx:TypeId) (vx:Value) (hd:P.underlying ty=some (.interface ms)) (w:World):(Op.equalIn (d+1) ty (.iface tx vx) .nilIface).run P w= .ok false w:=by
 simp [Op.equalIn,run_underlying hd]
theorem l0A (d:Nat) {ty:TypeId} {ms:Array (String×TypeId)} (hd:P.underlying ty=some (.interface ms)) (w:World):(Op.equalIn (d+1) ty .nilIface .nilIface).run P w= .ok true w:=by
 simp [Op.equalIn,run_underlying hd]
theorem o0g (op:BinOp) (t:TypeId) (x y:Operand) (tx:TypeId) (vx:Value) (w:World):(eqGuard op t x y (.iface tx vx) .nilIface).run P w= .ok () w:=by
 cases op<;>simp [eqGuard]
theorem l0B (op:BinOp) (t:TypeId) (x y:Operand) (h:(isC x||isC y)=true) (w:World):(eqGuard op t x y .nilIface .nilIface).run P w= .ok () w:=by
 cases op<;>cases x<;>cases y<;>simp [eqGuard,isC] at h⊢
theorem j1K (hT:b0t P T) {op:BinOp} {ty t':TypeId} {x y:Operand} {tx:TypeId} {vx:Value} (ex:a.eval x= .iface tx vx) (ey:a.eval y= .nilIface)
  (h:(match a0M T ty with|some ti=>bif Nat.beq ti.kind 9 then e0B op false else .no|none=> .no).is r U b t):U= []/\b=0/\∃v,Rv g r v/\d0Q P (.binOp op ty x y t') a w v:=by
 split at h
 .rename_i ti hti;obtain ⟨hk,h2⟩:=a0p h;obtain ⟨d,hd,hkd⟩:=c0L (hT _ _ hti) hk;obtain ⟨ms,hd'⟩:∃ms,d= .interface ms:=by cases d<;>first|simp_all [b0f]
  subst hd';have hq:∀w,(Op.equal ty (.iface tx vx) .nilIface).run P w= .ok false w:=fun w=>n0J 9999 tx vx hd w
  obtain ⟨e1,e2,⟨rfl,rfl⟩|⟨rfl,rfl⟩⟩:=e0f h2
  .refine ⟨e1,e2,_,rvb,fun o ho=> ?_⟩;simp_all [execOp,binOp,o0g]
  .refine ⟨e1,e2,_,rvb,fun o ho=> ?_⟩;simp_all [execOp,binOp,o0g]
 trivial
theorem f1i (hT:b0t P T) {op:BinOp} {ty t':TypeId} {x y:Operand} (ex:a.eval x= .nilIface) (ey:a.eval y= .nilIface)
  (h:(match a0M T ty with|some ti=>bif Nat.beq ti.kind 9&&(isC x||isC y) then e0B op true else .no|none=> .no).is r U b t):U= []/\b=0/\∃v,Rv g r v/\d0Q P (.binOp op ty x y t') a w v:=by
 split at h
 .rename_i ti hti;obtain ⟨hk0,h2⟩:=a0p h;rw [n0M] at hk0;obtain ⟨hk,hc⟩:=hk0;obtain ⟨d,hd,hkd⟩:=c0L (hT _ _ hti) hk;obtain ⟨ms,hd'⟩:∃ms,d= .interface ms:=by cases d<;>first|simp_all [b0f]
  subst hd';have hq:∀w,(Op.equal ty .nilIface .nilIface).run P w= .ok true w:=fun w=>l0A 9999 hd w
  obtain ⟨e1,e2,⟨rfl,rfl⟩|⟨rfl,rfl⟩⟩:=e0f h2
  .refine ⟨e1,e2,_,rvb,fun o ho=> ?_⟩;simp_all [execOp,binOp,l0B]
  .refine ⟨e1,e2,_,rvb,fun o ho=> ?_⟩;simp_all [execOp,binOp,l0B]
 trivial
theorem q1h {t:Nat} {s:SV} {v:Value} (r:Rv g (.iface t s) v):∃u,v= .iface t u:=by grind [Rv]
theorem j1L {v:Value} (r:Rv g .nif v):v= .nilIface:=by trivial
theorem t0N {e:TypeId} (h:Nat.beq (a0V P e) 2=true):∃k,P.underlying e=some (.int k):=by
 have h2:=q0d h;grind [a0V]
theorem k0m (d:Nat) {e:TypeId} {k0 k:IntKind} (he:P.underlying e=some (.int k0)) {xs ys:Array Value} {x y:List Int} {n:Nat} (hx:∀j,j<n->xs[j]? =some (.int k (x.getD j 0))) (hy:∀j,j<n->ys[j]? =some (.int k (y.getD j 0))) (w:World):∀is:List Nat,(∀j∈is,j<n)->(Op.eqItems (d+1) e 1 xs ys is).run P w= .ok (is.all (fun j=>decide (x.getD j 0=y.getD j 0))) w
 | [],_=>by rfl
 |j::is,h=>by
  have ih:=k0m d he hx hy w is (fun z hz=>h z (by grind));have hj:=h j (by simp);have p1:∀(zs:Array Value) (v:Value),zs[j]? =some v->(part e zs (j*1)).run P w= .ok v w:=by
   simp_all [part,isAgg,run_underlying]
  have p2:(Op.equalIn (d+1) e (.int k (x.getD j 0)) (.int k (y.getD j 0))).run P w= .ok (decide (x.getD j 0=y.getD j 0)) w:=by
   simp [Op.equalIn,run_underlying he];all_goals rfl
  simp only [Op.eqItems,k1h,p1 xs _ (hx j hj),p1 ys _ (hy j hj),p2,b1g,List.all_cons];cases hd:decide (x.getD j 0=y.getD j 0) with
  |false=>simp
  |true=>trivial
theorem a1y {x y:List Int} {n:Nat} (hx:x.length=n) (hy:y.length=n):(List.range n).all (fun j=>decide (x.getD j 0=y.getD j 0))=decide (x=y):=by
 by_cases e:x=y
 .simp_all
 .rw [decide_eq_false e,Bool.eq_false_iff];intro h;refine e (u1F (by omega) fun j h1 h2=> ?_);have:=s1E.1 h j (s1y.2 (by omega));grind
theorem f1j (hT:b0t P T) {op:BinOp} {ty t':TypeId} {x y:Operand} {n m:Nat} {p q:IntKind} {l1 l2:List Int} (hx:Rv g (.arr n [.ints p l1]) (a.eval x)) (hy:Rv g (.arr m [.ints q l2]) (a.eval y))
  (h:(match a0M T ty with|some ti=>bif Nat.beq ti.kind 5&&Nat.beq n ti.len&&Nat.beq m ti.len&&f0J p q&&(match ti.flat with| [2]=>true|_=>false) then e0B op (decide (l1=l2)) else .no|none=> .no).is r U b t):U= []/\b=0/\∃v,Rv g r v/\d0Q P (.binOp op ty x y t') a w v:=by
 split at h
 .rename_i ti hti;obtain ⟨hk,h2⟩:=a0p h;simp only [n0M] at hk;obtain ⟨⟨⟨⟨c1,c2⟩,c3⟩,c4⟩,c5⟩:=hk;have c2:=q0d c2;have c3:=q0d c3;have c4:=c0t c4;subst c4;subst c2;have hti':=hT _ _ hti;unfold k0j at hti';split at hti'
  .rename_i i d hi hd;simp only [injEq] at hti';cases d with
   |array n0 e=>
    have hlen:n0=ti.len:=by grind
    subst hlen;have hfl:(bif !P.eqGuardType P.depth ty&&Nat.beq (a0V P e) 2&&Nat.beq (P.cellsOf e) 1 then [2] else [])=ti.flat:=by grind
    cases hc:(!P.eqGuardType P.depth ty&&Nat.beq (a0V P e) 2&&Nat.beq (P.cellsOf e) 1) with
    |false=>simp_all
    |true=>
     simp only [n0M] at hc;obtain ⟨⟨hg1,hg2⟩,hg3⟩:=hc;obtain ⟨k0,he⟩:=t0N hg2;have hce:=q0d hg3;simp only [Rv] at hx hy;obtain ⟨xs,ex,ox1,ox2,ox3⟩:=hx;obtain ⟨ys,ey,oy1,oy2,oy3⟩:=hy;have vx:∀j,j<ti.len->xs[j]? =some (.int p (l1.getD j 0)):=fun j hj=>by simpa [Col.val] using ox3 j 0 _ hj rfl
     have vy:∀j,j<ti.len->ys[j]? =some (.int p (l2.getD j 0)):=fun j hj=>by have:=oy3 j 0 _ (by omega) rfl;simp_all [Col.val]
     have lx:l1.length=ti.len:=ox2 (.ints p l1) (by simp);have ly:l2.length=ti.len:=(oy2 (.ints p l2) (by simp)).trans c3;obtain ⟨ie,hie⟩:∃ie,P.info? e=some ie:=by
      unfold Program.underlying at he;grind
     have hrun':∀w,(Op.equalIn 10000 ty (.agg xs) (.agg ys)).run P w= .ok (decide (l1=l2)) w:=by
      intro w;rw [run_equalIn_array w 9999 xs ys hd hie,hce,k0m 9998 he vx vy w _ (fun j hj=>s1y.1 hj),a1y lx ly]
     obtain ⟨e1,e2,⟨rfl,rfl⟩|⟨rfl,rfl⟩⟩:=e0f h2
     .refine ⟨e1,e2,_,rvb,fun o ho=> ?_⟩;simp_all [execOp,run_eqGuard_agg,run_eql_struct]
     .refine ⟨e1,e2,_,rvb,fun o ho=> ?_⟩;simp_all [execOp,k1h,b1g,n1x,run_eqGuard_agg,run_neq_struct]
   |_=>rw [<-hti'] at c1;trivial
  trivial
 trivial
theorem r1y {h q:Nat} {v:Value} (r:Rv g (.map h q) v):∃b,v= .map (some b):=by grind [Rv]
theorem j1M {v:Value} (r:Rv g .nmap v):v= .map none:=by trivial
theorem a1z {v:Value} (r:Rv g .nsl v):v= .slice none 0 0:=by trivial
theorem q1i {h q i n:Nat} {v:Value} (r:Rv g (.sl h q i (n+1)) v):∃a j k,v= .slice (some a) j k:=by
 grind [Rv]
theorem j1N (hT:b0t P T) {op:BinOp} {ty t':TypeId} {x y:Operand} {s u:SV} (hx:Rv g s (a.eval x)) (hy:Rv g u (a.eval y)) (h:(q1d T op ty (isC x||isC y) s u).is r U b t):
  U= []/\b=0/\∃v,Rv g r v/\d0Q P (.binOp op ty x y t') a w v:=by
 unfold q1d at h;split at h
 .rename_i k m _ n;obtain ⟨h0,rfl,rfl,rfl,_⟩:=h;refine ⟨rfl,rfl,_,rvi,fun o ho=> ?_⟩;have:¬n<0:=by omega
  simp [execOp,ho,riv hx,riv hy,h0E,binOp,Op.shift,this,r1c]
 .rename_i k m _ n;obtain ⟨h0,rfl,rfl,rfl,_⟩:=h;refine ⟨rfl,rfl,_,rvi,fun o ho=> ?_⟩;have:¬n<0:=by omega
  simp [execOp,ho,riv hx,riv hy,h0E,binOp,Op.shift,this,i0b]
 .rename_i op' p m q n h1 h2;obtain ⟨hpq,h2'⟩:=a0p h;have:=c0t hpq;subst this;obtain ⟨e1,e2,v,hr,hrun⟩:=a1v (P:=P) (g:=g) ty ⟨fun e=>h1 e,fun e=>h2 e⟩ h2';refine ⟨e1,e2,v,hr,fun o ho=> ?_⟩;simp [execOp,ho,riv hx,riv hy,h0E,hrun]
 .obtain ⟨e1,e2,v,hr,hrun⟩:=a1w (P:=P) (g:=g) ty h;refine ⟨e1,e2,v,hr,fun o ho=> ?_⟩;simp [execOp,ho,rtv hx,rtv hy,t0L,hrun]
 .rename_i op' m n;split at h
  .rename_i ti hti;obtain ⟨hk,h2⟩:=a0p h;obtain ⟨d,hd,hkd⟩:=c0L (hT _ _ hti) hk;have hd':d= .bool:=by cases d<;>first|rfl|(exact absurd hkd (by simp [b0f]))
   subst hd';have hq:∀w,(Op.equal ty (.bool m) (.bool n)).run P w= .ok (m==n) w:=fun w=>run_equalIn_bool w 9999 ty m n hd
   obtain ⟨e1,e2,⟨rfl,rfl⟩|⟨rfl,rfl⟩⟩:=e0f h2
   .refine ⟨e1,e2,_,rvb,fun o ho=> ?_⟩;simp [execOp,ho,rbv hx,rbv hy,k0l,binOp,hq]
   .refine ⟨e1,e2,_,rvb,fun o ho=> ?_⟩;simp [execOp,ho,rbv hx,rbv hy,k0l,binOp,hq]
  .exact h.elim
 all_goals first
  |exact h.elim
  |(rename_i l m
    split at h
    .rename_i ti hti;obtain ⟨hk0,h2⟩:=a0p h;simp only [n0M] at hk0;obtain ⟨hk4,hk⟩:=hk0;split at h2
     .rename_i r0 hr0;obtain ⟨xs,ex,rx⟩:=rav hx;obtain ⟨ys,ey,ry⟩:=rav hy;have hti':=hT _ _ hti;unfold k0j at hti';split at hti'
      .rename_i i d hi hd;simp only [injEq] at hti';cases d with
       |struct fs=>
        have hfl:(bif !P.stoodInHeld ty&& !P.eqGuardType P.depth ty then (r0j P 0 fs.toList).getD [] else [])=ti.flat:=by rw [<-hti']
        cases hc:(!P.stoodInHeld ty&& !P.eqGuardType P.depth ty) with
        |false=>rw [hc] at hfl;simp only [cond_false] at hfl;rw [<-hfl] at hk;simp at hk
        |true=>
         rw [hc] at hfl;simp only [cond_true] at hfl;simp only [n0M,n1s] at hc;have hff:P.fieldsOf ty=fs:=by simp [Program.fieldsOf,hd]
         cases hfk:r0j P 0 fs.toList with
         |none=>rw [hfk] at hfl;simp only [Option.getD_none] at hfl;rw [<-hfl] at hk;simp at hk
         |some ks=>
          rw [hfk] at hfl;simp only [Option.getD_some] at hfl;rw [<-hfl] at hr0;have hrun:∀w,(Op.equalIn (9998+2) ty (.agg xs) (.agg ys)).run P w= .ok r0 w:=by
           intro w;rw [run_equalIn_struct w 9999 ty xs ys (by rw [hff];exact hd) hc.1,hff];exact r0o 9997 rfl xs ys w fs.toList 0 ks l m r0 hfk (by simpa using rx) (by simpa using ry) hr0
          have hrun':∀w,(Op.equalIn 10000 ty (.agg xs) (.agg ys)).run P w= .ok r0 w:=hrun;obtain ⟨e1,e2,⟨rfl,rfl⟩|⟨rfl,rfl⟩⟩:=e0f h2
          .refine ⟨e1,e2,_,rvb,fun o ho=> ?_⟩;simp only [execOp,ho,ex,ey,k1h,run_eqGuard_agg w _ ty x y xs ys hc.2,run_eql_struct,hrun',b1g,n1x]
          .refine ⟨e1,e2,_,rvb,fun o ho=> ?_⟩;simp only [execOp,ho,ex,ey,k1h,run_eqGuard_agg w _ ty x y xs ys hc.2,run_neq_struct,hrun',b1g,n1x]
       |_=>rw [<-hti'] at hk4;exact absurd hk4 (by simp [b0f])
      .cases hti'
     .exact h2.elim
    .exact h.elim)
  |(obtain ⟨β,_,ex⟩:=rpv hx;exact p0B hT ex (rnv hy) (.inr rfl) h)
  |(obtain ⟨β,_,ey⟩:=rpv hy;exact p0B hT (rnv hx) ey (.inl rfl) h)
  |exact p0B hT (rnv hx) (rnv hy) (.inl rfl) h
  |(obtain ⟨_,ex⟩:=r1y hx;exact v0T hT ex (j1M hy) h)
  |exact v0T hT (j1M hx) (j1M hy) h
  |(obtain ⟨_,_,_,ex⟩:=q1i hx;exact t0M hT ex (a1z hy) h)
  |exact t0M hT (a1z hx) (a1z hy) h
  |(obtain ⟨_,ex⟩:=q1h hx;exact j1K hT ex (j1L hy) h)
  |exact f1i hT (j1L hx) (j1L hy) h
  |exact f1j hT hx hy h
theorem r0p {t:TypeId} {ti:TI} (h:k0j P t=some ti) (hk:Nat.beq ti.kind 4=true) {f o n:Nat} {ag:Bool} (hf:nth ti.fields f=some (o,n,ag)) (hn:Nat.beq n 0=false):
  ∃fs fld,P.underlying t=some (.struct fs)/\fs[f]? =some fld/\fld.offset=o/\(∀w,(sizeOf fld.type).run P w= .ok n w)/\(∀w,(isAgg fld.type).run P w= .ok ag w):=by
 unfold k0j at h;split at h
 .rename_i i d hi hd;simp only [injEq] at h;cases d with
  |struct fs=>
   rw [<-h] at hf;rw [b0l] at hf;simp only [f1Q,s1H,t1w] at hf;obtain ⟨fld,hfld,e⟩:=hf;simp only [Prod.mk.injEq] at e;obtain ⟨e1,e2,e3⟩:=e;refine ⟨fs,fld,hd,hfld,e1,?_,?_⟩
   .unfold fsz at e2;split at e2
    .unfold Program.cellsOf at e2;cases hx:P.info? fld.type with
     |none=>simp_all
     |some x=>simp_all [sizeOf,typeInfo]
    simp_all
   .unfold fsz at e2;split at e2
    .rename_i d' hd';intro w;rw [<-e3];unfold y0h isAgg;simp only [k1h,run_underlying hd',hd'];cases d'<;>rfl
    simp_all
  |_=>rw [<-h] at hk;trivial
 grind
theorem v0U:∀(n:Nat) (l:List SV) (vals:List Value) (r:List SV),Rvs g l vals->y0d n l=some r->Rvs g r (vals.take n)/\r.length=n
 |0,l,vals,r,_,h=>by simp_all [y0d,Rvs]
 |n+1,[],vals,r,_,h=>by trivial
 |n+1,s::l,vals,r,hr,h=>by
  simp only [y0d] at h;split at h
  .rename_i r' hr';simp only [injEq] at h;subst h;obtain ⟨v,vs',e,h1,h2⟩:=hr;obtain ⟨k1,k2⟩:=v0U n l vs' r' h2 hr';simp only [Rvs];grind
  grind
theorem v0V:∀(n:Nat) (l:List SV) (vals:List Value),Rvs g l vals->Rvs g (y0e n l) (vals.drop n)
 |0,l,vals,h=>by trivial
 |n+1,[],vals,h=>by simp_all [Rvs,y0e]
 |n+1,s::l,vals,h=>by
  obtain ⟨v,vs',e,h1,h2⟩:=h;subst e;simpa [y0e] using v0V n l vs' h2
theorem v0W {β:Base} {ro:Bool} {bl:Blk} (hB:BlkAt g β ro bl w) {i:Nat} (hi:bl.has i):∀(n j:Nat) (l:List SV),y0f bl i j n=some l->
  ∃vals:List Value,vals.length=n/\Rvs g l vals/\∀k v,vals[k]? =some v->w.cell? ((β.addr i j).add k)=some v
 |0,j,l,h=>by simp only [y0f,injEq] at h;subst h;exact ⟨[],rfl,by rfl,by simp⟩
 |n+1,j,l,h=>by
  simp only [y0f] at h;split at h
  .rename_i s hs;split at h
   .rename_i l' hl';simp only [injEq] at h;subst h;obtain ⟨vals,h1,h2,h3⟩:=v0W hB hi n (j+1) l' hl';obtain ⟨v,hv,rv⟩:=hB.cell i j s hi hs;refine ⟨v::vals,by grind,by simp only [Rvs];grind,?_⟩;grind [d0E]
   grind
  grind
theorem r0q {s:SV} {v:Value} (hv:Rv g s v):∀(l:List SV) (vals:List Value) (j:Nat),Rvs g l vals->Rvs g (b0s l j s) (vals.set j v)
 | [],vals,j,h=>by simp_all [Rvs,b0s]
 |x::l,vals,0,h=>by
  obtain ⟨u,us,e,h1,h2⟩:=h;simp only [b0s,Rvs];grind
 |x::l,vals,j+1,h=>by
  obtain ⟨u,us,e,h1,h2⟩:=h;subst e;exact ⟨u,_,rfl,h1,r0q hv l us j h2⟩
theorem d0F {α:Type}:∀(l:List α) (j:Nat) (v:α),(b0s l j v).length=l.length
 | [],_,_=>rfl
 |_::_,0,_=>rfl
 |_::l,j+1,v=>by simp [b0s,d0F l j v]
theorem h0u {α:Type}:∀(m:List α) (l:List α) (j:Nat),(b0k l j m).length=l.length
 | [],_,_=>rfl
 |v::m,l,j=>by rw [b0k,h0u m,d0F]
def h0F:List Value->Nat->List Value->List Value
 |l,_,[]=>l
 |l,j,v::r=>h0F (l.set j v) (j+1) r
theorem o0h:∀(m:List SV) (ms:List Value) (l:List SV) (vals:List Value) (j:Nat),Rvs g m ms->Rvs g l vals->Rvs g (b0k l j m) (h0F vals j ms)
 | [],ms,l,vals,j,hm,hl=>by simp_all [Rvs,b0k,h0F]
 |s::m,ms,l,vals,j,hm,hl=>by
  obtain ⟨u,us,e,h1,h2⟩:=hm;subst e;exact o0h m us _ _ _ h2 (r0q h1 l vals j hl)
theorem k0n:∀(ms:List Value) (off k:Nat) (cs:Array Value),((ms.zipIdx k).foldl (fun (cs:Array Value) (x:Value×Nat)=>cs.setIfInBounds (off+x.2) x.1) cs).toList=h0F cs.toList (off+k) ms
 | [],off,k,cs=>by rfl
 |v::ms,off,k,cs=>by
  simp only [List.zipIdx_cons,List.foldl_cons,h0F];rw [k0n ms off (k+1)];grind
theorem SV.one_ok {s:SV} {v:Value} (h:s.one=true) (hv:Rv g s v):v.oneCell'=true/\v.cells= #[v]:=by
 cases s<;>simp [SV.one] at h
 case bool=>subst hv;trivial
 case int=>subst hv;trivial
 case str=>subst hv;trivial
 case ptr=>obtain ⟨_,_,e⟩:=hv;subst e;trivial
 case nptr=>subst hv;trivial
 case sl=>obtain ⟨_,_,e,_⟩:=hv;subst e;trivial
 case nsl=>subst hv;trivial
 case zsl=>obtain ⟨_,e⟩:=hv;subst e;trivial
 case map=>obtain ⟨_,_,e⟩:=hv;subst e;trivial
 case nmap=>subst hv;trivial
 case fn=>obtain ⟨_,e,_⟩:=hv;subst e;trivial
 case iface=>obtain ⟨_,e,_⟩:=hv;subst e;trivial
 case nif=>subst hv;trivial
 case raw x=>subst hv;cases v<;>first|trivial
theorem c0M:∀(m:List SV) (ms:List Value),d0B m=true->Rvs g m ms->∀v∈ms,v.oneCell'=true
 | [],ms,_,h=>by simp_all [Rvs]
 |s::m,ms,ho,h=>by
  simp only [d0B,n0M] at ho;obtain ⟨v,vs',e,h1,h2⟩:=h;subst e;intro x hx;cases hx with
  |head=>grind [SV.one_ok]
  |tail _ hm=>exact c0M m vs' ho.2 h2 x hm
theorem SV.cells_ok {s:SV} {m:List SV} {v:Value} (h:s.cells=some m) (hv:Rv g s v):Rvs g m v.cells.toList:=by
 by_cases ho:s.one=true
 .have hc:=(SV.one_ok ho hv).2;have hm:m= [s]:=by
   cases s<;>simp [SV.one] at ho<;>first|(simp only [SV.cells] at h;grind)
  subst hm;simp only [Rvs];simp_all
 .cases s<;>simp [SV.one] at ho
  case agg l=>
   simp only [SV.cells,injEq] at h;subst h;obtain ⟨xs,e,k⟩:=rav hv;subst e;exact k
  all_goals grind [SV.cells]
theorem h0G {α:Type}:∀(m l:List α) (j x:Nat),j+m.length<=l.length->nth (b0k l j m) x=if j<=x/\x<j+m.length then nth m (x-j) else nth l x
 | [],l,j,x,_=>by simp_all [b0k,if_neg]
 |v::m,l,j,x,h=>by
  simp only [i1y] at h;have hs:nth (b0s l j v) x=if x=j then some v else nth l x:=by
   have:∀(l:List α) (j x:Nat),j<l.length->nth (b0s l j v) x=if x=j then some v else nth l x:=by
    intro l;induction l with
    |nil=>simp
    |cons y l ih=>
     intro j x hj;cases j with
     |zero=>cases x<;>simp [b0s,nth]
     |succ j=>cases x with
      |zero=>rfl
      |succ x=>simp_all [b0s,nth]
   grind
  simp only [b0k];rw [h0G m (b0s l j v) (j+1) x (by rw [d0F];omega),hs];by_cases h1:x=j
  .subst h1;rw [if_neg (by omega),if_pos rfl,if_pos (by simp)];simp [nth]
  .by_cases h2:j+1<=x/\x<j+1+m.length
   .rw [if_pos h2,if_pos (by grind),show x-j=(x-(j+1))+1 from by omega];rfl
   grind
theorem i0h (P:Program) (b o:Nat):∀(vals:List Value) (i:Nat) (w:World),(∀v∈vals,v.oneCell'=true)->(∀j,j<vals.length->(∃u,w.cell? ⟨b,o+i+j,none⟩=some u)/\w.frozen? ⟨b,o+i+j,none⟩=false)->
  ∃w',(storeCells ⟨b,o,none⟩ vals i).run P w= .ok () w'/\w'.heap.size=w.heap.size/\w'.os=w.os/\w'.tape=w.tape/\w'.output=w.output/\(∀k,k≠b->w'.heap[k]? =w.heap[k]?)/\
   (∀x,w'.frozen? ⟨b,x,none⟩=w.frozen? ⟨b,x,none⟩)/\(∀x,w'.cell? ⟨b,x,none⟩=if o+i<=x/\x<o+i+vals.length then vals[x-(o+i)]? else w.cell? ⟨b,x,none⟩)
 | [],i,w,_,_=>⟨w,by rfl,rfl,rfl,rfl,rfl,fun _ _=>rfl,fun _=>rfl,fun x=>by grind⟩
 |v::vals,i,w,hone,hc=>by
  obtain ⟨⟨u,hu⟩,hf⟩:=hc 0 (by simp);have hadd:(⟨b,o,none⟩:Addr).add i=⟨b,o+i,none⟩:=by
   unfold Addr.add;simp
  have hrun:(store ((⟨b,o,none⟩:Addr).add i) v).run P w= .ok () (w.setCell ⟨b,o+i,none⟩ v):=by
   simp_all [run_store]
  have hblk:∃c t f,w.heap[b]? =some (.cells c t f)/\c[o+i]? =some u:=by
   unfold World.cell? at hu;grind
  obtain ⟨c,t,f,hcs,hcu⟩:=hblk;have hnew:(w.setCell ⟨b,o+i,none⟩ v).heap[b]? =some (.cells (c.setIfInBounds (o+i) v) t f):=by
   simp [World.setCell,r1Y,hcs]
  have hcell:∀x,(w.setCell ⟨b,o+i,none⟩ v).cell? ⟨b,x,none⟩=if x=o+i then some v else w.cell? ⟨b,x,none⟩:=by
   simp only [World.cell?];grind
  have hfz:∀x,(w.setCell ⟨b,o+i,none⟩ v).frozen? ⟨b,x,none⟩=w.frozen? ⟨b,x,none⟩:=by
   simp
  obtain ⟨w',h1,h2,h3,h4,h5,h6,h7,h8⟩:=i0h P b o vals (i+1) (w.setCell ⟨b,o+i,none⟩ v) (fun x hx=>hone x (by grind)) (by
   intro j hj;obtain ⟨⟨u',hu'⟩,hf'⟩:=hc (j+1) (by simp_all);grind)
  refine ⟨w',?_,?_,?_,?_,?_,?_,fun x=>(h7 x).trans (hfz x),?_⟩
  .simp_all [storeCells]
  .simp_all
  .trivial
  .trivial
  .trivial
  .simp_all [Below.heap_setCell]
  grind
theorem p0C (hg:g.glob) (he:c0c g vs a) {pl place:Nat->Option (Nat×Nat)} (hpl:∀i o n,pl i=some (o,n)->place i=some (o,n)):
  ∀(ps:List (Nat×Operand)) (l l':List SV) (cs:Array Value),Rvs g l cs.toList->i0d vs pl ps l=some l'->
   ∃cs',Instr.fill place cs (ps.map fun p=>(p.1,a.eval p.2))=some cs'/\Rvs g l' cs'.toList
 | [],l,l',cs,hl,h=>by simp only [i0d,injEq] at h;subst h;exact ⟨cs,rfl,hl⟩
 |(i,x)::ps,l,l',cs,hl,h=>by
  simp only [i0d] at h;split at h
  .rename_i o n s hp hx;split at h
   .rename_i m hm;cases hc:(Nat.beq m.length n&&Nat.ble (o+n) l.length) with
    |false=>simp_all
    |true=>
     rw [hc] at h;have rc:=SV.cells_ok hm (a0F hg he hx);have lc:=Rvs.length _ _ rc;have ll:=Rvs.length _ _ hl;have hl2:=o0h m _ l cs.toList o rc hl;have hfold:=k0n (a.eval x).cells.toList o 0 cs;simp only [q1j] at hfold;rw [<-hfold] at hl2;obtain ⟨cs',h1,h2⟩:=p0C hg he hpl ps _ l' _ hl2 h;refine ⟨cs',?_,h2⟩;simp only [n1w,Instr.fill,hpl i o n hp];rw [if_neg (by simp_all)];rw [<-h1];rw [<-Array.foldl_toList];simp
   grind
  grind
theorem o0i (P:Program) (w:World):∀fs:List Field,(fs.all (fun f=>(P.info? f.type).isSome&&(P.underlying f.type).isSome))=true->
  (fs.mapM (m:=Sem) (fun f=>do pure (f.offset,<-sizeOf f.type))).run P w= .ok (fs.map fun f=>(f.offset,fsz P f.type)) w
 | [],_=>by simp
 |f::fs,h=>by
  simp only [List.all_cons,n0M,s1q] at h;obtain ⟨⟨⟨i,hi⟩,⟨d,hd⟩⟩,h2⟩:=h;have ih:=o0i P w fs h2;simp_all [sizeOf,typeInfo,fsz,Program.cellsOf]
theorem f0Q {α:Type} (es:Nat) (h0:0<es):∀(l:List α) (k i:Nat),(every es k l)[i]? =l[k+i*es]?
 | [],k,i=>by rfl
 |x::l,0,i=>by
  cases i with
  |zero=>simp [every]
  |succ i=>
   simp only [every,t1M,f0Q es h0 l (es-1) i];grind
 |x::l,k+1,i=>by
  simp only [every,f0Q es h0 l k i];grind
theorem o0j (k:IntKind):∀(l:List SV) (m:List Int),b0r k l=some m->m.length=l.length/\∀(i:Nat) (s:SV),l[i]? =some s->s= .int k (m.getD i 0)
 | [],m,h=>by simp_all [b0r]
 | .int p x::l,m,h=>by
   simp only [b0r] at h;cases hp:f0J p k with
   |false=>simp_all
   |true=>
    rw [hp] at h;have:=c0t hp;subst this;simp only [cond_true] at h;split at h
    .rename_i l' hl';obtain ⟨h1,h2⟩:=o0j p l l' hl';grind
    grind
 | .bool _::_,m,h=>by trivial
 | .str _::_,m,h=>by trivial
 | .ptr _ _ _ _::_,m,h=>by trivial
 | .nptr::_,m,h=>by trivial
 | .sl _ _ _ _::_,m,h=>by trivial
 | .nsl::_,m,h=>by trivial
 | .zsl::_,m,h=>by trivial
 | .map _ _::_,m,h=>by trivial
 | .nmap::_,m,h=>by trivial
 | .fn _ _::_,m,h=>by trivial
 | .iface _ _::_,m,h=>by trivial
 | .nif::_,m,h=>by trivial
 | .agg _::_,m,h=>by trivial
 | .arr _ _::_,m,h=>by trivial
 | .tup _::_,m,h=>by trivial
 | .raw _::_,m,h=>by trivial
 | .unk::_,m,h=>by trivial
theorem y0p:∀(l:List SV) (m:List ByteArray),l0i l=some m->m.length=l.length/\∀(i:Nat) (s:SV),l[i]? =some s->s= .str (m.getD i ⟨#[]⟩):=by
 intro l;induction l with
 |nil=>simp [l0i]
 |cons v l ih=>
  intro m h;cases v<;>simp only [l0i] at h<;>try (cases h)
  grind
theorem t0O:∀(l:List SV) (m:List Bool),i0e l=some m->m.length=l.length/\∀(i:Nat) (s:SV),l[i]? =some s->s= .bool (m.getD i false):=by
 intro l;induction l with
 |nil=>simp [i0e]
 |cons v l ih=>
  intro m h;cases v<;>simp only [i0e] at h<;>try (cases h)
  grind
theorem p0D {l:List SV} {c:Col} (h:a1l l=some c):c.len=l.length/\∀(i:Nat) (s:SV),l[i]? =some s->s=c.at i:=by
 unfold a1l at h;split at h
 .split at h
  .rename_i m hm;simp only [injEq] at h;subst h;exact o0j _ _ m hm
  grind
 .split at h
  .rename_i m hm;simp only [injEq] at h;subst h;exact y0p _ m hm
  grind
 .split at h
  .rename_i m hm;simp only [injEq] at h;subst h;exact t0O _ m hm
  grind
 grind
theorem k0o {α:Type} {es n j:Nat} {l:List α} (hj:j<es) (hn:l.length=n*es):(every es j l).length=n:=by
 have key:∀i,i<(every es j l).length↔i<n:=by
  intro i;have h:=f0Q es (by omega) l j i;constructor
  .intro hi;have:j+i*es<l.length:=by
    grind
   rcases i1B i n with h'|h'
   .omega
   .have:=r1X es h';omega
  .intro hi;have hlt:j+i*es<l.length:=by
    have:(i+1)*es<=n*es:=r1X _ hi;grind
   grind
 rcases t1B (every es j l).length n with h|h|h
 all_goals grind
theorem Col.at_val {c:Col} {i:Nat} {v:Value} (h:Rv g (c.at i) v):v=c.val i:=by cases c<;>simpa [Col.at,Col.val,Rv] using h
theorem l0C (es:Nat) (l:List SV):∀(n j:Nat) (cs:List Col),i0f es l j n=some cs->cs.length=n/\∀x c,nth cs x=some c->a1l (every es (j+x) l)=some c
 |0,j,cs,h=>by simp_all [i0f,nth]
 |n+1,j,cs,h=>by
  simp only [i0f] at h;split at h
  .rename_i c r hc hr;simp only [injEq] at h;subst h;obtain ⟨h1,h2⟩:=l0C es l n (j+1) r hr;refine ⟨by grind,?_⟩;intro x c' hx;cases x with
   |zero=>simp_all [nth]
   |succ x=>grind [nth]
  grind
theorem c0j {α:Type} {l:List α} {i:Nat} {x:α} (h:nth l i=some x):i<l.length:=by
 rw [b0l] at h;grind
theorem j0w {es n:Nat} {l:List SV} {cs:List Col} {vals:List Value} (h:n0X es l=some cs) (hn:l.length=n*es) (hv:Rvs g l vals):cs.length=es/\y0c n cs vals.toArray:=by
 obtain ⟨h1,h2⟩:=l0C es l es 0 cs h;refine ⟨h1,?_,?_,?_⟩
 .grind [Rvs.length]
 .intro c hc;obtain ⟨j,hj,e⟩:=s1B hc;have:=h2 j c (by rw [b0l,m0b hj,e]);grind [p0D,k0o]
 .intro i j c hi hj;have hjl:=c0j hj;rw [h1] at hjl⊢;have hc:=h2 j c hj;rw [i1z] at hc;have hlt:j+i*es<l.length:=by
   have:(i+1)*es<=n*es:=r1X _ hi;grind
  have he:=f0Q es (by omega) l j i;rw [m0b hlt] at he;have hs:=(p0D hc).2 i _ he;obtain ⟨v,hv1,hv2⟩:=Rvs.nth l vals (j+i*es) l[j+i*es] hv (by rw [b0l];simp);rw [hs] at hv2;rw [show i*es+j=j+i*es from by omega];simp only [u1B,hv1,Col.at_val hv2]
theorem i1r:∀(l:List BCol) (cs:List Col),scs l=some cs->cs.length=l.length/\∀j,nth l j=(nth cs j).map .sc
 | [],cs,h=>by simp_all [scs,nth]
 | .sc c::l,cs,h=>by
   simp only [scs] at h;split at h
   .rename_i r hr;simp only [injEq] at h;subst h;obtain ⟨h1,h2⟩:=i1r l r hr;refine ⟨by grind,?_⟩;intro j;cases j with
    |zero=>rfl
    |succ j=>simp [nth,h2 j]
   grind
 | .svs _::l,cs,h=>by trivial
theorem d0R:∀(cs:List Col),(b0b cs).length=cs.length/\∀j,nth (b0b cs) j=(nth cs j).map .sc
 | []=>by simp [b0b,nth]
 |c::cs=>by
  obtain ⟨h1,h2⟩:=d0R cs;refine ⟨by simp [b0b,h1],?_⟩;intro j;cases j with
  |zero=>rfl
  |succ j=>simp [b0b,nth,h2 j]
end ops
def Ran (P:Program) (a:Act) (o:Oper) (w:World) (v:Value) (w':World):Prop:=(execOp a.eval o).run P w= .ok (.value v) w'\/((execOp a.eval o).run P w= .ok .skip w'/\v=undef)
def b0I (P:Program) (a:Act) (o:Oper) (w:World) (g:G) (H:a0k) (nx:Nat) (r:SV) (U:a0k) (b:Nat):Prop:=∃v w' g',Ran P a o w v w'/\After g H nx w r U b g' v w'
section ops
variable {P:Program} {T:Tab} {g:G} {vs:VS} {a:Act} {w:World} {r:SV} {U:a0k} {b:Nat} {t:List Nat} {H:a0k} {nx:Nat}
theorem b0Q {o:Oper} {v:Value} (hH:Holds g H w) (hv:Rv g r v) (hy:d0Q P o.op a w v):b0I P a o w g H nx r [] 0:=
 ⟨v,w,g,.inl (hy o rfl),e0E hH hv⟩
theorem o0k {i i' j j' es:Nat} (h:i<i') (hj:j<es):i*es+j<i'*es+j':=by
 have:(i+1)*es<=i'*es:=r1X _ h;grind
theorem e0g {i j es n:Nat} (hi:i<n) (hj:j<es):i*es+j<n*es:=by
 have:(i+1)*es<=n*es:=r1X _ hi;grind
theorem a1A {cs:Array Value} {ty:TypeId} {bl:Blk} {cap:Nat} {w':World} {fz:Nat×Nat} (hw:w'.heap=w.heap.push (.cells cs ty fz)) (hfz:fz=(0,0)\/fz=(cs.size,cs.size+1)) (hn:g nx 0=none) (hlen:bl.lenOk) (hone:∀v∈cs.toList,v.oneCell'=true) (hsz:cap*bl.es<=cs.size) (hhas:∀i,bl.has i->i<cap)
  (hcell:∀i j sv,bl.has i->bl.at i j=some sv->∃v,cs[i*bl.es+j]? =some v/\Rv g sv v) (hpl:bl.plain:=by exact trivial):BlkAt (g.add nx ⟨w.heap.size,0,bl.es,cap⟩) ⟨w.heap.size,0,bl.es,cap⟩ false bl w':=by
 have a0w:w'.heap[w.heap.size]? =some (.cells cs ty fz):=by simp_all
 have hc:∀x,w'.cell? ⟨w.heap.size,x,none⟩=cs[x]?:=by simp [World.cell?,a0w]
 have hf:∀x,x<cs.size->w'.frozen? ⟨w.heap.size,x,none⟩=false:=by
  rcases hfz with rfl|rfl
  .simp [World.frozen?,a0w]
  .simp [World.frozen?,a0w];omega
 have ha:∀i j,(⟨w.heap.size,0,bl.es,cap⟩:Base).addr i j=⟨w.heap.size,i*bl.es+j,none⟩:=by simp [Base.addr]
 refine ⟨fun _=>by simp_all,rfl,hlen,hhas,?_,?_,?_,v0S hpl⟩
 .grind [Rv.mono,G.le_add]
 .grind
 .intro _ i j hi hj;have:i*bl.es+j<cs.size:=s1j (e0g hi hj) hsz;simp_all
theorem f0R {cs:Array Value} {ty:TypeId} {bl:Blk} {cap:Nat} {v:Value} {w':World} {fz:Nat×Nat} (hfz:fz=(0,0)\/fz=(cs.size,cs.size+1)) (hH:Holds g H w) (hw:w'.heap=w.heap.push (.cells cs ty fz)) (hos:w'.os=w.os) (htp:w'.tape=w.tape) (hout:w'.output=w.output) (hn:∀q,g nx q=none) (hlen:bl.lenOk) (hone:∀v∈cs.toList,v.oneCell'=true) (hsz:cap*bl.es<=cs.size) (hhas:∀i,bl.has i->i<cap)
  (hcell:∀i j sv,bl.has i->bl.at i j=some sv->∃v,cs[i*bl.es+j]? =some v/\Rv g sv v) (hrv:Rv (g.add nx ⟨w.heap.size,0,bl.es,cap⟩) r v) (hpl:bl.plain:=by exact trivial):
  After g H nx w r [(nx,some (.one false bl))] 1 (g.add nx ⟨w.heap.size,0,bl.es,cap⟩) v w':=
 l0r hH hn hrv (a1A hw hfz (hn 0) hlen hone hsz hhas hcell hpl) (fun _=>m0c _) hos htp hout (by simp_all) (fun k hk=>by grind)
theorem j1O {bl:Blk} {cap:Nat}:Rv (g.add nx ⟨w.heap.size,0,bl.es,cap⟩) (.ptr nx 0 0 0) (.pointer (some ⟨w.heap.size,0,none⟩)):=by
 simp [Rv,G.add,Base.addr]
theorem r0r {bl:Blk} {n cap:Nat} (h:n<=cap):Rv (g.add nx ⟨w.heap.size,0,bl.es,cap⟩) (.sl nx 0 0 n) (.slice (some ⟨w.heap.size,0,none⟩) n cap):=by
 exact ⟨_,_,rfl,h,.inr ⟨⟨w.heap.size,0,bl.es,cap⟩,by simp [G.add],by simp [Base.addr],by simp⟩⟩
theorem i0i {β:Base} {bl:Blk} (hB:BlkAt g β false bl w) {p:Nat} {ms:List Value} (hone:∀v∈ms,v.oneCell'=true) (hp:p+ms.length<=β.cap*β.es):
  ∃w',(storeCells ⟨β.blk,β.off+p,none⟩ ms).run P w= .ok () w'/\w'.heap.size=w.heap.size/\w'.os=w.os/\w'.tape=w.tape/\w'.output=w.output/\(∀k,k≠β.blk->w'.heap[k]? =w.heap[k]?)/\
   (∀x,w'.frozen? ⟨β.blk,x,none⟩=w.frozen? ⟨β.blk,x,none⟩)/\∀x,w'.cell? ⟨β.blk,β.off+x,none⟩=if p<=x/\x<p+ms.length then ms[x-p]? else w.cell? ⟨β.blk,β.off+x,none⟩:=by
 obtain ⟨w',h1,h2,h3,h4,h5,h6,h7,h8⟩:=i0h P β.blk (β.off+p) ms 0 w hone (by
  intro j hj;have hx:p+j<β.cap*β.es:=by omega
  have he:0<β.es:=by grind
  have hi:(p+j)/β.es<β.cap:=(t1R he).2 hx;have hj':(p+j)%β.es<β.es:=t1J _ he;have hd:(p+j)/β.es*β.es+(p+j)%β.es=p+j:=by rw [t1m];exact u1g _ _
  obtain ⟨hf,hc⟩:=hB.rw rfl _ _ hi hj';grind [Base.addr])
 grind
theorem l0D {β:Base} {bl b1:Blk} {p m:Nat} {ms:List Value} {w':World} (hB:BlkAt g β false bl w) (hlen:ms.length=m) (hsz:w'.heap.size=w.heap.size) (hfz:∀x,w'.frozen? ⟨β.blk,x,none⟩=w.frozen? ⟨β.blk,x,none⟩)
  (hcl:∀x,w'.cell? ⟨β.blk,β.off+x,none⟩=if p<=x/\x<p+m then ms[x-p]? else w.cell? ⟨β.blk,β.off+x,none⟩)
  (hone:∀v∈ms,v.oneCell'=true) (hold:∀i,b1.has i->bl.has i\/∀j,j<β.es->p<=i*β.es+j/\i*β.es+j<p+m) (hes:b1.es=bl.es) (hln:b1.lenOk) (hhas:∀i,b1.has i->i<β.cap) (hat:∀i j sv,b1.has i->b1.at i j=some sv->(p<=i*β.es+j/\i*β.es+j<p+m/\∃v,ms[i*β.es+j-p]? =some v/\Rv g sv v)\/(¬(p<=i*β.es+j/\i*β.es+j<p+m)/\bl.has i/\bl.at i j=some sv)) (hpl:b1.plain:=by exact trivial):BlkAt g β false b1 w':=by
 have ea:∀i j,β.addr i j=⟨β.blk,β.off+(i*β.es+j),none⟩:=by grind [Base.addr]
 refine ⟨fun hc=>by rw [hsz];exact hB.lt hc,hB.es.trans hes.symm,hln,hhas,?_,?_,?_,v0S hpl⟩
 .intro i j sv hi hj;rw [ea,hcl];rcases hat i j sv hi hj with ⟨h1,h2,v,h3,h4⟩|⟨h1,h2,h3⟩
  .simp_all
  .rw [if_neg h1,<-ea];exact hB.cell i j sv h2 h3
 .intro i j v hi hj hv;rw [ea,hcl] at hv;split at hv
  .grind
  .rcases hold i hi with h1|h1
   .rw [<-ea] at hv;exact hB.one i j v h1 hj hv
   simp_all
 .intro _ i j hi hj;obtain ⟨h1,v,h2⟩:=hB.rw rfl i j hi hj;rw [ea] at h1 h2⊢;rw [hcl];grind
theorem r0s (i:Nat):∀(m:List SV) (l r:List BCol),n0Y i l m=some r->r.length=l.length/\∀x,nth r x=match nth l x with|none=>none|some c=>(match nth m x with|some v=>d0f c i v|none=>some c)
 | [],l,r,h=>by simp only [n0Y] at h;simp only [nth];all_goals grind
 |v::m,[],r,h=>by trivial
 |v::m,c::l,r,h=>by
  simp only [n0Y] at h;split at h
  .rename_i d r' hd hr';simp only [injEq] at h;subst h;obtain ⟨h1,h2⟩:=r0s i m l r' hr';refine ⟨by grind,?_⟩;intro x;cases x with
   |zero=>simp [nth,hd]
   |succ x=>simp_all [nth]
  grind
theorem j0x (i:Nat):∀(j:Nat) (l r:List BCol) (m:List SV),h0C i j l m=some r->r.length=l.length/\∀x,nth r x=match nth l x with|none=>none|some c=>(if j<=x then (match nth m (x-j) with|some v=>d0f c i v|none=>some c) else some c)
 |0,l,r,m,h=>by
  grind [h0C,r0s]
 |j+1,[],r,m,h=>by trivial
 |j+1,c::l,r,m,h=>by
  simp only [h0C] at h;split at h
  .rename_i r' hr';simp only [injEq] at h;subst h;obtain ⟨h1,h2⟩:=j0x i j l r' m hr';refine ⟨by grind,?_⟩;intro x;cases x with
   |zero=>rfl
   |succ x=>simp_all [nth]
  grind
theorem c0e {α:Type} (l:List α) (i x:Nat) (v d:α):(l.set i v).getD x d=if x=i/\i<l.length then v else l.getD x d:=by
 grind
theorem t0P {c d:BCol} {i:Nat} {v:SV} (h:d0f c i v=some d) (x:Nat) (u:Value) (hv:x=i->Rv g v u) (hu:x≠i->Rv g (c.at x) u) (hlen:x=i->i<c.len):Rv g (d.at x) u:=by
 unfold d0f at h;split at h
 .rename_i k l p y;cases hp:f0J p k with
  |false=>simp_all
  |true=>
   rw [hp] at h;have:=c0t hp;simp only [cond_true,injEq] at h;subst h;simp only [BCol.at,Col.at,c0e];by_cases e:x=i
   .rw [if_pos ⟨e,hlen e⟩];simp_all
   .rw [if_neg (fun h=>e h.1)];exact hu e
 .simp only [injEq] at h;subst h;simp only [BCol.at,Col.at,c0e];by_cases e:x=i
  .rw [if_pos ⟨e,hlen e⟩];simp_all
  .rw [if_neg (fun h=>e h.1)];exact hu e
 .simp only [injEq] at h;subst h;simp only [BCol.at,Col.at,c0e];by_cases e:x=i
  .rw [if_pos ⟨e,hlen e⟩];simp_all
  .rw [if_neg (fun h=>e h.1)];exact hu e
 .simp only [injEq] at h;subst h;simp only [BCol.at,c0e];by_cases e:x=i
  .rw [if_pos ⟨e,hlen e⟩];simp_all
  .rw [if_neg (fun h=>e h.1)];exact hu e
 .rename_i hh ns;simp only [injEq] at h;subst h;simp only [BCol.at,c0e];by_cases e:x=i
  .rw [if_pos ⟨e,by rw [b0O];exact hlen e⟩];simp_all
  .rw [if_neg (fun h=>e h.1)];by_cases hx:x<ns.length
   .rw [e0s hx];exact hu e
   .rw [List.getD,a1X (by rw [b0O];omega)];trivial
 .rename_i hh n0;simp only [injEq] at h;subst h;simp only [BCol.at,c0e];by_cases e:x=i
  .rw [if_pos ⟨e,by rw [b0P];exact hlen e⟩];simp_all
  .rw [if_neg (fun h=>e h.1)];by_cases hx:x<n0
   .rw [e0Y hx];exact hu e
   .rw [List.getD,a1X (by rw [b0P];omega)];trivial
 grind
theorem t0Q {c d:BCol} {i x:Nat} {v:SV} (h:d0f c i v=some d) (hx:x≠i) (hxl:x<c.len):d.at x=c.at x:=by
 unfold d0f at h;split at h
 .grind [BCol.at,Col.at]
 .grind [BCol.at,Col.at]
 .grind [BCol.at,Col.at]
 .grind [BCol.at]
 .simp only [injEq] at h;subst h;simp only [BCol.at,c0e];rw [if_neg (fun h=>hx h.1)];exact e0s hxl
 .simp only [injEq] at h;subst h;simp only [BCol.at,c0e];rw [if_neg (fun h=>hx h.1)];exact e0Y hxl
 grind
theorem Col.val_one (c:Col) (i:Nat):(c.val i).oneCell'=true:=by cases c<;>rfl
theorem a1B {n:Nat} {cs:List Col} {xs:Array Value} (h:y0c n cs xs):∀v∈xs.toList,v.oneCell'=true:=by
 intro v hv;obtain ⟨x,hx,e⟩:=s1B hv;have hx':x<n*cs.length:=by rw [<-h.1];omega
 have hpos:0<cs.length:=by grind
 have hi:x/cs.length<n:=(t1R hpos).2 hx';have hj:x%cs.length<cs.length:=t1J _ hpos;have hd:x/cs.length*cs.length+x%cs.length=x:=by rw [t1m];exact u1g _ _
 have:=h.2.2 _ _ _ hi (show nth cs (x%cs.length)=some cs[x%cs.length] by rw [b0l];simp);grind [Col.val_one]
theorem r0t {c d:BCol} {i:Nat} {v:SV} (h:d0f c i v=some d):d.len=c.len:=by
 unfold d0f at h;all_goals grind [BCol.len,Col.len,b0O,b0P]
theorem c0Y {α:Type} {l:List α} {c:α} (h:c∈l):∃j,nth l j=some c:=by
 obtain ⟨j,hj,e⟩:=s1B h;exact ⟨j,by rw [b0l,m0b hj,e]⟩
theorem b0y {α:Type} {l:List α} {c:α} {j:Nat} (h:nth l j=some c):c∈l:=by
 rw [b0l] at h;grind
theorem t0R {i j n:Nat} {l r:List BCol} {m:List SV} (h:h0C i j l m=some r) (hl:∀c∈l,c.len=n):∀c∈r,c.len=n:=by
 intro c hc;obtain ⟨x,hx⟩:=c0Y hc;obtain ⟨_,h2⟩:=j0x i j l r m h;rw [h2 x] at hx;split at hx
 .grind
 .rename_i c0 hc0;have h0:=hl c0 (b0y hc0);grind [r0t]
def v0X (P:Program) (a:Act) (op:Op) (w:World) (g:G) (r:SV) (U:a0k) (b:Nat):Prop:=U= []/\b=0/\∃v,Rv g r v/\d0Q P op a w v
theorem r0u (hT:b0t P T) (hg:g.glob) (he:c0c g vs a) (hH:Holds g vs.heap w) {ty:TypeId} {x:Operand} (h:(eff T vs nx (.load ty x)).is r U b t):v0X P a (.load ty x) w g r U b:=by
 simp only [eff] at h;split at h
 .rename_i hd q i j ti hx hti;replace h:=a0J h;obtain ⟨ro,bl,hent,h⟩:=h;obtain ⟨β,hβ,hB⟩:=hH.blk _ _ _ _ hent;obtain ⟨β',hβ',hv⟩:=rpv (a0F hg he hx);rw [hβ] at hβ';cases hβ';have hag:=y0o (hT _ _ hti);have hsz:=l0t (hT _ _ hti);have scal:∀v u,ti.agg=false->w.cell? (β.addr i j)=some v->Rv g u v->v0X P a (.load ty x) w g u [] 0:=by
   intro v u hagg hc hr;refine ⟨rfl,rfl,_,hr,fun o' ho'=> ?_⟩;simp [execOp,ho',Instr.loadAt,hv,Instr.sureAddr,loadVar,hag,hagg,hc]
  have agg:∀(vals:List Value) u,ti.agg=true->vals.length=ti.size->(∀k v,vals[k]? =some v->w.cell? ((β.addr i j).add k)=some v)->Rv g u (.agg vals.toArray)->v0X P a (.load ty x) w g u [] 0:=by
   intro vals u hagg hl hc hr;have hld:=run_loadCells_list (P:=P) (w:=w) (β.addr i j) vals hc;rw [hl] at hld;refine ⟨rfl,rfl,_,hr,fun o' ho'=> ?_⟩;simp only [execOp,ho',Instr.loadAt,hv,Instr.sureAddr,k1h,n1x,b1g,loadVar,hag,hagg,if_true,hsz,hld]
  have rest:(bif ti.agg then bl.elt i (match y0f bl i j ti.size with|some l=> .ok (.agg l) [] 0 [hd]|none=> .no) else bl.elt i (match bl.at i j with|some v=> .ok v [] 0 [hd]|none=> .no)).is r U b t->v0X P a (.load ty x) w g r U b:=by
   intro h;cases hagg:ti.agg with
   |true=>
    rw [hagg] at h;simp only [cond_true] at h;replace h:=r0n h;obtain ⟨hi,h⟩:=h;split at h
    .rename_i l hl;obtain ⟨rfl,rfl,rfl,_⟩:=h;obtain ⟨vals,e1,e2,e3⟩:=v0W hB hi ti.size j l hl;exact agg vals _ hagg e1 e3 (by simp only [Rv];exact ⟨_,rfl,by simpa using e2⟩)
    .exact h.elim
   |false=>
    rw [hagg] at h;simp only [cond_false] at h;replace h:=r0n h;obtain ⟨hi,h⟩:=h;split at h
    .rename_i sv hs;obtain ⟨v,hc,rv⟩:=hB.cell i j sv hi hs;obtain ⟨rfl,rfl,rfl,_⟩:=h;exact scal v _ hagg hc rv
    .exact h.elim
  unfold a1m at h;split at h
  .rename_i n l hk;replace h:=a0p h;obtain ⟨hc,h⟩:=h;simp only [n0M] at hc;obtain ⟨⟨⟨⟨c1,c2⟩,c3⟩,c4⟩,c5⟩:=hc;have e1:=q0d c1;have e2:=q0d c2;have e3:=q0d c3;have e4:=q0d c4;have e5:=q0d c5;split at h
   .rename_i cs hcs;obtain ⟨rfl,rfl,rfl,_⟩:=h;obtain ⟨s1,s2⟩:=i1r l cs hcs;have hes:β.es=l.length:=hB.es;have hcell:∀i j c,i<n->nth cs j=some c->w.cell? (β.addr i j)=some (c.val i):=by
     intro i j c hi hj;obtain ⟨v,h1,h2⟩:=hB.cell i j (c.at i) hi (by simp only [Blk.at,s2 j,hj,k1k];rfl);rw [h1,Col.at_val h2]
    have hall:∀x,x<n*l.length->∃v,w.cell? ⟨β.blk,β.off+x,none⟩=some v:=by
     intro x hx;have hpos:0<l.length:=by rcases m1S l.length with e|e;rw [e] at hx;omega;exact e
     have hi:x/l.length<n:=(t1R hpos).2 hx;have hj:x%l.length<l.length:=t1J _ hpos;have hd:x/l.length*l.length+x%l.length=x:=by rw [t1m];exact u1g _ _
     have hj':x%l.length<cs.length:=by rw [s1];exact hj
     have hc:=hcell _ _ _ hi (show nth cs (x%l.length)=some cs[x%l.length] by rw [b0l];exact m0b hj');refine ⟨cs[x%l.length].val (x/l.length),?_⟩;rw [<-hc];unfold Base.addr;rw [hes];congr 2;omega
    let val:Nat->Value:=fun x=>(w.cell? ⟨β.blk,β.off+x,none⟩).getD undef
    refine agg ((List.range (n*l.length)).map val) _ (by unfold TI.agg;rw [hk];simp) (by simp [e5,e1,e2]) ?_ ?_
    .intro k v hk';simp only [f1Q] at hk';have hlt:k<n*l.length:=by
      rcases i1B k (n*l.length) with h|h
      .exact h
      .rw [a1X (by simpa using h)] at hk';cases hk'
     rw [s1J hlt] at hk';simp only [k1k,injEq] at hk';subst hk';obtain ⟨v,hv'⟩:=hall k hlt;rw [d0E];have:β.addr i (j+k)=⟨β.blk,β.off+k,none⟩:=by unfold Base.addr;rw [e3,e4];congr 1;omega
     rw [this];simp only [val,hv',Option.getD_some]
    .simp only [Rv];refine ⟨_,rfl,by simp [s1],?_,?_⟩
     .intro c hc;obtain ⟨j,hj⟩:=c0Y hc;exact hB.len (.sc c) (b0y (j:=j) (by rw [s2 j,hj];rfl))
     intro i' j' c hi hj;have hj2:=c0j hj;rw [s1] at hj2⊢;have hlt:=e0g hi hj2;have hc:=hcell i' j' c hi hj;have ea:β.addr i' j'=⟨β.blk,β.off+(i'*l.length+j'),none⟩:=by unfold Base.addr;rw [hes];congr 1;omega
     rw [ea] at hc;simp only [u1B,f1Q,s1J hlt,k1k,val,hc,Option.getD_some]
   .exact h.elim
  .exact rest h
 .exact h.elim
theorem j1P (hT:b0t P T) (hg:g.glob) (he:c0c g vs a) (hH:Holds g vs.heap w) {o:Oper} {ty:TypeId} {x:Operand} (ho:o.op= .load ty x) (h:(eff T vs nx (.load ty x)).is r U b t):b0I P a o w g vs.heap nx r U b:=by
 obtain ⟨rfl,rfl,v,hr,hy⟩:=r0u hT hg he hH h;grind [b0Q]
theorem f1k (hT:b0t P T) (hg:g.glob) (he:c0c g vs a) (hH:Holds g vs.heap w) {o:Oper} {ty:TypeId} {x y:Operand} (ho:o.op= .store ty x y) (h:(eff T vs nx (.store ty x y)).is r U b t):b0I P a o w g vs.heap nx r U b:=by
 simp only [eff] at h;split at h
 .rename_i hd q i j v ti hx hy hti;replace h:=a0J h;obtain ⟨ro,bl,hent,h⟩:=h;replace h:=c0X h;obtain ⟨hro,h⟩:=h;subst hro;obtain ⟨β,hβ,hB⟩:=hH.blk _ _ _ _ hent;obtain ⟨β',hβ',hpv⟩:=rpv (a0F hg he hx);rw [hβ] at hβ';cases hβ';have hyv:=a0F hg he hy;have hsz:=l0t (hT _ _ hti);have es:=hB.es;have fin:∀(ms:List Value) (b1:Blk),(a.eval y).cells=ms.toArray->ms.length=ti.size->(∀v∈ms,v.oneCell'=true)->0<β.cap->i*β.es+j+ms.length<=β.cap*β.es->b1.plain->b1.es=bl.es->b1.lenOk->(∀i,b1.has i->bl.has i)->
    (∀i' j' sv,b1.has i'->b1.at i' j'=some sv->(i*β.es+j<=i'*β.es+j'/\i'*β.es+j'<i*β.es+j+ms.length/\∃v,ms[i'*β.es+j'-(i*β.es+j)]? =some v/\Rv g sv v)\/(¬(i*β.es+j<=i'*β.es+j'/\i'*β.es+j'<i*β.es+j+ms.length)/\bl.has i'/\bl.at i' j'=some sv))->
    b0I P a o w g vs.heap nx (.raw undef) (b0c vs.heap hd q b1) 0:=by
   intro ms b1 hms hl hone hcap hp hpl hes hlen hhas hat;obtain ⟨w',k1,k2,k3,k4,k5,k6,k7,k8⟩:=i0i (P:=P) hB hone hp;have ea:β.addr i j=⟨β.blk,β.off+(i*β.es+j),none⟩:=by unfold Base.addr;congr 1;omega
   refine ⟨undef,w',g,.inr ⟨?_,rfl⟩,d0n hH hent hβ hcap (by simp only [Rv]) (l0D hB rfl k2 k7 k8 hone (fun i hi=> .inl (hhas i hi)) hes hlen (fun i hi=>hB.cap i (hhas i hi)) hat hpl) k3 k4 k5 (by omega) (fun k _ hk=>k6 k hk)⟩;have e1:(a.eval y).cells.size=ti.size:=by rw [hms];simp [hl]
   simp only [execOp,ho,Instr.storeAt,hpv,Instr.sureAddr,storeVar,k1h,n1x,b1g,hsz,e1,ne_eq,not_true_eq_false,if_false];rw [hms,ea];simp [k1]
  unfold l0l at h;split at h
  .rename_i n l m cs;replace h:=a0p h;obtain ⟨hc,h⟩:=h;simp only [n0M] at hc;obtain ⟨⟨⟨⟨⟨c0,c1⟩,c2⟩,c3⟩,c4⟩,c5⟩:=hc;have e1:=q0d c1;have e2:=q0d c2;have e3:=q0d c3;have e4:=q0d c4;have e5:=q0d c5;have hn0:n≠0:=by intro e;rw [e] at c0;simp at c0
   obtain ⟨rfl,rfl,rfl,_⟩:=h;obtain ⟨xs,ex,hx1,hx2,hx3⟩:=p1N hyv;obtain ⟨u1,u2⟩:=d0R cs;have hes:β.es=l.length:=es;have hcl:∀c∈b0b cs,c.len=n:=by
    intro c hc;obtain ⟨k,hk⟩:=c0Y hc;rw [u2 k] at hk;cases hk':nth cs k with
    |none=>rw [hk'] at hk;cases hk
    |some c'=>rw [hk'] at hk;cases hk;exact (hx2 c' (b0y hk')).trans e1.symm
   have hxs:xs.size=n*β.es:=by rw [hx1,hes,e2,e1]
   have hcapn:n<=β.cap:=by have:=hB.cap (n-1) (by simp only [Blk.has];omega);omega
   refine fin xs.toList (.cols n (b0b cs)) (by rw [ex];simp [Value.cells]) (by simp [hxs,e5,hes]) ?_ (by omega) ?_ trivial (by simp [Blk.es,u1,e2]) hcl (fun i hi=>hi) ?_
   .exact a1B ⟨hx1,hx2,hx3⟩
   .rw [e3,e4];simp only [r1W,hxs,t1e,i1z];exact r1X _ hcapn
   .intro i' j' sv hi hj;simp only [Blk.has] at hi;simp only [Blk.at,u2 j'] at hj;cases hc':nth cs j' with
    |none=>rw [hc'] at hj;simp at hj
    |some c=>
     rw [hc'] at hj;simp only [k1k,injEq] at hj;subst hj;have hj2:=c0j hc';have hlt:i'*β.es+j'<n*β.es:=e0g hi (by omega);left;rw [e3,e4];refine ⟨by omega,by simp only [r1W,hxs];omega,c.val i',?_,Col.at_ok g c i'⟩;have:=hx3 i' j' c (by omega) hc';rw [e2,<-hes] at this;simpa using this
  .rename_i v n l hv;split at h
   .rename_i m hm;replace h:=a0p h;obtain ⟨hc,h⟩:=h;simp only [n0M] at hc;obtain ⟨⟨c1,c2⟩,c3⟩:=hc;have e2:=q0d c2;have e3:=s1C c3;split at h
    .rename_i l2 hl2;obtain ⟨hin,rfl,rfl,rfl,_⟩:=h;have rc:=SV.cells_ok hm hyv;have lc:=Rvs.length _ _ rc;obtain ⟨s1,s2⟩:=j0x i j l l2 m hl2;have hes:β.es=l.length:=es;have hicap:=hB.cap i hin;refine fin (a.eval y).cells.toList (.cols n l2) (by simp) (by rw [lc,e2]) (c0M m _ c1 rc) (by omega) ?_ trivial (by simp [Blk.es,s1]) (t0R hl2 hB.len) (fun i hi=>hi) ?_
     .rw [lc];have:(i+1)*β.es<=β.cap*β.es:=r1X _ hicap;rw [Nat.add_mul] at this;omega
     .intro i' j' sv hi hj;simp only [Blk.has] at hi;simp only [Blk.at] at hj;rw [s2 j'] at hj;cases hc':nth l j' with
      |none=>rw [hc'] at hj;simp at hj
      |some c=>
       rw [hc'] at hj;have hj2:=c0j hc';simp only at hj;rw [lc];have old:(Blk.cols n l).at i' j'=some (c.at i'):=by simp [Blk.at,hc']
       by_cases hjj:j<=j'
       .rw [if_pos hjj] at hj;cases hmv:nth m (j'-j) with
        |none=>
         rw [hmv] at hj;simp only [injEq] at hj;subst hj;right;refine ⟨?_,hi,old⟩;have:m.length<=j'-j:=by
          rcases i1B (j'-j) m.length with h|h
          .rw [b0l,m0b h] at hmv;cases hmv
          .exact h
         rcases t1B i' i with h|h|h
         .have:=o0k (j:=j') (j':=j) h (show j'<β.es by omega);omega
         .subst h;omega
         .have:=o0k (j:=j+m.length-1) (j':=j') h (show j+m.length-1<β.es by omega);omega
        |some mv=>
         rw [hmv] at hj;simp only at hj;have hjm:=c0j hmv;cases hsc:d0f c i mv with
         |none=>rw [hsc] at hj;simp at hj
         |some d=>
          rw [hsc] at hj;simp only [injEq] at hj;subst hj;obtain ⟨u,hu1,hu2⟩:=Rvs.nth m _ (j'-j) mv rc hmv;by_cases hii:i'=i
          .subst hii;left;refine ⟨by omega,by omega,u,?_,t0P hsc i' u (fun _=>hu2) (fun h=>absurd rfl h) (fun _=>by rw [hB.len c (b0y hc')];exact hi)⟩;rw [<-hu1];congr 1;omega
          .right;refine ⟨?_,hi,?_⟩
           .rcases t1B i' i with h|h|h
            .have:=o0k (j:=j') (j':=j) h (show j'<β.es by omega);omega
            .exact absurd h hii
            .have:=o0k (j:=j+m.length-1) (j':=j') h (show j+m.length-1<β.es by omega);omega
           .rw [old,t0Q hsc hii (by rw [hB.len c (b0y hc')];exact hi)]
       .rw [if_neg hjj] at hj;simp only [injEq] at hj;subst hj;right;refine ⟨?_,hi,old⟩;rcases t1B i' i with h|h|h
        .have:=o0k (j:=j') (j':=j) h (show j'<β.es by omega);omega
        .subst h;omega
        .rcases m1S m.length with h0|h0
         .omega
         .have:=o0k (j:=j+m.length-1) (j':=j') h (show j+m.length-1<β.es by omega);omega
    .exact h.elim
   .exact h.elim
  .rename_i v l;split at h
   .rename_i m hm;replace h:=a0p h;obtain ⟨hc,h⟩:=h;rw [l0h] at h;simp only [n0M] at hc;obtain ⟨⟨c1,c2⟩,c3⟩:=hc;have e2:=q0d c2;have e3:=s1C c3;obtain ⟨rfl,rfl,rfl,_⟩:=h;have rc:=SV.cells_ok hm hyv;have lc:=Rvs.length _ _ rc;have hes:β.es=l.length:=es;have hcap:=hB.cap 0 rfl;refine fin (a.eval y).cells.toList (.cells (b0k l j m)) (by simp) (by rw [lc,e2]) (c0M m _ c1 rc) hcap ?_ trivial (by simp [Blk.es,h0u]) trivial (fun i hi=>hi) ?_
    .rw [lc];have:1*β.es<=β.cap*β.es:=r1X _ hcap;omega
    .intro i' j' sv hi hj;simp only [Blk.has] at hi;simp only [Blk.at] at hj;rw [h0G m l j j' e3] at hj;rw [lc,hi];simp only [t1e,i1z];split at hj
     .rename_i hc;obtain ⟨u,hu1,hu2⟩:=Rvs.nth m _ (j'-j) sv rc hj;exact .inl ⟨hc.1,hc.2,u,hu1,hu2⟩
     .rename_i hc;exact .inr ⟨hc,rfl,hj⟩
   .exact h.elim
  .exact h.elim
 .exact h.elim
theorem p0E {o:Oper} {cs:Array Value} {ty:TypeId} {bl:Blk} {cap:Nat} (hH:Holds g H w) (hn:b=1->∀q,g nx q=none) (hlen:bl.lenOk) (hone:∀v∈cs.toList,v.oneCell'=true) (hsz:cap*bl.es<=cs.size) (hhas:∀i,bl.has i->i<cap)
  (hcell:∀i j sv,bl.has i->bl.at i j=some sv->∃v,cs[i*bl.es+j]? =some v/\Rv g sv v) (hrun:(execOp a.eval o).run P w= .ok (.value (.pointer (some ⟨w.heap.size,0,none⟩))) (w.alloc (.cells cs ty)))
  (h:(a1n nx bl).is r U b t) (hpl:bl.plain:=by exact trivial):b0I P a o w g H nx r U b:=by
 obtain ⟨rfl,rfl,rfl,_⟩:=h;exact ⟨_,_,_,.inl hrun,f0R (w':=w.alloc (.cells cs ty)) (.inl rfl) hH rfl rfl rfl rfl (hn rfl) hlen hone hsz hhas hcell j1O hpl⟩
theorem r0v {l:List SV} {cs:Array Value} (hl:Rvs g l cs.toList):∀i j sv,(Blk.cells l).has i->(Blk.cells l).at i j=some sv->∃v,cs[i*(Blk.cells l).es+j]? =some v/\Rv g sv v:=by
 intro i j sv hi hj;subst hi;obtain ⟨v,h1,h2⟩:=Rvs.nth l cs.toList j sv hl hj;simp_all
theorem v0Y {n:Nat} {cs:List Col} {xs:Array Value} (h:y0c n cs xs):(∀i j sv,(Blk.cols n (b0b cs)).has i->(Blk.cols n (b0b cs)).at i j=some sv->∃v,xs[i*(Blk.cols n (b0b cs)).es+j]? =some v/\Rv g sv v)/\(Blk.cols n (b0b cs)).lenOk/\n*(Blk.cols n (b0b cs)).es<=xs.size:=by
 obtain ⟨u1,u2⟩:=d0R cs;refine ⟨?_,?_,by simp [Blk.es,u1,h.1]⟩
 .intro i j sv hi hj;simp only [Blk.at,u2 j] at hj;cases hc:nth cs j with
  |none=>simp_all
  |some c=>
   rw [hc] at hj;simp only [k1k,injEq] at hj;subst hj;exact ⟨c.val i,by simp only [Blk.es,u1];exact h.2.2 i j c hi hc,Col.at_ok g c i⟩
 .intro c hc;obtain ⟨k,hk⟩:=c0Y hc;rw [u2 k] at hk;cases hk':nth cs k with
  |none=>simp_all
  |some c'=>rw [hk'] at hk;cases hk;exact h.2.1 c' (b0y hk')
theorem c0F (o:Obj):(newObj o).run P w= .ok w.heap.size (w.alloc o):=rfl
theorem f1l (hT:b0t P T) (hH:Holds g H w) (hn:b=1->∀q,g nx q=none) {o:Oper} {ty:TypeId} (ho:o.op= .alloc ty) {ti:TI} (hti:a0M T ty=some ti) (h:(a1o nx ti).is r U b t):b0I P a o w g H nx r U b:=by
 .replace h:=c0X h;obtain ⟨hne,h⟩:=h;simp only [Bool.or_eq_false_iff,Bool.not_eq_false'] at hne;have hti':=hT _ _ hti;unfold k0j at hti';split at hti'
  .rename_i i d hi hd;simp only [injEq] at hti';have hz0:ti.zero=c0E P ty:=by grind
   cases hz:i.zero with
   |none=>simp_all [c0E]
   |some z=>
    have hzc:Rvs g ti.zero z.cells.toList:=by simp_all [c0E,k0k]
    have hone:=c0M _ _ hne.2 hzc;have hzr:(zeroValue ty).run P w= .ok z w:=by simp_all [zeroValue,typeInfo]
    have hrun:(execOp a.eval o).run P w= .ok (.value (.pointer (some ⟨w.heap.size,0,none⟩))) (w.alloc (.cells z.cells ty)):=by
     simp_all [execOp,Instr.alloc,k1h,b1g,newVar,newRow,n1x,c0F]
    have plain:(a1n nx (.cells ti.zero)).is r U b t->b0I P a o w g H nx r U b:=fun h=>
     p0E (bl:= .cells ti.zero) (cap:=1) hH hn trivial hone (by simp [Blk.es,<-Rvs.length _ _ hzc]) (fun i hi=>by simp_all [Blk.has]) (r0v hzc) hrun h
    cases hc:(Nat.beq ti.kind 5&& !ti.zc.isEmpty&&Nat.beq ti.zero.length (ti.len*ti.el)) with
    |false=>grind
    |true=>
     rw [hc] at h;simp only [n0M] at hc;obtain ⟨⟨c1,c2⟩,c3⟩:=hc;obtain ⟨n,e,rfl⟩:∃n e,d= .array n e:=by all_goals grind
     have hel:ti.el=P.cellsOf e:=by grind
     have hzcq:ti.zc=(match n0X (P.cellsOf e) (c0E P ty) with|some cs=>cs|none=> []):=(congrArg TI.zc hti').symm;rw [<-hel,<-hz0] at hzcq;cases hco:n0X ti.el ti.zero with
     |none=>simp_all
     |some cs=>
      rw [hco] at hzcq;rw [hzcq] at h;obtain ⟨k1,k2⟩:=j0w hco (q0d c3) hzc;obtain ⟨m1,m2,m3⟩:=v0Y (g:=g) k2;exact p0E (cap:=ti.len) (cs:=z.cells) hH hn m2 hone (by omega) (fun i hi=>hi) (by omega) hrun h
  trivial
theorem n1f (hg:g.glob) (he:c0c g vs a) (hH:Holds g H w) (hn:b=1->∀q,g nx q=none) {o:Oper} {ty:TypeId} {x:Operand} (ho:o.op= .box ty x) (h:(eff T vs nx (.box ty x)).is r U b t):b0I P a o w g H nx r U b:=by
 simp only [eff] at h;split at h
 .rename_i v ti hx hti;have hv:=a0F hg he hx;have hrun:(execOp a.eval o).run P w= .ok (.value (.pointer (some ⟨w.heap.size,0,none⟩))) (w.alloc (.cells (a.eval x).cells ty)):=by
   simp_all [execOp,Instr.box,newVar,newRow]
  have plain:∀l:List SV,Rvs g l (a.eval x).cells.toList->d0B l=true->(a1n nx (.cells l)).is r U b t->b0I P a o w g H nx r U b:=fun l hl hone h=>
   p0E (bl:= .cells l) (cap:=1) hH hn trivial (c0M _ _ hone hl) (by simp [Blk.es,<-Rvs.length _ _ hl]) (fun i hi=>by simp_all [Blk.has]) (r0v hl) hrun h
  have arr:∀n cs,y0c n cs (a.eval x).cells->(a1n nx (.cols n (b0b cs))).is r U b t->b0I P a o w g H nx r U b:=by
   intro n cs k2 h;obtain ⟨m1,m2,m3⟩:=v0Y (g:=g) k2;exact p0E (cap:=n) hH hn m2 (a1B k2) m3 (fun i hi=>hi) m1 hrun h
  unfold r1e at h;split at h
  .rename_i n cs;obtain ⟨xs,ex,hx1⟩:=p1N hv;exact arr n cs (by rw [ex];trivial) h
  .rename_i l;replace h:=c0X h;obtain ⟨hone,h⟩:=h;obtain ⟨xs,ex,rx⟩:=rav hv;have rx':Rvs g l (a.eval x).cells.toList:=by rw [ex];exact rx
   cases hk:Nat.beq ti.kind 5 with
   |false=>grind
   |true=>
    rw [hk] at h;split at h
    .rename_i cs hcs;replace h:=a0p h;obtain ⟨hl,h⟩:=h;obtain ⟨_,k2⟩:=j0w hcs (q0d hl).symm rx';exact arr _ cs (by omega) h
    grind
  .replace h:=a0p h;obtain ⟨hone,h⟩:=h;refine plain [v] ?_ (by simp [d0B,hone]) h;rw [(SV.one_ok hone hv).2];simp only [Rvs];simp_all
 trivial
theorem f1m (hT:b0t P T) (hg:g.glob) (he:c0c g vs a) (hH:Holds g H w) {o:Oper} {ty:TypeId} {parts:Array (Nat×Operand)} (ho:o.op= .build ty parts) (h:(eff T vs nx (.build ty parts)).is r U b t):b0I P a o w g H nx r U b:=by
 simp only [eff] at h;split at h
 .rename_i ti hti;replace h:=a0p h;obtain ⟨hk,h⟩:=h;simp only [n0M,n1s] at hk;obtain ⟨hk,hn8⟩:=hk;split at h
  .rename_i l hl;have hti':=hT _ _ hti;unfold k0j at hti';split at hti'
   .rename_i inf d hinf hdd;simp only [injEq] at hti';have hb:(inf.zero.isSome&&k0B P d)=true:=by grind
    simp only [n0M,s1q] at hb;obtain ⟨⟨z,hz⟩,hb⟩:=hb;have hzero:ti.zero=z.cells.toList.map cv:=by grind [c0E]
    have hz0:Rvs g ti.zero z.cells.toList:=by rw [hzero];exact k0k g _
    have hzrun:(zeroValue ty).run P w= .ok z w:=by simp_all [zeroValue,typeInfo]
    have hkind:ti.kind=b0f d:=by grind
    have fin:∀cs':Array Value,Rvs g l cs'.toList->(execOp a.eval o).run P w= .ok (.value (.agg cs')) w->b0I P a o w g H nx r U b:=by
     intro cs' h2 hrun;have agg:(Res.one (.agg l)).is r U b t->b0I P a o w g H nx r U b:=by
      rintro ⟨rfl,rfl,rfl,_⟩;exact ⟨_,w,g,.inl hrun,e0E hH (by simp only [Rv];simp_all)⟩
     cases hk5:Nat.beq ti.kind 5 with
     |false=>simp_all
     |true=>
      rw [hk5] at h;simp only [cond_true] at h;split at h
      .rename_i cs hcs;replace h:=a0p h;obtain ⟨hl',h⟩:=h;obtain ⟨rfl,rfl,rfl,_⟩:=h;obtain ⟨_,k2⟩:=j0w hcs (q0d hl').symm h2;exact ⟨_,w,g,.inl hrun,e0E hH (by simp only [Rv];simp_all)⟩
      simp_all
    cases d with
    |struct fs=>
     simp only [k0B] at hb;have hms:(fs.mapM (m:=Sem) (fun f=>do pure (f.offset,<-sizeOf f.type))).run P w= .ok (fs.map fun f=>(f.offset,fsz P f.type)) w:=by
      rw [Array.mapM_eq_mapM_toList,Sem.run_map,o0i P w fs.toList hb];simp [<-Array.toList_map]
     obtain ⟨cs',h1,h2⟩:=p0C (place:=fun i=>(fs.map fun f=>(f.offset,fsz P f.type))[i]?) hg he (by
      intro i o n hp;unfold TI.place at hp;rw [<-hti'] at hp;simp only [b0f] at hp;simp only [b0l] at hp;cases hf:fs.toList[i]? with
      |none=>simp_all
      |some f=>
       simp_all) parts.toList ti.zero l z.cells hz0 hl
     refine fin cs' h2 ?_;simp_all [Instr.fill,fsz,execOp,Instr.build,k1h,b1g,n1x,Array.toList_map,run_underlying]
    |array n e=>
     simp only [k0B,s1q] at hb;obtain ⟨ie,hie⟩:=hb;have hel:ti.el=ie.size:=by rw [<-hti'];simp [Program.cellsOf,hie]
     have hsz:(sizeOf e).run P w= .ok ti.el w:=by simp [sizeOf,typeInfo,hie,hel]
     obtain ⟨cs',h1,h2⟩:=p0C (place:=fun i=>some (i*ti.el,ti.el)) hg he (by
      intro i o n hp;unfold TI.place at hp;have:Nat.beq ti.kind 4=false:=by rw [<-hti'];rfl
      rw [this] at hp;simpa using hp) parts.toList ti.zero l z.cells hz0 hl
     refine fin cs' h2 ?_;simp_all [Instr.fill,execOp,Instr.build,k1h,b1g,n1x,Array.toList_map,run_underlying]
    |map k e=>rw [hkind] at hn8;cases hn8
    |_=>simp [k0B] at hb
   trivial
  trivial
 trivial
theorem i0j {ty:TypeId} {ti:TI} (h:k0j P ty=some ti) (hk:Nat.beq ti.kind 6=true) (_hone:d0B ti.ez=true\/True) (hl:Nat.beq ti.ez.length ti.el=true) (h0:Nat.beq ti.el 0=false):
  ∃e i z,P.underlying ty=some (.slice e)/\P.info? e=some i/\i.zero=some z/\i.size=ti.el/\i.bytes=ti.eb/\z.cells.size=ti.el/\(∀g,Rvs g ti.ez z.cells.toList)/\(ti.u8=true->P.underlying e=some (.int .u8)):=by
 unfold k0j at h;split at h
 .rename_i i d hi hd;simp only [injEq] at h;have hkd:b0f d=6:=by rw [<-h] at hk;simp_all
  obtain ⟨e,rfl⟩:∃e,d= .slice e:=by cases d<;>first|simp_all [b0f]
  have hll:=q0d hl;grind [c0E,Program.cellsOf,k0k]
 grind
theorem g0G (n:Nat):∀(l:List SV),(e0Z n l).length=l.length/\(∀c∈e0Z n l,c.len=n)/\∀j sv,nth l j=some sv->∃c,nth (e0Z n l) j=some c/\∀i,i<n->c.at i=sv
 | []=>by simp [e0Z,nth]
 |s::l=>by
  obtain ⟨h1,h2,h3⟩:=g0G n l;have hz:(m1M n s).len=n/\∀i,i<n->(m1M n s).at i=s:=by
   cases s<;>refine ⟨by simp [m1M,BCol.len,Col.len],fun i hi=> ?_⟩<;>simp [m1M,BCol.at,Col.at,List.getD,hi]
  refine ⟨by simp [e0Z,h1],?_,?_⟩
  .intro c hc;simp only [e0Z,f1I] at hc;grind
  .intro j sv hj;cases j with
   |zero=>simp only [nth,injEq] at hj;subst hj;exact ⟨_,rfl,hz.2⟩
   |succ j=>simp_all [nth,e0Z]
theorem a1C {n:Nat} {l:List SV} {j:Nat} {c:BCol} (h:nth (e0Z n l) j=some c):∃sv,nth l j=some sv/\∀i,i<n->c.at i=sv:=by
 obtain ⟨h1,h2,h3⟩:=g0G n l;have hj:=c0j h;rw [h1] at hj;obtain ⟨c',k1,k2⟩:=h3 j l[j] (by rw [b0l];simp);simp_all [b0l]
theorem o0l {z:Array Value} {es n x:Nat} (hz:z.size=es) (hx:x<n*es):((Array.range (n*es)).map (z[·%z.size]!))[x]? =z[x%es]?:=by
 have hpos:0<es:=by grind
 have hm:x%es<z.size:=by rw [hz];exact t1J _ hpos
 simp_all
theorem a1D {i j es:Nat} (hj:j<es):(i*es+j)%es=j:=by
 simp_all [s1u]
theorem r0w (hT:b0t P T) (hg:g.glob) (he:c0c g vs a) (hH:Holds g H w) (hn:b=1->∀q,g nx q=none) {o:Oper} {ty:TypeId} {x y:Operand} (ho:o.op= .makeSlice ty x y) (h:(eff T vs nx (.makeSlice ty x y)).is r U b t):b0I P a o w g H nx r U b:=by
 simp only [eff] at h;split at h
 .rename_i k1 l k2 c ti hx hy hti;replace h:=a0p h;obtain ⟨hc,h⟩:=h;simp only [n0M,n1s] at hc;obtain ⟨⟨⟨c1,c2⟩,c3⟩,c4⟩:=hc;obtain ⟨hb,rfl,rfl,rfl,_⟩:=h;obtain ⟨hl0,hlc,hcb⟩:=hb;obtain ⟨e,i,z,hd,hi,hz,hsz,hby,hzs,hrz,_⟩:=i0j (hT _ _ hti) c1 (.inr trivial) c3 c4;have hc0:0<=c:=by omega
  have hcm:c<=281474976710656:=by
   have:c*1<=c*((ti.eb:Int)+1):=Int.mul_le_mul_of_nonneg_left (by omega) hc0;omega
  have hbc:(ti.eb:Int)*c<=281474976710656:=by
   grind
  have wl:IntKind.i64.wrap l=l:=IntWalk.i64_in l ⟨by omega,by omega⟩;have wc:IntKind.i64.wrap c=c:=IntWalk.i64_in c ⟨by omega,by omega⟩;have hxv:=riv (a0F hg he hx);have hyv:=riv (a0F hg he hy);let n:=c.toNat*ti.el
  let cs:Array Value:=(Array.range n).map (z.cells[·%z.cells.size]!)
  have hcells:∀x,x<n->cs[x]? =z.cells[x%ti.el]?:=fun x hx=>o0l hzs hx
  have hrun:(execOp a.eval o).run P w= .ok (.value (.slice (some ⟨w.heap.size,0,none⟩) l.toNat c.toNat)) (w.alloc (.cells cs e)):=by
   have hti':∀w,(typeInfo e).run P w= .ok i w:=fun w=>by simp [typeInfo,hi]
   have hszr:∀w,(sizeOf e).run P w= .ok ti.el w:=fun w=>by simp [sizeOf,hti',hsz]
   have hzr:∀w,(zeroValue e).run P w= .ok z w:=fun w=>by simp [zeroValue,hti',hz]
   have h1:¬(c<0):=by omega
   have h3:¬(l<0):=by omega
   have h4:¬(l>c):=by omega
   have hroom:∀w,(askRoom (c.toNat*i.bytes)).run P w= .ok () w:=fun w=>by simp
   have hif:(decide (c<0)||decide ((i.bytes:Int)*c>2^48)||decide (l<0)||decide (l>c))=false:=by simp_all
   simp only [execOp,ho,Instr.makeSlice,k1h,run_underlying hd,b1g,hxv,hyv,asInt,asIntOf,n1x,hti',wl,wc,hif,hroom,hszr,s1X,if_false];rcases m1S (c.toNat*ti.el) with hn0|hn0
   .have e0:cs=(Array.range (c.toNat*ti.el)).map (fun x=>(#[]:Array Value)[x%(#[]:Array Value).size]!):=by
     grind
    simp_all [n1x,b1g,newRow,k1h]
   .rw [if_neg (by omega)];simp only [k1h,hzr,b1g,n1x,newRow,c0F];rfl
  have hlen:l.toNat<=c.toNat:=by omega
  obtain ⟨z1,z2,z3⟩:=g0G l.toNat ti.ez;have hll:=q0d c3;refine ⟨_,_,_,.inl hrun,f0R (bl:= .cols l.toNat (e0Z l.toNat ti.ez)) (cap:=c.toNat) (w':=w.alloc (.cells cs e)) (.inl rfl) hH rfl rfl rfl rfl (hn rfl) z2 ?_ ?_ ?_ ?_ (r0r hlen)⟩
  .intro v hv;obtain ⟨x,hx,ev⟩:=s1B hv;have hx':x<n:=by grind
   have h1:=hcells x hx';have h2:cs[x]? =some v:=by
    grind
   rw [h2] at h1;exact c0M _ _ c2 (hrz g) v (by grind)
  .grind [Blk.es]
  .grind [Blk.has]
  .intro i' j sv hi' hj;simp only [Blk.has] at hi';simp only [Blk.at] at hj;split at hj
   .rename_i c' hc';simp only [injEq] at hj;subst hj;obtain ⟨s,hs1,hs2⟩:=a1C hc';have hjl:=c0j hs1;rw [hs2 i' hi'];simp only [Blk.es,z1,hll];rw [hll] at hjl;have hlt:i'*ti.el+j<n:=e0g (by omega) hjl;rw [hcells _ hlt,a1D hjl];obtain ⟨v,h1,h2⟩:=Rvs.nth _ _ j s (hrz g) hs1;exact ⟨v,by simpa using h1,h2⟩
   trivial
 trivial
theorem Rvs.of_nth {g:G}:∀(l:List SV) (vals:List Value),vals.length=l.length->(∀(i:Nat) (sv:SV),Sy.nth l i=some sv->∃v,vals[i]? =some v/\Rv g sv v)->Rvs g l vals
 | [],vals,h,_=>by simp_all [Rvs]
 |s::l,[],h,_=>by trivial
 |s::l,v::vals,h,hn=>by
  obtain ⟨u,h1,h2⟩:=hn 0 s rfl;simp at h1;subst h1;exact ⟨v,vals,rfl,h2,Rvs.of_nth l vals (by simp_all) (fun i sv hi=>by simpa using hn (i+1) sv hi)⟩
theorem v0Z {α:Type} (l:List α) (h0:0<l.length):∀(n x:Nat),x<n*l.length->(List.replicate n l).flatten[x]? =l[x%l.length]?
 |0,x,h=>by omega
 |n+1,x,h=>by
  rw [u1j,List.flatten_cons];rcases i1B x l.length with h1|h1
  .rw [e1S h1,s1u h1]
  .rw [f1K h1,v0Z l h0 n (x-l.length) (by grind)];simp_all [Nat.mod_eq_sub_mod]
theorem t0S {α:Type} (l:List α) (n:Nat):(List.replicate n l).flatten.length=n*l.length:=by
 simp
theorem a1E {z:Array Value} {ez:List SV} {es n:Nat} (hz:z.size=es) (h0:0<es) (hr:Rvs g ez z.toList):Rvs g (List.replicate n ez).flatten ((Array.range (n*es)).map (z[·%z.size]!)).toList:=by
 have hl:ez.length=es:=by have:=Rvs.length _ _ hr;simp_all
 refine Rvs.of_nth _ _ (by simp [hl]) ?_;intro i sv hi;have hlt:=c0j hi;rw [t0S,hl] at hlt;rw [b0l,v0Z ez (by omega) n i (by simp_all),hl] at hi;obtain ⟨v,h1,h2⟩:=Rvs.nth ez z.toList (i%es) sv hr (by rw [b0l];omega);grind
theorem r0x (l:List SV):(r0h l).len=l.length/\∀(i:Nat) (s:SV),l[i]? =some s->(r0h l).at i=s:=by
 unfold r0h;split
 .rename_i c hc;obtain ⟨h1,h2⟩:=p0D hc;exact ⟨h1,fun i s hs=>(h2 i s hs).symm⟩
 .exact ⟨rfl,fun i s hs=>by grind [BCol.at]⟩
theorem k0p (es:Nat) (l:List SV):∀(n j:Nat),(c0J es l j n).length=n/\∀x,x<n->nth (c0J es l j n) x=some (r0h (every es (j+x) l))
 |0,j=>by simp [c0J]
 |n+1,j=>by
  obtain ⟨h1,h2⟩:=k0p es l n (j+1);refine ⟨by simp [c0J,h1],?_⟩;intro x hx;cases x with
  |zero=>rfl
  |succ x=>grind [c0J,nth]
theorem p0F (hT:b0t P T) (hg:g.glob) (he:c0c g vs a) (hH:Holds g H w) (hn:b=1->∀q,g nx q=none) {o:Oper} {ty:TypeId} {len:Nat} {parts:Array (Nat×Operand)} (ho:o.op= .buildSlice ty len parts) (h:(eff T vs nx (.buildSlice ty len parts)).is r U b t):b0I P a o w g H nx r U b:=by
 simp only [eff] at h;split at h
 .rename_i ti hti;replace h:=a0p h;obtain ⟨hc,h⟩:=h;simp only [n0M,n1s] at hc;obtain ⟨⟨⟨c1,c3⟩,c4⟩,c5⟩:=hc;split at h
  .rename_i l hl;replace h:=a0p h;obtain ⟨hc,h⟩:=h;simp only [n0M] at hc;obtain ⟨c6,c7⟩:=hc;obtain ⟨rfl,rfl,rfl,_⟩:=h;obtain ⟨e,i,z,hd,hi,hz,hsz,hby,hzs,hrz,_⟩:=i0j (hT _ _ hti) c1 (.inr trivial) c3 c4;have hel:0<ti.el:=by rcases m1S ti.el with e|e;all_goals simp_all
   have hll:=q0d c3;have hl7:=q0d c7;have h5:=s1C c5;have hz0:=a1E (n:=len) hzs hel (hrz g);obtain ⟨cs',h1,h2⟩:=p0C (place:=fun i=>some (i*ti.el,ti.el)) hg he (fun i o n hp=>hp) parts.toList _ l _ hz0 hl;have h1':Instr.fill (fun i=>some (i*ti.el,ti.el)) ((Array.range (len*ti.el)).map (z.cells[·%z.cells.size]!)) ((parts.map fun p=>(p.1,a.eval p.2)).toList)=some cs':=by
    simp_all
   have hcl:=Rvs.length _ _ h2;have hti':∀w,(typeInfo e).run P w= .ok i w:=fun w=>by simp [typeInfo,hi]
   have hszr:∀w,(sizeOf e).run P w= .ok ti.el w:=fun w=>by simp [sizeOf,hti',hsz]
   have hzr:∀w,(zeroValue e).run P w= .ok z w:=fun w=>by simp [zeroValue,hti',hz]
   have hrun:(execOp a.eval o).run P w= .ok (.value (.slice (some ⟨w.heap.size,0,none⟩) len len)) (w.alloc (.cells cs' e)):=by
    simp only [execOp,ho,Instr.buildSlice,k1h,run_underlying hd,b1g,hszr];rw [if_neg (by omega)];rcases m1S (len*ti.el) with hn0|hn0
    .have e0:(Array.range (len*ti.el)).map (fun x=>(#[]:Array Value)[x%(#[]:Array Value).size]!)=(Array.range (len*ti.el)).map (z.cells[·%z.cells.size]!):=by
      simp_all
     simp only [k1h,n1x,b1g,if_pos hn0,e0,h1',newRow,c0F]
    .simp only [k1h,n1x,b1g,if_neg (show¬len*ti.el=0 by omega),hzr,h1',newRow,c0F]
   have hone:=c0M _ _ c6 h2;obtain ⟨B,hBdef⟩:∃B,B=(bif Nat.beq len 0 then e0Z 0 ti.ez else c0J ti.el l 0 ti.el):=⟨_,rfl⟩;rw [<-hBdef];have hB1:B.length=ti.el/\(∀c∈B,c.len=len)/\∀i j c,i<len->nth B j=some c->nth l (j+i*ti.el)=some (c.at i):=by
    cases h0:Nat.beq len 0 with
    |true=>
     have:=q0d h0;grind [g0G]
    |false=>
     rw [h0] at hBdef;simp only [cond_false] at hBdef;obtain ⟨b1,b2⟩:=k0p ti.el l ti.el 0;subst hBdef;refine ⟨b1,?_,?_⟩
     .grind [c0Y,c0j,r0x,k0o]
     .intro i j c hi hj;have hjl:=c0j hj;rw [b1] at hjl;rw [b2 j hjl,i1z] at hj;cases hj;have hlt:j+i*ti.el<l.length:=by have:=e0g hi hjl;omega
      simp_all [f0Q,r0x,b0l]
   obtain ⟨k1,k2,k3⟩:=hB1;refine ⟨_,_,_,.inl hrun,f0R (bl:= .cols len B) (cap:=len) (w':=w.alloc (.cells cs' e)) (.inl rfl) hH rfl rfl rfl rfl (hn rfl) k2 hone ?_ (fun i hi=>hi) ?_ (r0r (m0c _))⟩
   all_goals grind [Blk.es,Blk.has,Blk.at,Rvs.nth]
  trivial
 trivial
theorem i0k {α:Type} (l:List α) (i n x:Nat) (d:α) (hx:x<n):(seg i n l).getD x d=l.getD (i+x) d:=by
 simp_all [seg]
theorem BCol.seg_at (c:BCol) (i n x:Nat) (hx:x<n) (hl:i+n<=c.len):(c.seg i n).at x=c.at (i+x):=by
 cases c with
 |sc c=>cases c<;>simp only [BCol.seg,Col.seg,BCol.at,Col.at,i0k _ _ _ _ _ hx]
 |svs l=>grind [BCol.seg,BCol.at,i0k]
 |own h ns=>grind [BCol.seg,BCol.at,BCol.len,i0k,e0s]
 |arrs m k rows=>grind [BCol.seg,BCol.at,BCol.len,i0k,j1I]
 |ptrs h m=>grind [BCol.seg,BCol.at,BCol.len,i0k,e0Y]
theorem BCol.seg_len (c:BCol) (i n m:Nat) (hc:c.len=m) (h:i+n<=m):(c.seg i n).len=n:=by
 cases c with
 |sc c=>cases c<;>simp only [BCol.seg,Col.seg,BCol.len,Col.len,Sy.seg,p1O,s1v] at hc⊢<;>omega
 |svs l=>simp only [BCol.seg,BCol.len,Sy.seg,p1O,s1v] at hc⊢;omega
 |own h ns=>simp only [BCol.seg,BCol.len,Sy.seg,p1O,s1v,b0O] at hc⊢;omega
 |arrs m k rows=>simp only [BCol.seg,BCol.len,Sy.seg,p1O,s1v,e1Y] at hc⊢;omega
 |ptrs h m=>simp only [BCol.seg,BCol.len,Sy.seg,p1O,s1v,b0P] at hc⊢;omega
theorem j0y (i n:Nat):∀(l:List BCol),(t0E i n l).length=l.length/\∀j,nth (t0E i n l) j=(nth l j).map (·.seg i n)
 | []=>by simp [t0E,nth]
 |c::l=>by
  obtain ⟨h1,h2⟩:=j0y i n l;refine ⟨by simp [t0E,h1],?_⟩;intro j;cases j with
  |zero=>rfl
  |succ j=>simp [t0E,nth,h2 j]
structure SrcOk (P:Program) (g:G) (w:World) (el:Nat) (v:Value) (n:Nat) (l:List BCol):Prop where
 len:(Builtin.lenOf v).run P w= .ok n w
 cols:l.length=el
 lens:∀c∈l,c.len=n
 first:∀k,k<=n->∃cs:Array Value,(∀w1:World,w1.heap=w.heap->(Builtin.firstCells el k v).run P w1= .ok cs w1)/\cs.size=k*el/\(∀u∈cs.toList,u.oneCell'=true)/\∀i j c,i<k->nth l j=some c->∃u,cs[i*el+j]? =some u/\Rv g (c.at i) u
theorem i0l {hd q i n m:Nat} {ro:Bool} {l:List BCol} {v:Value} (hH:Holds g H w) (hent:Ent H hd q ro (.cols m l)) (hv:Rv g (.sl hd q i n) v) (hle:i+n<=m) (el:Nat) (hel:l.length=el):SrcOk P g w el v n (t0E i n l):=by
 obtain ⟨β,hβ,hB⟩:=hH.blk _ _ _ _ hent;obtain ⟨ad,c,rfl,hnc,hz⟩:=rsv hv;obtain ⟨s1,s2⟩:=j0y i n l;have hes:β.es=el:=hB.es.trans hel;refine ⟨by rfl,by omega,?_,?_⟩
 .intro x hx;obtain ⟨j,hj⟩:=c0Y hx;rw [s2 j] at hj;cases hc:nth l j with
  |none=>simp_all
  |some y=>rw [hc] at hj;cases hj;exact BCol.seg_len y i n m (hB.len y (b0y hc)) hle
 .intro k hk;rcases hz with hz|⟨β',hβ',ha,hcap⟩
  .have hk0:k=0:=by omega
   subst hk0;refine ⟨#[],fun w1 _=> ?_,by simp,by simp,fun i j c hi=>by omega⟩;cases ad with
   |none=>rfl
   |some ad=>simp [Builtin.firstCells,loadCells,loadCellsFrom]
  .subst ha;have cell:∀x,x<k*el->∃u,w.cell? ((β.addr i 0).add x)=some u/\u.oneCell'=true/\∀i' j c,x=i'*el+j->i'<k->j<el->nth (t0E i n l) j=some c->Rv g (c.at i') u:=by
    intro x hx;have hpos:0<el:=by grind
    have hi:x/el<k:=(t1R hpos).2 hx;have hj:x%el<el:=t1J _ hpos;have hd':x/el*el+x%el=x:=by rw [t1m];exact u1g _ _
    have hhas:(Blk.cols m l).has (i+x/el):=by grind [Blk.has]
    have hnt:nth l (x%el)=some l[x%el]:=by rw [b0l];simp
    obtain ⟨u,h1,h2⟩:=hB.cell (i+x/el) (x%el) (l[x%el].at (i+x/el)) hhas (by simp [Blk.at,hnt]);have ea:(β.addr i 0).add x=β.addr (i+x/el) (x%el):=by
     rw [d0E];grind [Base.addr]
    refine ⟨u,by simp_all,hB.one _ _ u hhas (by omega) h1,?_⟩;intro i' j c hx' hi' hj' hc;have e1:x%el=j:=by rw [hx'];exact a1D hj'
    have e2:x/el=i':=by
     simp_all [t1m,u1G,q1j,Nat.mul_add_div]
    rw [s2 j,<-e1,hnt] at hc;simp only [k1k,injEq] at hc;subst hc;rw [BCol.seg_at _ _ _ _ (by omega) (by rw [hB.len _ (b0y hnt)];omega),<-e2];omega
   let val:Nat->Value:=fun x=>(w.cell? ((β.addr i 0).add x)).getD undef
   have hld:∀w1:World,w1.heap=w.heap->_:=fun w1 hw=>run_loadCells_list (P:=P) (w:=w1) (β.addr i 0) ((List.range (k*el)).map val) (by
    have hcc:∀ad,w1.cell? ad=w.cell? ad:=fun ad=>by unfold World.cell?;grind
    grind)
   refine ⟨((List.range (k*el)).map val).toArray,fun w1 hw=> ?_,by simp,?_,?_⟩
   .simp_all [Builtin.firstCells]
   .grind
   .intro i' j c hi' hj;have hjl:=c0j hj;have hlt:=e0g hi' hjl;grind
theorem p0G (hg:g.glob) (he:c0c g vs a) (hH:Holds g vs.heap w) {ti:TI} {y:Operand} {x:SV} (hx:gv vs y=some x) {ty:TypeId} (_hti:k0j P ty=some ti) (_c1:Nat.beq ti.kind 6=true) (c3:Nat.beq ti.ez.length ti.el=true) (_c4:Nat.beq ti.el 0=false) {F:Nat->List BCol->List Nat->Res} (h:(k0A vs ti x F).is r U b t):
  ∃n l tt,(F n l tt).is r U b t/\SrcOk P g w ti.el (a.eval y) n l:=by
 have hv:=a0F hg he hx;obtain ⟨z1,z2,z3⟩:=g0G 0 ti.ez;have hll:=q0d c3;unfold k0A at h;split at h
 .rename_i hd q i n;replace h:=a0J h;obtain ⟨ro,bl,hent,h⟩:=h;split at h
  .replace h:=a0p h;obtain ⟨hel,h⟩:=h;rw [Res.is_guard] at h;exact ⟨n,_,_,h.2,i0l hH hent hv h.1 _ (q0d hel)⟩
  trivial
 .refine ⟨0,_,_,h,?_⟩;have e:a.eval y= .slice none 0 0:=by trivial
  rw [e];refine ⟨by rfl,by omega,z2,fun k hk=> ?_⟩;have hk0:k=0:=by omega
  subst hk0;exact ⟨#[],fun w1 _=>by rfl,by simp,by simp,fun i j c hi=>by omega⟩
 .refine ⟨0,_,_,h,?_⟩;obtain ⟨ad,e⟩:∃ad,a.eval y= .slice ad 0 0:=by trivial
  rw [e];refine ⟨by rfl,by omega,z2,fun k hk=> ?_⟩;have hk0:k=0:=by omega
  subst hk0;refine ⟨#[],fun w1 _=> ?_,by simp,by simp,fun i j c hi=>by omega⟩;cases ad with
  |none=>rfl
  |some ad=>simp [Builtin.firstCells,loadCells,loadCellsFrom]
 .rename_i s;replace h:=a0p h;obtain ⟨hu,h⟩:=h;refine ⟨_,_,_,h,?_⟩;simp only [n0M] at hu;have e:=rtv hv;have e1:=q0d hu.2;rw [e,e1];refine ⟨by rfl,rfl,by simp [BCol.len,Col.len,l0k],fun k hk=> ?_⟩;have hk':k<=s.data.size:=hk;refine ⟨(s.extract 0 k).data.map fun b=> .int .u8 b.toNat,fun w1 _=>by rfl,?_,?_,?_⟩
  .simp_all
  .intro u hu;simp only [Array.toList_map,r1U] at hu;obtain ⟨b,_,rfl⟩:=hu;rfl
  .intro i j c hi hj;cases j with
   |zero=>
    simp only [nth,injEq] at hj;subst hj;refine ⟨.int .u8 (s.data[i].toNat:Int),?_,?_⟩
    .simp_all
    .simp only [BCol.at,Col.at,l0k,Rv];grind
   |succ j=>trivial
 trivial
theorem y0q {w1:World} (hH:Holds g H w) (h:w1.heap=w.heap):Holds g H w1:=
 ⟨fun h' q ro b he=>let ⟨β,hβ,hB⟩:=hH.blk h' q ro b he;⟨β,hβ,b0E hB (G.le.refl g) (by simp_all) (fun _=>by rw [h])⟩,hH.sep⟩
theorem r0y (newLen:Nat):∀(rounds c:Nat),c<=newLen+(newLen+768)/4->Builtin.growBy newLen rounds c<=newLen+(newLen+768)/4
 |0,c,h=>h
 |rounds+1,c,h=>by
  simp only [Builtin.growBy];split
  .omega
  .exact r0y newLen rounds _ (by omega)
theorem l0E {need old:Nat} (h:old<need):Builtin.nextslicecap need old<=2*need+1000:=by
 grind [Builtin.nextslicecap,r0y]
theorem r0z {need old eb:Nat} (h:old<need) (hb:(need+500)*(eb+1)<=70368744177664):Builtin.nextslicecap need old*eb<=281474976710656/\need<=70368744177664:=by
 have h1:=l0E h;have h2:Builtin.nextslicecap need old*eb<=(2*need+1000)*eb:=r1X _ h1;grind
def t0F (P:Program) (w w':World) (k:Nat) (cs:Array Value):Option Addr->Prop
 |some ad=>(storeCells (ad.add k) cs.toList).run P w= .ok () w'
 |none=>w'=w
theorem c0N {t t2 ty e:TypeId} {el:Nat} {d2:TypeDesc} (ht:P.underlying t=some (.slice e)) (ht2:P.underlying t2=some d2) (hk2:(∃e2,d2= .slice e2)\/d2= .string) (hsz:∀w,(sizeOf e).run P w= .ok el w)
  {base:Option Addr} {n c n2:Nat} {x:Value} {cs:Array Value} (hlen:(Builtin.lenOf x).run P w= .ok n2 w) (hcs:(Builtin.firstCells el n2 x).run P w= .ok cs w) (hfit:n+n2<=c) {w':World}
  (hst:t0F P w w' (n*el) cs base):(Builtin.append_ #[t,t2] ty #[.slice base n c,x]).run P w= .ok (.slice base (n+n2) c) w':=by
 rcases hk2 with ⟨e2,rfl⟩|rfl
 all_goals
  cases base with
  |none=>
   simp only [t0F] at hst;subst hst;simp [Builtin.append_,run_underlying ht,run_underlying ht2,hsz,hlen,hfit,hcs]
  |some ad=>
   simp only [t0F] at hst;simp [Builtin.append_,run_underlying ht,run_underlying ht2,hsz,hlen,hfit,hcs,hst]
theorem f0D {t t2 ty e:TypeId} {el:Nat} {d2:TypeDesc} {i:TypeInfo} {z:Value} (ht:P.underlying t=some (.slice e)) (ht2:P.underlying t2=some d2) (hk2:(∃e2,d2= .slice e2)\/d2= .string) (hi:P.info? e=some i) (hel:i.size=el) (hz:i.zero=some z)
  {base:Option Addr} {n c n2:Nat} {x:Value} {old cs:Array Value} (hlen:(Builtin.lenOf x).run P w= .ok n2 w) (hcs:∀w1:World,w1.heap=w.heap->(Builtin.firstCells el n2 x).run P w1= .ok cs w1) (hold:∀w1:World,w1.heap=w.heap->(Builtin.firstCells el n (.slice base n c)).run P w1= .ok old w1) (hfit:c<n+n2)
  (h63:n+n2<=70368744177664) (h48:Builtin.nextslicecap (n+n2) c*i.bytes<=281474976710656):
  ∃cap w',n+n2<=cap/\(Builtin.append_ #[t,t2] ty #[.slice base n c,x]).run P w= .ok (.slice (some ⟨w.heap.size,0,none⟩) (n+n2) cap) w'/\w'.heap=w.heap.push (.cells (old++cs++Builtin.zeroCells z.cells (cap-(n+n2))) e (0,0))/\w'.os=w.os/\w'.tape=w.tape/\w'.output=w.output:=by
 have hti':∀w,(typeInfo e).run P w= .ok i w:=fun w=>by simp [typeInfo,hi]
 have hszr:∀w,(sizeOf e).run P w= .ok el w:=fun w=>by simp [sizeOf,hti',hel]
 have hzr:∀w,(zeroValue e).run P w= .ok z w:=fun w=>by simp [zeroValue,hti',hz]
 have hn:¬(n+n2<=c):=by omega
 have h63':¬(9223372036854775807<((n:Int)+(n2:Int))):=by omega
 have h48':¬(281474976710656<Builtin.nextslicecap (n+n2) c*i.bytes):=by omega
 have hq:(Question.appendCap (n+n2) c e).forced=false:=rfl;have hroom:∀k w,(askRoom k).run P w= .ok () w:=fun k w=>by unfold askRoom;split<;>rfl
 let w1:World:=w.drew
 let cap:=(Question.appendCap (n+n2) c e).cut (w.tape w.drawn (Question.appendCap (n+n2) c e))
 have hcap:n+n2<=cap:=by simp only [cap,Question.cut];omega
 refine ⟨cap,w1.alloc (.cells (old++cs++Builtin.zeroCells z.cells (cap-(n+n2))) e),hcap,?_,rfl,rfl,rfl,rfl⟩;have h1:=hcs w1 rfl;have h2:=hold w1 rfl;rcases hk2 with ⟨e2,rfl⟩|rfl
 all_goals simp [Builtin.append_,run_underlying ht,run_underlying ht2,hszr,hti',hlen,hn,h63',h48',hroom,hzr,newRow]
 all_goals
  rw [if_neg (by rw [hq];simp)];have h1':(Builtin.firstCells el n2 x).run P w.drew= .ok cs w.drew:=h1;have h2':(Builtin.firstCells el n (.slice base n c)).run P w.drew= .ok old w.drew:=h2;simp only [h1',h2',b1g];rfl
theorem r0A {c d e:BCol} (h:i0g c d=some e):e.len=c.len+d.len/\(∀i,i<c.len->e.at i=c.at i)/\∀i,e.at (c.len+i)=d.at i:=by
 have gl:∀{α:Type} (l m:List α) (x:Nat) (dd:α),x<l.length->(l++m).getD x dd=l.getD x dd:=by
  grind
 unfold i0g at h;split at h
 .rename_i k l p m;cases hp:f0J p k with
  |false=>simp_all
  |true=>
   have:=c0t hp;grind [BCol.len,Col.len,BCol.at,Col.at]
 all_goals grind [BCol.len,Col.len,BCol.at,Col.at,e0A,b0O,e0s]
theorem o0m:∀(l m r:List BCol),e0t l m=some r->r.length=l.length/\m.length=l.length/\∀j e,nth r j=some e->∃c d,nth l j=some c/\nth m j=some d/\i0g c d=some e
 | [],[],r,h=>by simp_all [e0t,nth]
 | [],_::_,r,h=>by trivial
 |_::_,[],r,h=>by trivial
 |c::l,d::m,r,h=>by
  simp only [e0t] at h;split at h
  .rename_i e r' he hr;simp only [injEq] at h;subst h;obtain ⟨h1,h2,h3⟩:=o0m l m r' hr;refine ⟨by grind,by grind,?_⟩;intro j e' hj;cases j with
   |zero=>simp only [nth,injEq] at hj;subst hj;exact ⟨c,d,rfl,rfl,he⟩
   |succ j=>simp_all [nth]
  grind
end ops
section ops
theorem a1F (k:IntKind):f0J k k=true:=by cases k<;>rfl
variable {P:Program} {T:Tab} {g:G} {vs:VS} {a:Act} {w:World} {r:SV} {U:a0k} {b:Nat} {t:List Nat} {H:a0k} {nx:Nat}
theorem r0B:∀l2:List BCol,e0t (t0E 0 0 l2) l2=some l2
 | []=>rfl
 |c::l=>by
  simp only [t0E,e0t];rw [r0B l];cases c with
  |sc c=>cases c<;>simp [BCol.seg,Col.seg,i0g,seg,a1F]
  |svs l=>rfl
  |own h ns=>rfl
  |ptrs h n=>rfl
  |arrs n k r=>rfl
theorem t0T (hg:g.glob) (hH:Holds g vs.heap w) (hn:∀q,g nx q=none) {o:Oper} {ty ty2 e:TypeId} {x y:Operand} {ti:TI} {d2:TypeDesc} {i:TypeInfo} {z:Value} {hd' q i' n m n2:Nat} {l l2:List BCol} (ho:o.op= .call ⟨.builtin .append,#[x,y],#[ty,ty2]⟩)
  (hd:P.underlying ty=some (.slice e)) (hd2:P.underlying ty2=some d2) (hk2:(∃e2,d2= .slice e2)\/d2= .string) (hi:P.info? e=some i) (hz:i.zero=some z) (hsz:i.size=ti.el) (hby:i.bytes=ti.eb) (hel:0<ti.el)
  (hxv:Rv g (.sl hd' q i' n) (a.eval x)) (hent:Ent vs.heap hd' q false (.cols m l)) (hle:l.length=ti.el) (hm:i'+n=m) (hsrc:SrcOk P g w ti.el (a.eval y) n2 l2) (hbd:(n+n2+500)*(ti.eb+1)<=70368744177664):b0I P a o w g vs.heap nx (.sl nx 0 0 (n+n2)) (b0c vs.heap hd' q (.cols m l)) 1:=by
 have hszr:∀w,(sizeOf e).run P w= .ok ti.el w:=fun w=>by simp_all [sizeOf,typeInfo]
 have hexec:∀{v':Value} {w':World},(Builtin.append_ #[ty,ty2] o.type #[a.eval x,a.eval y]).run P w= .ok v' w'->(execOp a.eval o).run P w= .ok (.value v') w':=by
  simp_all [execOp,resolve,invoke,builtin]
 obtain ⟨base,c,hxe,hnc,hz'⟩:=rsv hxv;have hso:=i0l (P:=P) hH hent hxv (by omega) ti.el hle;obtain ⟨old,o1,o2,o3,o4⟩:=hso.first n (m0c _)
 rw [hxe] at o1;obtain ⟨cs,k1,k2,k3,k4⟩:=hsrc.first n2 (m0c _)
 obtain ⟨β,hβ,hB⟩:=hH.blk _ _ _ _ hent;have hes:β.es=ti.el:=hB.es.trans hle;obtain ⟨hb,e1,e2,e3,e4,e5⟩:=t0K (b':= .cols m l) hent;have ent:∀h' q' ro' b',Ent (b0c vs.heap hd' q (.cols m l)++vs.heap) h' q' ro' b'->(h'=hd'/\q'=q/\ro'=false/\b'= .cols m l)\/(¬(h'=hd'/\q'=q)/\Ent vs.heap h' q' ro' b'):=by
  intro h' q' ro' b' hx;rw [e2] at hx;simp only [k1p,s1L] at hx;rcases a0v.1 hx with ⟨e,hb',k1,k2,k3⟩|⟨e,hx⟩
  .cases k1;subst e;rcases (e5 q' b').1 k2 with ⟨rfl,rfl⟩|⟨hne,hi⟩
   .simp_all
   .exact .inr ⟨fun x=>hne x.2,hb,e1,hi,e3.trans (e4.symm.trans k3)⟩
  grind
 have org:0<β.cap->w.heap.size<=β.blk\/∃h0 q0 b0 β0,Ent vs.heap h0 q0 false b0/\g h0 q0=some β0/\0<β0.cap/\β0.blk=β.blk/\∀h q' ro b,Ent (b0c vs.heap hd' q (.cols m l)++vs.heap) h q' ro b->¬(h=hd'/\q'=q)->¬(h=h0/\q'=q0):=
  fun hc=> .inr ⟨hd',q,_,β,hent,hβ,hc,rfl,fun _ _ _ _ _ h=>h⟩
 have born:∀β1:Base,∀h q,g h q=none->¬(nx<=h/\h<nx+1)->(g.add nx β1) h q=none:=by
  grind [G.add,absurd]
 have y0r:∀β1:Base,(g.add nx β1) nx 0=some β1:=fun β1=>by simp [G.add]
 have hle':∀β1:Base,G.le g (g.add nx β1):=fun β1=>G.le_add _ (hn 0)
 rcases i1B c (n+n2) with hgrow|hfit
 .obtain ⟨hb1,hb2⟩:=r0z hgrow hbd;obtain ⟨cap,w',hcap,hrun,hheap,hos,htp,hout⟩:=f0D (P:=P) (w:=w) (ty:=o.type) hd hd2 hk2 hi hsz hz (base:=base) (x:=a.eval y) hsrc.len k1 o1 hgrow hb2 (by simp_all);rw [<-hxe] at hrun;have hkeep:∀k,k<w.heap.size->w'.heap[k]? =w.heap[k]?:=fun k hk=>by grind
  refine ⟨_,w',g.add nx ⟨w.heap.size,0,ti.el,cap⟩,.inl (hexec hrun),c0K (h1:=hd') (q1:=q) (b1:= .cols m l) (β1:=β) hH (hle' _) (born _) ?_ ent (hle' _ _ _ _ hβ) (b0E hB (hle' _) (by simp_all) (fun hc=>hkeep _ (hB.lt hc))) org hos htp hout (by simp_all) (fun k hk _=>hkeep k hk)⟩;simp only [Rv];exact ⟨_,_,rfl,hcap,.inr ⟨_,y0r _,by simp [Base.addr],by simp⟩⟩
 .rcases m1S c with hc0|hc0
  .have hcs0:cs= #[]:=s1l (by simp_all);have hst:t0F P w w (n*ti.el) cs base:=by
    cases base with
    |none=>rfl
    |some ad=>simp [t0F,hcs0,storeCells]
   have hrun:=c0N (P:=P) (ty:=o.type) hd hd2 hk2 hszr (base:=base) (x:=a.eval y) hsrc.len (k1 w rfl) hfit hst;rw [<-hxe] at hrun;refine ⟨_,w,g.add nx ⟨0,0,ti.el,0⟩,.inl (hexec hrun),c0K (h1:=hd') (q1:=q) (b1:= .cols m l) (β1:=β) hH (hle' _) (born _) ?_ ent (hle' _ _ _ _ hβ) (b0E hB (hle' _) (m0c _) (fun _=>rfl)) org rfl rfl rfl (m0c _) (fun _ _ _=>rfl)⟩;simp only [Rv];grind
  .rcases hz' with hz'|⟨β',hβ',hba,hicap⟩
   .omega
   rw [hβ] at hβ';cases hβ';have hsum:(i'+n)*ti.el+n2*ti.el=(i'+n+n2)*ti.el:=by rw [<-Nat.add_mul]
   obtain ⟨w',p1,p2,p3,p4,p5,p6,p7,p8⟩:=i0i (P:=P) hB (p:=(i'+n)*ti.el) (ms:=cs.toList) k3 (by
    simp only [r1W,k2,hes,hsum];exact r1X _ (by omega))
   have hadd:(β.addr i' 0).add (n*ti.el)=⟨β.blk,β.off+(i'+n)*ti.el,none⟩:=by
    rw [d0E];unfold Base.addr;rw [hes,Nat.add_mul];congr 1;omega
   have hst:t0F P w w' (n*ti.el) cs base:=by
    rw [hba];simp only [t0F];rw [hadd];exact p1
   have hrun:=c0N (P:=P) (ty:=o.type) hd hd2 hk2 hszr (base:=base) (x:=a.eval y) hsrc.len (k1 w rfl) hfit hst;rw [<-hxe] at hrun;have ea:∀x j,β.addr x j=⟨β.blk,β.off+(x*ti.el+j),none⟩:=by
    intro x j;unfold Base.addr;rw [hes];congr 1;omega
   have nin:∀x j,j<ti.el->x<m->¬((i'+n)*ti.el<=x*ti.el+j/\x*ti.el+j<(i'+n)*ti.el+cs.toList.length):=by
    intro x j hj h1;have:=e0g (show x<i'+n by omega) hj;omega
   have same:∀x j,j<ti.el->x<m->w'.cell? (β.addr x j)=w.cell? (β.addr x j):=by
    intro x j hj hx;rw [ea,p8,if_neg (nin x j hj hx)]
   refine ⟨_,w',g.add nx ⟨β.blk,β.off+i'*ti.el,ti.el,c⟩,.inl (hexec hrun),c0K (h1:=hd') (q1:=q) (b1:= .cols m l) (β1:=β) hH (hle' _) (born _) ?_ ent (hle' _ _ _ _ hβ) ?_ org p3 p4 p5 (by omega) (fun k _ hk=>p6 k (fun e=>hk ⟨by omega,e⟩))⟩
   .simp only [Rv];refine ⟨base,c,rfl,hfit,.inr ⟨_,y0r _,?_,by simp⟩⟩;rw [hba];simp only [Base.addr];congr 2;rw [hes];omega
   .refine ⟨fun hc=>by rw [p2];exact hB.lt hc,hB.es,hB.len,hB.cap,?_,?_,?_,trivial⟩
    .intro x j sv hx hj;have hx':x<m:=hx;have hj':j<ti.el:=by
      simp only [Blk.at] at hj;split at hj
      .rename_i e' he';have:=c0j he';omega
      .cases hj
     obtain ⟨u,u1,u2⟩:=hB.cell x j sv hx hj;exact ⟨u,by rw [same x j hj' hx'];exact u1,Rv.mono (hle' _) _ _ u2⟩
    .intro x j v hx hj hv;have hx':x<m:=hx;rw [same x j (by rw [<-hes];exact hj) hx'] at hv;exact hB.one x j v hx hj hv
    .intro _ x j hx hj;obtain ⟨f1,u,f2⟩:=hB.rw rfl x j hx hj;rw [ea] at f1 f2⊢;refine ⟨by rw [p7];exact f1,?_⟩;rw [p8];split
     .rename_i hr;exact ⟨_,m0b (by omega)⟩
     .exact ⟨u,f2⟩
theorem a1G (hT:b0t P T) (hg:g.glob) (he:c0c g vs a) (hH:Holds g vs.heap w) (hn:b=1->∀q,g nx q=none) {o:Oper} {ty ty2:TypeId} {x y:Operand} {s v:SV} {ti ti2:TI} (ho:o.op= .call ⟨.builtin .append,#[x,y],#[ty,ty2]⟩) (hx:gv vs x=some s) (hy:gv vs y=some v) (hti:a0M T ty=some ti) (hti2:a0M T ty2=some ti2)
  (hc:(Nat.beq ti.kind 6&&d0B ti.ez&&Nat.beq ti.ez.length ti.el&& !Nat.beq ti.el 0&&(Nat.beq ti2.kind 6||Nat.beq ti2.kind 3))=true) (h:(p0w vs nx ti s v).is r U b t):b0I P a o w g vs.heap nx r U b:=by
 simp only [n0M,n1s,s1G] at hc;obtain ⟨⟨⟨⟨c1,c2⟩,c3⟩,c4⟩,c5⟩:=hc;obtain ⟨e,i,z,hd,hi,hz,hsz,hby,hzs,hrz,_⟩:=i0j (hT _ _ hti) c1 (.inr trivial) c3 c4;have hk2:∃d2,P.underlying ty2=some d2/\((∃e2,d2= .slice e2)\/d2= .string):=by
  rcases c5 with c5|c5
  .obtain ⟨d,h1,h2⟩:=c0L (hT _ _ hti2) c5;exact ⟨d,h1,.inl (by cases d<;>first|exact ⟨_,rfl⟩|(exact absurd h2 (by simp [b0f])))⟩
  .obtain ⟨d,h1,h2⟩:=c0L (hT _ _ hti2) c5;exact ⟨d,h1,.inr (by cases d<;>first|rfl|(exact absurd h2 (by simp [b0f])))⟩
 obtain ⟨d2,hd2,hk2⟩:=hk2;have hel:0<ti.el:=by rcases m1S ti.el with e|e;rw [e] at c4;simp at c4;exact e
 have hszr:∀w,(sizeOf e).run P w= .ok ti.el w:=fun w=>by simp [sizeOf,typeInfo,hi,hsz]
 have hxv:=a0F hg he hx;have hexec:∀{v':Value} {w':World},(Builtin.append_ #[ty,ty2] o.type #[a.eval x,a.eval y]).run P w= .ok v' w'->(execOp a.eval o).run P w= .ok (.value v') w':=by
  intro v' w' hr;simp [execOp,ho,resolve,invoke,builtin,hr]
 have fin:(∀q,g nx q=none)->∀(base:Option Addr) (n c n2:Nat) (L l2 R:List BCol) (old:Array Value) (D:a0k),a.eval x= .slice base n c->n<=c->SrcOk P g w ti.el (a.eval y) n2 l2->
   (∀w1:World,w1.heap=w.heap->(Builtin.firstCells ti.el n (.slice base n c)).run P w1= .ok old w1)->old.size=n*ti.el->(∀u∈old.toList,u.oneCell'=true)->L.length=ti.el->(∀c∈L,c.len=n)->(∀i j c,i<n->nth L j=some c->∃u,old[i*ti.el+j]? =some u/\Rv g (c.at i) u)->
   e0t L l2=some R->(n+n2+500)*(ti.eb+1)<=70368744177664->(∀h q ro b,Ent (D++vs.heap) h q ro b->Ent vs.heap h q ro b)->
   (0<c->n+n2<=c->∃hd q b0 β i,Ent vs.heap hd q false b0/\g hd q=some β/\base=some (β.addr i 0)/\i+c<=β.cap/\β.es=ti.el/\(∀x j cc,x<n->nth L j=some cc->∃u,w.cell? (β.addr (i+x) j)=some u/\Rv g (cc.at x) u/\u.oneCell'=true)/\∀h' q' ro' b',Ent (D++vs.heap) h' q' ro' b'->¬(h'=hd/\q'=q))->
   b0I P a o w g vs.heap nx (.sl nx 0 0 (n+n2)) ((nx,some (.one false (.cols (n+n2) R)))::D) 1:=by
  intro hn base n c n2 L l2 R old D hxe hnc hsrc hold hosz hoone hL hLl hLc hcat hbd hD hin;obtain ⟨q1,q2,q3⟩:=o0m L l2 R hcat;obtain ⟨cs,k1,k2,k3,k4⟩:=hsrc.first n2 (m0c _)
  have hRl:R.length=ti.el:=by rw [q1,hL]
  have hRlen:∀c∈R,c.len=n+n2:=by
   intro e' he';obtain ⟨j,hj⟩:=c0Y he';obtain ⟨c',d',h1,h2,h3⟩:=q3 j e' hj;rw [(r0A h3).1,hLl c' (b0y h1),hsrc.lens d' (b0y h2)]
  have atR:∀j e' x,nth R j=some e'->x<n+n2->(x<n/\∃c',nth L j=some c'/\e'.at x=c'.at x)\/(n<=x/\∃d',nth l2 j=some d'/\e'.at x=d'.at (x-n)):=by
   intro j e' x hj hx;obtain ⟨c',d',h1,h2,h3⟩:=q3 j e' hj;obtain ⟨m1,m2,m3⟩:=r0A h3;have hcl:=hLl c' (b0y h1);rcases i1B x n with hxn|hxn
   .exact .inl ⟨hxn,c',h1,m2 x (by omega)⟩
   .refine .inr ⟨hxn,d',h2,?_⟩;have:=m3 (x-n);rw [hcl,show n+(x-n)=x from by omega] at this;exact this
  have ent:∀h q ro b,Ent ((nx,some (.one false (.cols (n+n2) R)))::D++vs.heap) h q ro b->(h=nx/\q=0/\ro=false/\b= .cols (n+n2) R)\/(¬(h=nx/\q=0)/\Ent vs.heap h q ro b):=by
   intro h q ro b he';rw [k1p] at he';rcases a0v.1 he' with ⟨e,hb,e1,e2,e3⟩|⟨e,he'⟩
   .cases e1;simp only [HB.is] at e2;exact .inl ⟨e.symm,e2.1,e3.symm,e2.2⟩
   .exact .inr ⟨fun x=>e x.1.symm,hD h q ro b he'⟩
  have born:∀β1:Base,∀h q,g h q=none->¬(nx<=h/\h<nx+1)->(g.add nx β1) h q=none:=by
   intro β1 h q hh hnn;unfold G.add;split
   .rename_i e;exact absurd ⟨Nat.le_of_eq e.1.symm,by omega⟩ hnn
   .exact hh
  have y0r:∀β1:Base,(g.add nx β1) nx 0=some β1:=fun β1=>by simp [G.add]
  rcases i1B c (n+n2) with hgrow|hfit
  .
   obtain ⟨hb1,hb2⟩:=r0z hgrow hbd;obtain ⟨cap,w',hcap,hrun,hheap,hos,htp,hout⟩:=f0D (P:=P) (w:=w) (ty:=o.type) hd hd2 hk2 hi hsz hz (base:=base) (x:=a.eval y) hsrc.len k1 hold hgrow hb2 (by rw [hby];exact hb1);rw [<-hxe] at hrun;have hzc:(Builtin.zeroCells z.cells (cap-(n+n2))).size=(cap-(n+n2))*ti.el:=by simp [Builtin.zeroCells,hzs]
   have hall:∀x,x<n*ti.el->(old++cs++Builtin.zeroCells z.cells (cap-(n+n2)))[x]? =old[x]?:=by
    intro x hx;rw [s1i (by simp only [t1y];omega),s1i (by omega)]
   have hall2:∀x,x<n2*ti.el->(old++cs++Builtin.zeroCells z.cells (cap-(n+n2)))[n*ti.el+x]? =cs[x]?:=by
    intro x hx;rw [s1i (by simp only [t1y];omega),Array.getElem?_append_right (by omega)];congr 1;omega
   have hB:=a1A (g:=g) (nx:=nx) (bl:= .cols (n+n2) R) (cap:=cap) hheap (.inl rfl) (hn 0) hRlen (by
     intro u hu;simp only [s1R,k1q] at hu;rcases hu with (hu|hu)|hu
     .exact hoone u hu
     .exact k3 u hu
     .simp only [Builtin.zeroCells,Array.toList_map,r1U] at hu;obtain ⟨x,hx,rfl⟩:=hu;have hm:x%z.cells.size<z.cells.size:=t1J _ (by omega);rw [getElem!_pos z.cells _ hm];exact c0M _ _ c2 (hrz g) _ (by simp)) (by
     simp only [Blk.es,hRl,t1y,hosz,k2,hzc,<-Nat.add_mul];exact r1X _ (by omega)) (fun x hx=>by simp only [Blk.has] at hx;omega) (by
     intro x j sv hx hj;simp only [Blk.has] at hx;simp only [Blk.at] at hj;split at hj
     .rename_i e' he';simp only [injEq] at hj;subst hj;have hjl:=c0j he';rw [hRl] at hjl;simp only [Blk.es,hRl];rcases atR j e' x he' hx with ⟨hxn,c',h1,h2⟩|⟨hxn,d',h1,h2⟩
      .obtain ⟨u,u1,u2⟩:=hLc x j c' hxn h1;rw [hall _ (e0g hxn hjl),h2];exact ⟨u,u1,u2⟩
      .obtain ⟨u,u1,u2⟩:=k4 (x-n) j d' (by omega) h1;refine ⟨u,?_,by rw [h2];exact u2⟩;have:=hall2 ((x-n)*ti.el+j) (e0g (by omega) hjl);rw [<-u1,<-this];congr 1;have:x*ti.el=n*ti.el+(x-n)*ti.el:=by rw [<-Nat.add_mul];congr 1;omega
       omega
     .cases hj)
   refine ⟨_,w',_,.inl (hexec hrun),c0K (h1:=nx) (q1:=0) (b1:= .cols (n+n2) R) hH (G.le_add _ (hn 0)) (born _) (r0r hcap) ent (y0r _) hB (fun _=> .inl (m0c _)) hos htp hout (by rw [hheap];simp) ?_⟩;intro k hk _;rw [hheap,t1N hk];exact (f1P hk).symm
  .rcases m1S c with hc0|hc0
   .
    have hcs0:cs= #[]:=s1l (by rw [k2,show n2=0 from by omega];simp);have hst:t0F P w w (n*ti.el) cs base:=by
     cases base with
     |none=>rfl
     |some ad=>simp [t0F,hcs0,storeCells]
    have hrun:=c0N (P:=P) (ty:=o.type) hd hd2 hk2 hszr (base:=base) (x:=a.eval y) hsrc.len (k1 w rfl) hfit hst;rw [<-hxe] at hrun;have hz0:n+n2=0:=by omega
    refine ⟨_,w,g.add nx ⟨0,0,ti.el,0⟩,.inl (hexec hrun),c0K (h1:=nx) (q1:=0) (b1:= .cols (n+n2) R) (β1:=⟨0,0,ti.el,0⟩) hH (G.le_add _ (hn 0)) (born _) ?_ ent (y0r _) ?_ (fun hc=>by simp at hc) rfl rfl rfl (m0c _) (fun _ _ _=>rfl)⟩
    .simp only [Rv];exact ⟨base,c,rfl,hfit,.inl hc0⟩
    .refine ⟨fun hc=>by simp at hc,by simp [Blk.es,hRl],hRlen,fun x hx=>by simp only [Blk.has] at hx;omega,?_,?_,?_,trivial⟩
     .intro x j sv hx;simp only [Blk.has] at hx;omega
     .intro x j v hx;simp only [Blk.has] at hx;omega
     .intro _ x j hx;simp at hx
   .
    obtain ⟨hd',q,b0,β,i',hent,hβ,hbase,hicap,hes,hLw,hnot⟩:=hin hc0 hfit;obtain ⟨β',hβ',hB⟩:=hH.blk _ _ _ _ hent;rw [hβ] at hβ';cases hβ';have hsum:(i'+n)*ti.el+n2*ti.el=(i'+n+n2)*ti.el:=by rw [<-Nat.add_mul]
    obtain ⟨w',p1,p2,p3,p4,p5,p6,p7,p8⟩:=i0i (P:=P) hB (p:=(i'+n)*ti.el) (ms:=cs.toList) k3 (by
     simp only [r1W,k2,hes,hsum];exact r1X _ (by omega))
    have hadd:(β.addr i' 0).add (n*ti.el)=⟨β.blk,β.off+(i'+n)*ti.el,none⟩:=by
     rw [d0E];unfold Base.addr;rw [hes,Nat.add_mul];congr 1;omega
    have hst:t0F P w w' (n*ti.el) cs base:=by
     rw [hbase];simp only [t0F];rw [hadd];exact p1
    have hrun:=c0N (P:=P) (ty:=o.type) hd hd2 hk2 hszr (base:=base) (x:=a.eval y) hsrc.len (k1 w rfl) hfit hst;rw [<-hxe] at hrun;let β1:Base:=⟨β.blk,β.off+i'*ti.el,ti.el,c⟩
    have ea:∀x j,β1.addr x j=⟨β.blk,β.off+((i'+x)*ti.el+j),none⟩:=by
     intro x j;simp only [β1,Base.addr];congr 1;rw [Nat.add_mul];omega
    have eb:∀x j,β.addr (i'+x) j=⟨β.blk,β.off+((i'+x)*ti.el+j),none⟩:=by
     intro x j;unfold Base.addr;rw [hes];congr 1;omega
    have inr:∀x j,j<ti.el->n<=x->x<n+n2->((i'+n)*ti.el<=(i'+x)*ti.el+j/\(i'+x)*ti.el+j<(i'+n)*ti.el+cs.toList.length/\(i'+x)*ti.el+j-(i'+n)*ti.el=(x-n)*ti.el+j):=by
     intro x j hj h1 h2;have e1:(i'+x)*ti.el=(i'+n)*ti.el+(x-n)*ti.el:=by rw [<-Nat.add_mul];congr 1;omega
     have e2:=e0g (show x-n<n2 by omega) hj;simp only [r1W,k2];omega
    have nin:∀x j,j<ti.el->x<n->¬((i'+n)*ti.el<=(i'+x)*ti.el+j/\(i'+x)*ti.el+j<(i'+n)*ti.el+cs.toList.length):=by
     intro x j hj h1;have:=e0g (show i'+x<i'+n by omega) hj;omega
    have cellN:∀x j e',x<n+n2->nth R j=some e'->∃u,w'.cell? (β1.addr x j)=some u/\Rv g (e'.at x) u/\u.oneCell'=true:=by
     intro x j e' hx he';have hjl:=c0j he';rw [hRl] at hjl;rw [ea,p8];rcases atR j e' x he' hx with ⟨hxn,c',h1,h2⟩|⟨hxn,d',h1,h2⟩
     .rw [if_neg (nin x j hjl hxn),<-eb,h2];exact hLw x j c' hxn h1
     .obtain ⟨r1,r2,r3⟩:=inr x j hjl hxn hx;obtain ⟨u,u1,u2⟩:=k4 (x-n) j d' (by omega) h1;rw [if_pos ⟨r1,r2⟩,r3,h2];have u1':cs.toList[(x-n)*ti.el+j]? =some u:=by simpa using u1
      exact ⟨u,u1',u2,k3 u (s1d u1')⟩
    refine ⟨_,w',g.add nx β1,.inl (hexec hrun),c0K (h1:=nx) (q1:=0) (b1:= .cols (n+n2) R) (β1:=β1) hH (G.le_add _ (hn 0)) (born _) ?_ ent (y0r _) ?_ (fun _=> .inr ⟨hd',q,b0,β,hent,hβ,by omega,rfl,?_⟩) p3 p4 p5 (by omega) (fun k _ hk=>p6 k (fun e=>hk ⟨hc0,e⟩))⟩
    .simp only [Rv];refine ⟨base,c,rfl,hfit,.inr ⟨β1,y0r _,?_,by simp [β1]⟩⟩;rw [hbase];simp only [β1,Base.addr];congr 2;rw [hes];omega
    .refine ⟨fun _=>by rw [p2];exact hB.lt (by omega),by simp [β1,Blk.es,hRl],hRlen,fun x hx=>by simp only [Blk.has] at hx;simp only [β1];omega,?_,?_,?_,trivial⟩
     .intro x j sv hx hj;simp only [Blk.has] at hx;simp only [Blk.at] at hj;split at hj
      .rename_i e' he';simp only [injEq] at hj;subst hj;obtain ⟨u,u1,u2,_⟩:=cellN x j e' hx he';exact ⟨u,u1,Rv.mono (G.le_add _ (hn 0)) _ _ u2⟩
      .cases hj
     .intro x j v hx hj hv;simp only [Blk.has] at hx;have hj':j<R.length:=by rw [hRl];exact hj
      obtain ⟨u,u1,_,u3⟩:=cellN x j R[j] hx (by rw [b0l];exact m0b hj');rw [hv] at u1;cases u1;exact u3
     .intro _ x j hx hj;have hx':i'+x<β.cap:=by simp only [β1] at hx;omega
      obtain ⟨f1,u,f2⟩:=hB.rw rfl (i'+x) j hx' (by rw [hes];exact hj);rw [eb] at f1 f2;rw [ea];refine ⟨by rw [p7];exact f1,?_⟩;rw [p8];split
      .rename_i hr;exact ⟨_,m0b (by omega)⟩
      .exact ⟨u,f2⟩
    .intro h' q' ro' b' he' hne;rw [k1p] at he';rcases a0v.1 he' with ⟨e,hb,e1,e2,e3⟩|⟨e,he'⟩
     .cases e1;simp only [HB.is] at e2;exact absurd ⟨e.symm,e2.1⟩ hne
     .exact hnot h' q' ro' b' he'
 have hc3:=q0d c3;obtain ⟨z1,z2,z3⟩:=g0G 0 ti.ez;have empty:∀ad,a.eval x= .slice ad 0 0->(k0A vs ti v (fun n2 l2 t=> .when ((n2+500)*(ti.eb+1)<=70368744177664) (.sl nx 0 0 n2) [(nx,some (.one false (.cols n2 l2)))] 1 t)).is r U b t->b0I P a o w g vs.heap nx r U b:=by
  intro ad hxe h;obtain ⟨n2,l2,tt,h,hsrc⟩:=p0G hg he hH hy (hT _ _ hti) c1 c3 c4 h;obtain ⟨hb,rfl,rfl,rfl,_⟩:=h;have:=fin (hn rfl) ad 0 0 n2 (t0E 0 0 l2) l2 l2 #[] [] hxe (m0c _) hsrc (fun w1 _=>by cases ad<;>simp [Builtin.firstCells,loadCells,loadCellsFrom]) (by simp) (by simp) (by rw [(j0y 0 0 l2).1];exact hsrc.cols) ?_ (fun i j c hi=>by omega) ?_ (by simpa using hb) (fun _ _ _ _ h=>h) (fun hc=>by omega)
  .simpa using this
  .intro c hc;obtain ⟨j,hj⟩:=c0Y hc;rw [(j0y 0 0 l2).2 j] at hj;cases hc':nth l2 j with
   |none=>rw [hc'] at hj;cases hj
   |some y=>rw [hc'] at hj;cases hj;exact BCol.seg_len y 0 0 _ rfl (b1f _)
  .exact r0B l2
 unfold p0w at h;split at h
 .rename_i hd' q i' n;replace h:=a0J h;obtain ⟨ro,bl,hent,h⟩:=h;split at h
  .rename_i m l;replace h:=a0p h;obtain ⟨hle,h⟩:=h;have hle':=q0d hle;obtain ⟨n2,l2,tt,h,hsrc⟩:=p0G hg he hH hy (hT _ _ hti) c1 c3 c4 h;split at h
   .rename_i R hR;obtain ⟨⟨hm,hb⟩,rfl,rfl,rfl,_⟩:=h;obtain ⟨base,c,hxe,hnc,hz'⟩:=rsv hxv;have hso:=i0l (P:=P) hH hent hxv (by omega) ti.el hle';obtain ⟨old,o1,o2,o3,o4⟩:=hso.first n (m0c _)
    obtain ⟨hb',e1,e2,e3⟩:=f1h hent;have hnot:∀h' q' ro' b',Ent (f0K vs.heap hd' q++vs.heap) h' q' ro' b'->¬(h'=hd'/\q'=q)/\Ent vs.heap h' q' ro' b':=by
     intro h' q' ro' b' he';rw [e2] at he';simp only [k1p,s1L] at he';rcases a0v.1 he' with ⟨e,hb2,k1,k2,k3⟩|⟨e,he'⟩
     .obtain ⟨m1,m2⟩:=e3 hb2 k1;obtain ⟨m3,m4⟩:=m2 q' b' k2;subst e;exact ⟨fun x=>m3 x.2,hb',e1,m4,m1.symm.trans k3⟩
     .exact ⟨fun x=>e x.1.symm,he'⟩
    obtain ⟨β,hβ,hB⟩:=hH.blk _ _ _ _ hent;have hes:β.es=ti.el:=hB.es.trans hle';obtain ⟨L,hLd⟩:∃L,L=(bif Nat.beq i' 0 then l else t0E i' n l):=⟨_,rfl⟩;rw [<-hLd] at hR;have hL:L.length=ti.el/\(∀c∈L,c.len=n)/\∀x j cc,x<n->nth L j=some cc->∃y,nth l j=some y/\cc.at x=y.at (i'+x):=by
     cases hi0:Nat.beq i' 0 with
     |true=>
      have e0:=q0d hi0;rw [hi0] at hLd;simp only [cond_true] at hLd;subst hLd;refine ⟨hle',fun c hc=>by rw [hB.len c hc];omega,fun x j cc hx hj=>⟨cc,hj,by rw [e0,i1z]⟩⟩
     |false=>
      rw [hi0] at hLd;simp only [cond_false] at hLd;subst hLd;refine ⟨hso.cols,hso.lens,fun x j cc hx hj=> ?_⟩;rw [(j0y i' n l).2 j] at hj;cases hc':nth l j with
      |none=>rw [hc'] at hj;cases hj
      |some y=>rw [hc'] at hj;cases hj;exact ⟨y,rfl,BCol.seg_at _ _ _ _ hx (by rw [hB.len _ (b0y hc')];omega)⟩
    have o4':∀x j cc,x<n->nth L j=some cc->∃u,old[x*ti.el+j]? =some u/\Rv g (cc.at x) u:=by
     intro x j cc hx hj;obtain ⟨y,h1,h2⟩:=hL.2.2 x j cc hx hj;obtain ⟨u,u1,u2⟩:=o4 x j (y.seg i' n) hx (by rw [(j0y i' n l).2 j,h1];rfl);exact ⟨u,u1,by rw [h2,<-BCol.seg_at _ _ _ _ hx (by rw [hB.len _ (b0y h1)];omega)];exact u2⟩
    refine fin (hn rfl) base n c n2 L l2 R old (f0K vs.heap hd' q) hxe hnc hsrc (by rw [<-hxe];exact o1) o2 o3 hL.1 hL.2.1 o4' hR hb (fun h' q' ro' b' he'=>(hnot h' q' ro' b' he').2) ?_;intro hc0 _;rcases hz' with hz'|⟨β',hβ',hba,hcap⟩
    .omega
    rw [hβ] at hβ';cases hβ';refine ⟨hd',q,_,β,i',hent,hβ,hba,hcap,hes,?_,fun h' q' ro' b' he'=>(hnot h' q' ro' b' he').1⟩;intro x j cc hx hj;obtain ⟨y,h1,h2⟩:=hL.2.2 x j cc hx hj;have hjl:=c0j h1;obtain ⟨u,u1,u2⟩:=hB.cell (i'+x) j (y.at (i'+x)) (by simp only [Blk.has];omega) (by simp [Blk.at,h1]);exact ⟨u,u1,by rw [h2];exact u2,hB.one (i'+x) j u (by simp only [Blk.has];omega) (by rw [hB.es];exact hjl) u1⟩
   .obtain ⟨⟨hm,hb⟩,rfl,rfl,rfl,_⟩:=h;exact t0T hg hH (hn rfl) ho hd hd2 hk2 hi hz hsz hby hel hxv hent hle' hm hsrc hb
  .exact h.elim
 .exact empty none (by simpa only [Rv] using hxv) h
 .obtain ⟨ad,hxe⟩:∃ad,a.eval x= .slice ad 0 0:=by simpa only [Rv] using hxv
  exact empty ad hxe h
 .exact h.elim
end ops
section ops
variable {P:Program} {T:Tab} {g:G} {vs:VS} {a:Act} {w:World} {r:SV} {U:a0k} {b:Nat} {t:List Nat} {H:a0k} {nx:Nat}
theorem o0n {w':World} {v:Value} {h q:Nat} {b b1:Blk} {β:Base} (hH:Holds g H w) (he:Ent H h q false b) (hg:g h q=some β) (hrv:Rv g r v)
  (hB:BlkAt g β false b1 w')
  (os:w'.os=w.os) (tape:w'.tape=w.tape) (out:w'.output=w.output) (size:w.heap.size<=w'.heap.size) (blk:∀k,k<w.heap.size->¬(0<β.cap/\k=β.blk)->w'.heap[k]? =w.heap[k]?):After g H nx w r (b0c H h q b1) 0 g v w':=by
 obtain ⟨hb,e1,e2,e3,e4,e5⟩:=t0K (b':=b1) he;have ent:∀h' q' ro' b',Ent (b0c H h q b1++H) h' q' ro' b'->(h'=h/\q'=q/\ro'=false/\b'=b1)\/(¬(h'=h/\q'=q)/\Ent H h' q' ro' b'):=by
  intro h' q' ro' b' hx;rw [e2] at hx;simp only [k1p] at hx;rcases a0v.1 hx with ⟨e,hb',k1,k2,k3⟩|⟨e,hx⟩
  .cases k1;subst e;rcases (e5 q' b').1 k2 with ⟨rfl,rfl⟩|⟨hne,hi⟩
   .simp_all
   .exact .inr ⟨fun x=>hne x.2,hb,e1,hi,e3.trans (e4.symm.trans k3)⟩
  grind
 exact c0K (h1:=h) (q1:=q) (b1:=b1) (β1:=β) hH (G.le.refl g) (fun _ _ h _=>h) hrv ent hg hB (fun hc=> .inr ⟨h,q,b,β,he,hg,hc,rfl,fun _ _ _ _ _ hn=>hn⟩) os tape out size blk
theorem c0k {α:Type} (i k:Nat) (l m:List α) (x:Nat) (d:α) (h1:i+k<=l.length) (h2:k<=m.length):(f0A i k l m).length=l.length/\(f0A i k l m).getD x d=if i<=x/\x<i+k then m.getD (x-i) d else l.getD x d:=by
 have e1:(l.take i).length=i:=by grind
 refine ⟨by simp [f0A];omega,?_⟩;simp only [f0A];grind
theorem f1n {i k:Nat} {c d e:BCol} (h:e1Z i k c d=some e) (h1:i+k<=c.len) (h2:k<=d.len):e.len=c.len/\∀x,e.at x=if i<=x/\x<i+k then d.at (x-i) else c.at x:=by
 unfold e1Z at h;split at h
 .rename_i kk l p m;cases hp:f0J p kk with
  |false=>simp_all
  |true=>
   rw [hp] at h;have:=c0t hp;subst this;simp only [cond_true,injEq] at h;subst h;refine ⟨(c0k i k l m 0 0 h1 h2).1,fun x=> ?_⟩;simp only [BCol.at,Col.at];rw [(c0k i k l m x 0 h1 h2).2];split<;>rfl
 .rename_i l m;simp only [injEq] at h;subst h;refine ⟨(c0k i k l m 0 ⟨#[]⟩ h1 h2).1,fun x=> ?_⟩;simp only [BCol.at,Col.at];rw [(c0k i k l m x ⟨#[]⟩ h1 h2).2];split<;>rfl
 .rename_i l m;simp only [injEq] at h;subst h;refine ⟨(c0k i k l m 0 false h1 h2).1,fun x=> ?_⟩;simp only [BCol.at,Col.at];rw [(c0k i k l m x false h1 h2).2];split<;>rfl
 .rename_i l m;simp only [injEq] at h;subst h;refine ⟨(c0k i k l m 0 .unk h1 h2).1,fun x=> ?_⟩;simp only [BCol.at];rw [(c0k i k l m x .unk h1 h2).2]
 grind
theorem r0C {i k:Nat}:∀(l m r:List BCol),l0j i k l m=some r->r.length=l.length/\∀j e,nth r j=some e->∃c d,nth l j=some c/\nth m j=some d/\e1Z i k c d=some e
 | [],[],r,h=>by simp_all [l0j,nth]
 | [],_::_,r,h=>by trivial
 |_::_,[],r,h=>by trivial
 |c::l,d::m,r,h=>by
  simp only [l0j] at h;split at h
  .rename_i e r' he hr;simp only [injEq] at h;subst h;obtain ⟨h1,h3⟩:=r0C l m r' hr;refine ⟨by grind,?_⟩;intro j e' hj;cases j with
   |zero=>simp only [nth,injEq] at hj;subst hj;exact ⟨c,d,rfl,rfl,he⟩
   |succ j=>simp_all [nth]
  grind
theorem j1Q (hT:b0t P T) (hg:g.glob) (he:c0c g vs a) (hH:Holds g vs.heap w) {o:Oper} {ty:TypeId} {ts:List TypeId} {tt:Array TypeId} (htt:tt.toList=ty::ts) {x y:Operand} {s v:SV} {ti:TI} (ho:o.op= .call ⟨.builtin .copy,#[x,y],tt⟩) (hx:gv vs x=some s) (hy:gv vs y=some v) (hti:a0M T ty=some ti)
  (hc:(Nat.beq ti.kind 6&&Nat.beq ti.ez.length ti.el&& !Nat.beq ti.el 0)=true) (h:(f1a vs ti s v).is r U b t):b0I P a o w g vs.heap nx r U b:=by
 simp only [n0M,n1s] at hc;obtain ⟨⟨c1,c3⟩,c4⟩:=hc;obtain ⟨e,i,z,hd,hi,hz,hsz,hby,hzs,hrz,_⟩:=i0j (hT _ _ hti) c1 (.inr trivial) c3 c4;have hszr:∀w,(sizeOf e).run P w= .ok ti.el w:=fun w=>by simp [sizeOf,typeInfo,hi,hsz]
 have hxv:=a0F hg he hx;have htt0:tt[0]? =some ty:=by rw [<-s1H,htt];rfl
 unfold f1a at h;split at h
 .rename_i hd' q i' n;replace h:=a0J h;obtain ⟨ro,bl,hent,h⟩:=h;split at h
  .rename_i m l;replace h:=a0p h;obtain ⟨hle,h⟩:=h;have hle':=q0d hle;obtain ⟨n2,l2,tt',h,hsrc⟩:=p0G hg he hH hy (hT _ _ hti) c1 c3 c4 h;split at h
   .rename_i R hR;obtain ⟨hm,rfl,rfl,rfl,_⟩:=h;obtain ⟨base,c,hxe,hnc,hz'⟩:=rsv hxv;obtain ⟨β,hβ,hB⟩:=hH.blk _ _ _ _ hent;have hes:β.es=ti.el:=hB.es.trans hle';have hk:min n2 n<=n2:=Nat.min_le_left _ _;have hkn:min n2 n<=n:=Nat.min_le_right _ _;generalize hkk:min n2 n=k at*;obtain ⟨cs,k1,k2,k3,k4⟩:=hsrc.first k hk
    obtain ⟨s1,s2⟩:=r0C l l2 R hR;have hRl:R.length=ti.el:=by rw [s1,hle']
    have colR:∀j e',nth R j=some e'->∃c' d',nth l j=some c'/\nth l2 j=some d'/\e'.len=m/\∀x,e'.at x=if i'<=x/\x<i'+k then d'.at (x-i') else c'.at x:=by
     intro j e' hj;obtain ⟨c',d',h1,h2,h3⟩:=s2 j e' hj;have hl1:=hB.len c' (b0y h1);have hl2:=hsrc.lens d' (b0y h2);obtain ⟨m1,m2⟩:=f1n h3 (by omega) (by omega);exact ⟨c',d',h1,h2,m1.trans hl1,m2⟩
    obtain ⟨w',hst,p2,p3,p4,p5,p6,p7,p8⟩:∃w',t0F P w w' 0 cs base/\w'.heap.size=w.heap.size/\w'.os=w.os/\w'.tape=w.tape/\w'.output=w.output/\(∀kk,¬(0<β.cap/\kk=β.blk)->w'.heap[kk]? =w.heap[kk]?)/\(∀x,w'.frozen? ⟨β.blk,x,none⟩=w.frozen? ⟨β.blk,x,none⟩)/\∀x,w'.cell? ⟨β.blk,β.off+x,none⟩=if i'*β.es<=x/\x<i'*β.es+cs.toList.length then cs.toList[x-i'*β.es]? else w.cell? ⟨β.blk,β.off+x,none⟩:=by
     rcases hz' with hz'|⟨β',hβ',hba,hcap⟩
     .have hk0:k=0:=by omega
      have hcs0:cs= #[]:=s1l (by rw [k2,hk0];simp);refine ⟨w,?_,rfl,rfl,rfl,rfl,fun _ _=>rfl,fun _=>rfl,?_⟩
      .cases base with
       |none=>rfl
       |some ad=>simp [t0F,hcs0,storeCells]
      .intro x;rw [if_neg (by simp only [hcs0,s1M];omega)]
     .rw [hβ] at hβ';cases hβ';obtain ⟨w',p1,p2,p3,p4,p5,p6,p7,p8⟩:=i0i (P:=P) hB (p:=i'*β.es) (ms:=cs.toList) k3 (by
       simp only [r1W,k2,hes,<-Nat.add_mul];exact r1X _ (by omega))
      refine ⟨w',?_,p2,p3,p4,p5,?_,p7,p8⟩
      .rw [hba];simp only [t0F];have:(β.addr i' 0).add 0=⟨β.blk,β.off+i'*β.es,none⟩:=by rw [d0E];unfold Base.addr;simp
       rw [this];exact p1
      .intro kk hkk';by_cases e':kk=β.blk
       .rcases m1S β.cap with hc0|hc0
        .have hcs0:cs= #[]:=s1l (by rw [k2,show k=0 from by omega];simp);rw [hcs0] at p1;simp [storeCells] at p1;rw [p1]
        .exact absurd ⟨hc0,e'⟩ hkk'
       .exact p6 kk e'
    have hrun:(execOp a.eval o).run P w= .ok (.value (.int .i64 (k:Int))) w':=by
     have hmin:Nat.min n2 n=k:=hkk;have h0:(Builtin.copy_ tt o.type #[a.eval x,a.eval y]).run P w= .ok (.int .i64 (k:Int)) w':=by
      rw [hxe];have k1w:=k1 w rfl;cases base with
      |none=>
       simp only [t0F] at hst;subst hst;simp [Builtin.copy_,htt0,run_underlying hd,hsrc.len,hszr,hmin,k1w,goInt]
      |some ad=>
       simp only [t0F] at hst;have:ad.add 0=ad:=by simp [Addr.add]
       rw [this] at hst;simp [Builtin.copy_,htt0,run_underlying hd,hsrc.len,hszr,hmin,k1w,hst,goInt]
     simp [execOp,ho,resolve,invoke,builtin,h0]
    refine ⟨_,w',g,.inl hrun,o0n hH hent hβ rvi ?_ p3 p4 p5 (by omega) (fun kk _ h=>p6 kk h)⟩;have hlen:cs.toList.length=k*ti.el:=by simp [k2]
    refine l0D hB hlen p2 p7 (by rw [<-hlen];exact p8) k3 (fun i hi=> .inl hi) (by simp [Blk.es,hRl,hle']) ?_ (fun i hi=>hB.cap i hi) ?_
    .intro e' he';obtain ⟨j,hj⟩:=c0Y he';obtain ⟨_,_,_,_,h5,_⟩:=colR j e' hj;exact h5
    .intro x j sv hx' hj;simp only [Blk.has] at hx';simp only [Blk.at] at hj;split at hj
     .rename_i e' he';simp only [injEq] at hj;subst hj;have hjl:=c0j he';rw [hRl] at hjl;obtain ⟨c',d',h1,h2,_,h5⟩:=colR j e' he';rw [h5 x,hes];by_cases hin:i'<=x/\x<i'+k
      .rw [if_pos hin];left;have e1:x*ti.el=i'*ti.el+(x-i')*ti.el:=by rw [<-Nat.add_mul];congr 1;omega
       have e2:=e0g (show x-i'<k by omega) hjl;obtain ⟨u,u1,u2⟩:=k4 (x-i') j d' (by omega) h2;refine ⟨by omega,by omega,u,?_,u2⟩;have:cs.toList[(x-i')*ti.el+j]? =some u:=by simpa using u1
       rw [<-this];congr 1;omega
      .rw [if_neg hin];right;refine ⟨?_,hx',by simp [Blk.at,h1]⟩;rcases i1B x i' with h|h
       .have:=e0g h hjl;omega
       .have h6:i'+k<=x:=by omega
        have h7:=r1X ti.el h6;rw [Nat.add_mul] at h7;omega
     .cases hj
   .exact h.elim
  .exact h.elim
 .exact h.elim
theorem n1g {i x:Nat} (hx:x<i):∀c:BCol,(c.cut i).at x=c.at x
 | .sc (.ints k l)=>by grind [BCol.cut,Col.cut,BCol.at,Col.at]
 | .sc (.strs l)=>by grind [BCol.cut,Col.cut,BCol.at,Col.at]
 | .sc (.bools l)=>by grind [BCol.cut,Col.cut,BCol.at,Col.at]
 | .svs l=>by grind [BCol.cut,BCol.at]
 | .own h ns=>by grind [BCol.cut,BCol.at]
 | .arrs n k r=>by grind [BCol.cut,BCol.at]
 | .ptrs h n=>by rfl
theorem j1R {i:Nat}:∀c:BCol,i<=c.len->(c.cut i).len=i
 | .sc (.ints k l),h=>by simp_all [BCol.cut,Col.cut,BCol.len,Col.len]
 | .sc (.strs l),h=>by simp_all [BCol.cut,Col.cut,BCol.len,Col.len]
 | .sc (.bools l),h=>by simp_all [BCol.cut,Col.cut,BCol.len,Col.len]
 | .svs l,h=>by simp_all [BCol.cut,BCol.len]
 | .own x ns,h=>by simp_all [BCol.cut,BCol.len]
 | .arrs n k r,h=>by simp_all [BCol.cut,BCol.len]
 | .ptrs x n,h=>by simp_all [BCol.cut,BCol.len]
theorem l0F (i:Nat):∀(l:List BCol),(f0M i l).length=l.length/\∀j e,nth (f0M i l) j=some e->∃c,nth l j=some c/\e=c.cut i
 | []=>⟨rfl,fun j e h=>by trivial⟩
 |c::l=>by
  obtain ⟨h1,h2⟩:=l0F i l;refine ⟨by simp [f0M,h1],fun j e h=> ?_⟩;cases j with
  |zero=>simp only [f0M,nth,injEq] at h;exact ⟨c,rfl,h.symm⟩
  |succ j=>simp_all [f0M,nth]
theorem r0D (z:Array Value) (n:Nat):(Builtin.zeroCells z n).toList.length=n*z.size/\∀v∈(Builtin.zeroCells z n).toList,v∈z.toList:=by
 refine ⟨by simp [Builtin.zeroCells],fun v hv=> ?_⟩;simp only [Builtin.zeroCells,Array.toList_map,r1U] at hv;obtain ⟨i,hi,rfl⟩:=hv;have hz:0<z.size:=by
  grind
 have hm:=t1J i hz;simp_all
theorem f1o (hT:b0t P T) (hg:g.glob) (he:c0c g vs a) (hH:Holds g vs.heap w) {o:Oper} {ty:TypeId} {ts:List TypeId} {tt:Array TypeId} (htt:tt.toList=ty::ts) {x:Operand} {s:SV} {ti:TI} (ho:o.op= .call ⟨.builtin .clear,#[x],tt⟩) (hx:gv vs x=some s) (hti:a0M T ty=some ti)
  (hc:(Nat.beq ti.kind 6&&d0B ti.ez&&Nat.beq ti.ez.length ti.el&& !Nat.beq ti.el 0)=true) (h:(n0Z vs ti s).is r U b t):b0I P a o w g vs.heap nx r U b:=by
 simp only [n0M,n1s] at hc;obtain ⟨⟨⟨c1,c2⟩,c3⟩,c4⟩:=hc;obtain ⟨e,i,z,hd,hi,hz,hsz,hby,hzs,hrz,_⟩:=i0j (hT _ _ hti) c1 (.inr trivial) c3 c4;have hzr:∀w,(zeroValue e).run P w= .ok z w:=fun w=>by simp [zeroValue,typeInfo,hi,hz]
 have hxv:=a0F hg he hx;have htt0:tt[0]? =some ty:=by rw [<-s1H,htt];rfl
 have hone:=c0M _ _ c2 (hrz g);unfold n0Z at h;split at h
 .rename_i hd' q i' n;replace h:=a0J h;obtain ⟨ro,bl,hent,h⟩:=h;split at h
  .rename_i m l;replace h:=a0p h;obtain ⟨hle,h⟩:=h;have hle':=q0d hle;obtain ⟨hm,rfl,rfl,rfl,_⟩:=h;obtain ⟨base,c,hxe,hnc,hz'⟩:=rsv hxv;obtain ⟨β,hβ,hB⟩:=hH.blk _ _ _ _ hent;have hes:β.es=ti.el:=hB.es.trans hle';obtain ⟨zl,zo⟩:=r0D z.cells n;rw [hzs] at zl;have zone:∀v∈(Builtin.zeroCells z.cells n).toList,v.oneCell'=true:=fun v hv=>hone v (zo v hv)
   obtain ⟨ms,hms⟩:∃ms,ms=(Builtin.zeroCells z.cells n).toList:=⟨_,rfl⟩;rw [<-hms] at zl zone;obtain ⟨w',hrun0,p2,p3,p4,p5,p6,p7,p8⟩:∃w',(∀ty',(Builtin.clear_ tt ty' #[a.eval x]).run P w= .ok (.tuple #[]) w')/\w'.heap.size=w.heap.size/\w'.os=w.os/\w'.tape=w.tape/\w'.output=w.output/\(∀kk,¬(0<β.cap/\kk=β.blk)->w'.heap[kk]? =w.heap[kk]?)/\(∀x,w'.frozen? ⟨β.blk,x,none⟩=w.frozen? ⟨β.blk,x,none⟩)/\∀x,w'.cell? ⟨β.blk,β.off+x,none⟩=if i'*β.es<=x/\x<i'*β.es+ms.length then ms[x-i'*β.es]? else w.cell? ⟨β.blk,β.off+x,none⟩:=by
    by_cases hn0:n=0
    .subst hn0;refine ⟨w,fun ty'=> ?_,rfl,rfl,rfl,rfl,fun _ _=>rfl,fun _=>rfl,?_⟩
     .rw [hxe];cases base<;>simp [Builtin.clear_,htt0,run_underlying hd]
     .intro x;rw [if_neg (by omega)]
    .rcases hz' with hz'|⟨β',hβ',hba,hcap⟩
     .exact absurd (by omega) hn0
     .rw [hβ] at hβ';cases hβ';obtain ⟨w',p1,p2,p3,p4,p5,p6,p7,p8⟩:=i0i (P:=P) hB (p:=i'*β.es) (ms:=ms) zone (by
       rw [zl,hes,<-Nat.add_mul];exact r1X _ (by omega))
      refine ⟨w',fun ty'=> ?_,p2,p3,p4,p5,?_,p7,p8⟩
      .rw [hxe,hba];have ead:β.addr i' 0=⟨β.blk,β.off+i'*β.es,none⟩:=by unfold Base.addr;simp
       obtain ⟨n',rfl⟩:∃n',n=n'+1:=⟨n-1,by omega⟩;rw [<-ead,hms] at p1;simp [Builtin.clear_,htt0,run_underlying hd,hzr,p1]
      .intro kk hkk';by_cases e':kk=β.blk
       .rcases m1S β.cap with hc0|hc0
        .exfalso;omega
        .exact absurd ⟨hc0,e'⟩ hkk'
       .exact p6 kk e'
   have hrun:(execOp a.eval o).run P w= .ok (.value (.tuple #[])) w':=by
    simp [execOp,ho,resolve,invoke,builtin,hrun0]
   refine ⟨_,w',g,.inl hrun,o0n hH hent hβ (by simp [Rv,Rvs]) ?_ p3 p4 p5 (by omega) (fun kk _ h=>p6 kk h)⟩;obtain ⟨k1,k2⟩:=l0F i' l;refine l0D hB zl p2 p7 (by rw [<-zl];exact p8) zone (fun i hi=> .inl (by simp only [Blk.has] at hi⊢;omega)) (by simp [Blk.es,k1]) ?_ (fun i hi=>hB.cap i (by simp only [Blk.has] at hi⊢;omega)) ?_
   .intro e' he';obtain ⟨j,hj⟩:=c0Y he';obtain ⟨c',h1,rfl⟩:=k2 j e' hj;have:=hB.len c' (b0y h1);exact j1R c' (by omega)
   .intro x j sv hx' hj;simp only [Blk.has] at hx';simp only [Blk.at] at hj;split at hj
    .rename_i e' he';simp only [injEq] at hj;subst hj;obtain ⟨c',h1,rfl⟩:=k2 j e' he';have hjl:=c0j he';rw [k1,hle'] at hjl;right;have:=e0g hx' hjl;refine ⟨by rw [hes];omega,by simp only [Blk.has];omega,?_⟩;simp only [Blk.at,h1,n1g hx']
    .cases hj
  .exact h.elim
 .exact h.elim
theorem f0S (hg:g.glob) (he:c0c g vs a) {d:Int} {x:Option Operand} {n:Int} (h:b0W vs d x=some n):(x=none/\n=d)\/∃y k,x=some y/\a.eval y= .int k n:=by
 unfold b0W at h;split at h
 .simp_all
 .rename_i y;split at h
  .rename_i k m hy;simp only [injEq] at h;subst h;exact .inr ⟨y,k,rfl,riv (a0F hg he hy)⟩
  grind
theorem d0S {x:Value} {k:IntKind} {n:Int} {y:Nat} {code:BoundsCode} (hx:x= .int k n) (h0:0<=n) (h1:n<=(y:Int)) (w:World):(Instr.sliceBound x y code).run P w= .ok n.toNat w:=by
 simp_all [Instr.sliceBound,asIntOf]
theorem g0H (hg:g.glob) (he:c0c g vs a) {lo hi:Option Operand} {l h:Int} {len cap:Nat} {isSl:Bool} (hl:b0W vs 0 lo=some l) (hh:b0W vs len hi=some h) (h0:0<=l) (h1:l<=h) (h2:h<=(len:Int)) (hc:len<=cap) (w:World):
  (Instr.sliceBounds isSl len cap (lo.map a.eval) (hi.map a.eval) none).run P w= .ok (l.toNat,h.toNat,cap) w:=by
 rcases f0S hg he hl with ⟨rfl,rfl⟩|⟨y,k,rfl,e1⟩<;>rcases f0S hg he hh with ⟨rfl,rfl⟩|⟨y',k',rfl,e2⟩
 .rfl
 .have b2:=fun (code:BoundsCode)=>d0S (P:=P) (code:=code) e2 (y:=cap) (by omega) (by omega) w
  simp [Instr.sliceBounds,b2]
 .have b1:=fun (code:BoundsCode)=>d0S (P:=P) (code:=code) e1 (y:=len) h0 (by omega) w
  simp [Instr.sliceBounds,b1]
 .have b2:=fun (code:BoundsCode)=>d0S (P:=P) (code:=code) e2 (y:=cap) (by omega) (by omega) w
  have b1:=fun (code:BoundsCode)=>d0S (P:=P) (code:=code) e1 (y:=h.toNat) h0 (by omega) w
  simp [Instr.sliceBounds,b1,b2]
theorem o0o (hg:g.glob) (he:c0c g vs a) {lo:Option Operand} {hi mx:Operand} {l h m:Int} {len cap:Nat} {d1 d2:Int} {isSl:Bool} (hl:b0W vs 0 lo=some l) (hh:b0W vs d1 (some hi)=some h) (hm:b0W vs d2 (some mx)=some m) (h0:0<=l) (h1:l<=h) (h2:h<=m) (h3:m<=(cap:Int)) (w:World):
  (Instr.sliceBounds isSl len cap (lo.map a.eval) (some (a.eval hi)) (some (a.eval mx))).run P w= .ok (l.toNat,h.toNat,m.toNat) w:=by
 rcases f0S hg he hm with ⟨e,_⟩|⟨ym,km,e,em⟩
 cases e;rcases f0S hg he hh with ⟨e,_⟩|⟨yh,kh,e,eh⟩
 cases e;have b3:=fun (code:BoundsCode)=>d0S (P:=P) (code:=code) em (y:=cap) (by omega) h3 w
 have b2:=fun (code:BoundsCode)=>d0S (P:=P) (code:=code) eh (y:=m.toNat) (by omega) (by omega) w
 rcases f0S hg he hl with ⟨rfl,rfl⟩|⟨y,k,rfl,e1⟩
 .simp_all [Instr.sliceBounds]
 .have b1:=fun (code:BoundsCode)=>d0S (P:=P) (code:=code) e1 (y:=h.toNat) h0 (by omega) w
  simp_all [Instr.sliceBounds]
theorem d0T {ty:TypeId} {ti:TI} (hti:k0j P ty=some ti) (hk:Nat.beq ti.kind 6=true):∃e,P.underlying ty=some (.slice e)/\ti.el=P.cellsOf e:=by
 unfold k0j at hti;split at hti
 .rename_i i d hi hd;simp only [injEq] at hti;have hkd:b0f d=6:=by rw [<-hti] at hk;simp_all
  obtain ⟨e,rfl⟩:∃e,d= .slice e:=by cases d<;>first|simp_all [b0f]
  grind
 trivial
theorem i0m {ty:TypeId} {ti:TI} (hti:k0j P ty=some ti) (hk:Nat.beq ti.kind 5=true):∃e,P.underlying ty=some (.array ti.len e)/\ti.el=P.cellsOf e/\ti.eag= !p1M P e/\ti.ega=y0h P e:=by
 unfold k0j at hti;split at hti
 .rename_i i d hi hd;simp only [injEq] at hti;have hkd:b0f d=5:=by rw [<-hti] at hk;simp_all
  obtain ⟨n,e,rfl⟩:∃n e,d= .array n e:=by cases d<;>first|simp_all [b0f]
  grind
 trivial
theorem e0h {e:TypeId} (h:P.cellsOf e≠0) (w:World):(sizeOf e).run P w= .ok (P.cellsOf e) w:=by
 unfold Program.cellsOf at h⊢;cases hx:P.info? e with
 |none=>simp_all
 |some x=>simp [sizeOf,typeInfo,hx]
theorem add_zero (ad:Addr):ad.add 0=ad:=by rfl
theorem f1p (hT:b0t P T) (hg:g.glob) (he:c0c g vs a) (hH:Holds g vs.heap w) {o:Oper} {ty:TypeId} {x:Operand} {lo hi mx:Option Operand} {v:SV} {ti:TI} (ho:o.op= .slice ty x lo hi mx) (hx:gv vs x=some v) (hti:a0M T ty=some ti) (h:(v0M vs ti v lo hi mx).is r U b t):b0I P a o w g vs.heap nx r U b:=by
 have hxv:=a0F hg he hx;have hti':=hT _ _ hti;unfold v0M at h;split at h
 .rename_i s;split at h
  .rename_i l hh hk hl hhi;obtain ⟨⟨h0,h1,h2⟩,rfl,rfl,rfl,_⟩:=h;obtain ⟨d,hd,hkd⟩:=c0L hti' hk;have hd':d= .string:=by cases d<;>first|rfl|(exact absurd hkd (by simp [b0f]))
   subst hd';refine b0Q hH rvt (fun o' ho'=> ?_);rw [ho] at ho';have hb:=fun w=>g0H (P:=P) (isSl:=false) hg he hl hhi h0 h1 h2 (m0c _) w
   simp [execOp,ho',Instr.sliceAt,Instr.slice,run_underlying hd,rtv hxv,hb]
  .exact h.elim
 .rename_i hd' q i n;obtain ⟨base,c,hxe,hnc,hz⟩:=rsv hxv;split at h
  .rename_i l hh m my hy hk hl hm hhi;simp only [n0M,n1s] at hk;obtain ⟨e,hd,hel⟩:=d0T hti' hk.1;have he0:P.cellsOf e≠0:=by intro e0;rw [hel,e0] at hk;simp at hk
   have hsz:=e0h he0;have hsz0:∀w,(sizeOf e).run P w= .ok ti.el w:=fun w=>by rw [hel];exact hsz w
   cases hzz:(f0L (some hh)&&f0L (some m)) with
   |true=>
    rw [hzz] at h;simp only [cond_true] at h;obtain ⟨h0,rfl,rfl,rfl,_⟩:=h;simp only [n0M] at hzz;have e1:hh=0:=by unfold f0L at hzz;obtain ⟨z1,_⟩:=hzz;split at z1<;>simp_all
    have e2:m=0:=by unfold f0L at hzz;obtain ⟨_,z1⟩:=hzz;split at z1<;>simp_all
    subst e1;subst e2;subst h0;have hb:=fun w=>o0o (P:=P) (isSl:=true) (len:=n) (cap:=c) hg he hl hhi hm (by omega) (by omega) (by omega) (by omega) w
    refine b0Q hH (v:= .slice base 0 0) (by simp only [Rv];exact ⟨_,rfl⟩) (fun o' ho'=> ?_);rw [ho] at ho';simp [execOp,ho',Instr.sliceAt,Instr.slice,run_underlying hd,hxe,hb,hsz0]
   |false=>
    rw [hzz] at h;simp only [cond_false] at h;replace h:=a0J h;obtain ⟨ro,bl,hent,h⟩:=h;replace h:=a0p h;obtain ⟨hes,h⟩:=h;obtain ⟨⟨h0,h1,h2,h3⟩,rfl,rfl,rfl,_⟩:=h;obtain ⟨β,hβ,hB⟩:=hH.blk _ _ _ _ hent;have hes':β.es=ti.el:=hB.es.trans (q0d hes);have hb:=fun w=>o0o (P:=P) (isSl:=true) (len:=n) (cap:=c) hg he hl hhi hm h0 h1 h2 (by omega) w
    refine b0Q hH (v:= .slice (if m.toNat=l.toNat then base else base.map (·.add (l.toNat*ti.el))) (hh.toNat-l.toNat) (m.toNat-l.toNat)) ?_ (fun o' ho'=> ?_)
    .simp only [Rv];refine ⟨_,_,rfl,by omega,?_⟩;by_cases hml:m.toNat=l.toNat
     .exact .inl (by omega)
     .right;rw [if_neg hml];rcases hz with hz|⟨β',hβ',hba,hcap⟩
      .omega
      .rw [hβ] at hβ';cases hβ';refine ⟨β,hβ,?_,by omega⟩;rw [hba,<-hes'];simp only [k1k];rw [d0P,Nat.add_comm]
    .rw [ho] at ho';simp [execOp,ho',Instr.sliceAt,Instr.slice,run_underlying hd,hxe,hb,hsz0]
  .rename_i l hh hk hl hhi;simp only [n0M,n1s] at hk;obtain ⟨e,hd,hel⟩:=d0T hti' hk.1;have he0:P.cellsOf e≠0:=by intro e0;rw [hel,e0] at hk;simp at hk
   have hsz:=e0h he0;have hsz0:∀w,(sizeOf e).run P w= .ok ti.el w:=fun w=>by rw [hel];exact hsz w
   replace h:=a0J h;obtain ⟨ro,bl,hent,h⟩:=h;replace h:=a0p h;obtain ⟨hes,h⟩:=h;obtain ⟨⟨h0,h1,h2⟩,rfl,rfl,rfl,_⟩:=h;obtain ⟨β,hβ,hB⟩:=hH.blk _ _ _ _ hent;have hes':β.es=ti.el:=hB.es.trans (q0d hes);have hb:=fun w=>g0H (P:=P) (isSl:=true) (len:=n) (cap:=c) hg he hl hhi h0 h1 h2 hnc w
   refine b0Q hH (v:= .slice (if c=l.toNat then base else base.map (·.add (l.toNat*ti.el))) (hh.toNat-l.toNat) (c-l.toNat)) ?_ (fun o' ho'=> ?_)
   .simp only [Rv];refine ⟨_,_,rfl,by omega,?_⟩;by_cases hml:c=l.toNat
    .exact .inl (by omega)
    .right;rw [if_neg hml];rcases hz with hz|⟨β',hβ',hba,hcap⟩
     .omega
     .rw [hβ] at hβ';cases hβ';refine ⟨β,hβ,?_,by omega⟩;rw [hba,<-hes'];simp only [k1k];rw [d0P,Nat.add_comm]
   .rw [ho] at ho';simp [execOp,ho',Instr.sliceAt,Instr.slice,run_underlying hd,hxe,hb,hsz0]
  .exact h.elim
 .split at h
  .rename_i l hh hk hl hhi;simp only [n0M,n1s] at hk;obtain ⟨⟨h0,h1⟩,rfl,rfl,rfl,_⟩:=h;obtain ⟨e,hd,hel⟩:=d0T hti' hk.1;have he0:P.cellsOf e≠0:=by intro e0;rw [hel,e0] at hk;simp at hk
   have hsz:=e0h he0;subst h0;subst h1;have hxe:a.eval x= .slice none 0 0:=by simpa only [Rv] using hxv
   have hb:=fun w=>g0H (P:=P) (isSl:=true) (len:=0) (cap:=0) hg he hl hhi (by omega) (by omega) (by omega) (by omega) w
   refine b0Q hH (v:= .slice none 0 0) (by simp only [Rv]) (fun o' ho'=> ?_);rw [ho] at ho';simp [execOp,ho',Instr.sliceAt,Instr.slice,run_underlying hd,hxe,hb,hsz]
  .exact h.elim
 .rename_i hd' q;split at h
  .rename_i l hh hk hl hhi;simp only [n0M,n1s] at hk;obtain ⟨e,hd,hel,_⟩:=i0m hti' hk.1;have he0:P.cellsOf e≠0:=by intro e0;rw [hel,e0] at hk;simp at hk
   have hsz:=e0h he0;have hsz0:∀w,(sizeOf e).run P w= .ok ti.el w:=fun w=>by rw [hel];exact hsz w
   replace h:=a0J h;obtain ⟨ro,bl,hent,h⟩:=h;split at h
   .rename_i n cs;replace h:=a0p h;obtain ⟨hes,h⟩:=h;simp only [n0M] at hes;have hn:=q0d hes.1;obtain ⟨⟨h0,h1,h2⟩,rfl,rfl,rfl,_⟩:=h;obtain ⟨β,hβ,hB⟩:=hH.blk _ _ _ _ hent;have hes':β.es=ti.el:=hB.es.trans (q0d hes.2);obtain ⟨β',hβ',hpv⟩:=rpv hxv;rw [hβ] at hβ';cases hβ';have hb:=fun w=>g0H (P:=P) (isSl:=false) (len:=ti.len) (cap:=ti.len) hg he hl hhi h0 h1 h2 (m0c _) w
    refine b0Q hH (v:= .slice (some (if ti.len=l.toNat then β.addr 0 0 else (β.addr 0 0).add (l.toNat*ti.el))) (hh.toNat-l.toNat) (ti.len-l.toNat)) ?_ (fun o' ho'=> ?_)
    .simp only [Rv];refine ⟨_,_,rfl,by omega,?_⟩;by_cases hml:ti.len=l.toNat
     .exact .inl (by omega)
     .right;rw [if_neg hml];have hcap:ti.len<=β.cap:=by
       rcases m1S ti.len with h|h
       .omega
       .have:=hB.cap (ti.len-1) (by simp only [Blk.has];omega);omega
      refine ⟨β,hβ,?_,by omega⟩;rw [<-hes',d0P,i1z]
    .rw [ho] at ho';simp [execOp,ho',Instr.sliceAt,Instr.sureAddr,run_underlying hd,hpv,hb,hsz0]
   .exact h.elim
  .exact h.elim
 .exact h.elim
end ops
end Go.Sy
