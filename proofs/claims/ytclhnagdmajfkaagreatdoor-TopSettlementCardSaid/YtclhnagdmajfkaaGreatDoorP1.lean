/- Several texts in one: YDef YVc YS1 YS2 YS3 YS4 YS5 YS6 YS7 YS8 YS9 YS10 YS11. -/
import Derived.WalkKit
import Derived.Below
import Derived.ChangeKeysEq
import Derived.IntWalk
set_option linter.unusedVariables false
set_option linter.unusedSimpArgs false
namespace Go.Sy
abbrev c0k:=@Nat.eq_of_beq_eq_true
abbrev c0q:=@Bool.and_eq_true
abbrev d0L:=@List.getElem?_eq_getElem
abbrev d0M:=@Nat.le_refl
abbrev d0N:=@Result.andThen_ok
abbrev d0k:=@Array.getElem?_eq_getElem
abbrev d0z:=@List.mem_cons
abbrev e0M:=@Sem.run_bind
abbrev f0k:=@List.getElem?_eq_none
abbrev f0l:=@List.getElem?_map
abbrev f0m:=@Nat.lt_or_ge
abbrev g0w:=@Option.map_some
abbrev i0S:=@Sem.run_pure
abbrev i0k:=@List.cons_append
abbrev i0l:=@Array.getElem?_modify
abbrev i0m:=@Nat.eq_zero_or_pos
abbrev i0o:=@Bool.not_eq_true'
abbrev i0p:=@List.mem_singleton
abbrev i0s:=@Nat.zero_add
abbrev j0c:=@Nat.mul_le_mul_right
abbrev k0N:=@List.map_cons
abbrev k0Q:=@List.mem_append
abbrev k0R:=@Nat.zero_le
abbrev k0S:=@Nat.le_of_ble_eq_true
abbrev m0j:=@List.length_cons
abbrev m0k:=@List.length_map
abbrev m0l:=@List.mem_map
abbrev m0m:=@List.getElem?_append_right
abbrev m0z:=@List.length_take
abbrev n0q:=@Array.getElem?_toList
abbrev n0r:=@Nat.add_zero
abbrev o0w:=@Array.length_toList
abbrev o0x:=@List.getElem?_append_left
abbrev o0y:=@Option.getD_some
abbrev p0N:=@List.getElem?_take
abbrev q0f:=@List.mem_range
abbrev r0b:=@Bool.or_eq_true
abbrev r0d:=@List.append_assoc
abbrev r0f:=@Array.getElem?_append_left
abbrev r0k:=@Nat.lt_of_lt_of_le
abbrev s0R:=@Array.eq_empty_of_size_eq_zero
abbrev s0f:=@List.length_nil
abbrev s0h:=@List.mem_of_getElem?
abbrev t0H:=@List.getElem_of_mem
abbrev u0Y:=@Array.toList_append
abbrev u0k:=@Option.isSome_iff_exists
abbrev u0l:=@Bool.false_eq_true
abbrev u0m:=@List.length_append
abbrev v0n:=@Nat.lt_trichotomy
abbrev v0p:=@List.getElem?_range
abbrev w0B:=@Array.getElem?_eq_none
abbrev w0C:=@Array.getElem?_push_lt
abbrev w0z:=@Nat.lt_irrefl
abbrev x0A:=@List.length_drop
abbrev x0C:=@List.length_singleton
abbrev x0D:=@List.getElem?_toArray
abbrev y0L:=@Nat.div_lt_iff_lt_mul
abbrev y0V:=@List.nil_append
abbrev y0W:=@Nat.add_comm
abbrev z0b:=@Bool.true_and
abbrev z0c:=@List.getElem?_cons_succ
abbrev z0e:=@List.all_eq_true
abbrev z0h:=@Option.map_eq_some_iff
abbrev a1k:=@List.getElem?_drop
abbrev b1B:=@Array.size_append
abbrev b1G:=@Nat.mul_one
abbrev b1H:=@Nat.zero_mul
abbrev b1N:=@List.replicate_succ
abbrev b1O:=@Array.getElem?_setIfInBounds_ne
abbrev b1W:=@Nat.mod_lt
abbrev b1X:=@ByteArray.data_extract
abbrev b1Z:=@List.drop_drop
abbrev d1H:=@Nat.mul_comm
abbrev e1A:=@List.length_eq_zero_iff
abbrev e1B:=@List.getElem?_set
abbrev e1F:=@List.ext_getElem
abbrev e1H:=@World.cell?_of_block
abbrev e1I:=@Nat.div_add_mod
abbrev e1M:=@ByteArray.toList_eq
abbrev e1N:=@List.take_succ_cons
end Go.Sy
namespace Go.Sy
open Go.RowKit
structure Base where
 blk:Nat
 off:Nat
 es:Nat
 cap:Nat
abbrev G:=Nat->Nat->Option Base
def Base.addr (β:Base) (i j:Nat):Addr:=⟨β.blk,β.off+i*β.es+j,none⟩
inductive Col where
 |ints (k:IntKind) (l:List Int)
 |strs (l:List ByteArray)
 |bools (l:List Bool)
inductive SV where
 |bool (b:Bool)
 |int (k:IntKind) (n:Int)
 |str (s:ByteArray)
 |ptr (h q i j:Nat)
 |nptr
 |sl (h q i n:Nat)
 |nsl
 |zsl
 |map (h q:Nat)
 |nmap
 |fn (f:Nat) (l:List SV)
 |iface (t:Nat) (v:SV)
 |nif
 |agg (l:List SV)
 |arr (n:Nat) (l:List Col)
 |tup (l:List SV)
 |raw (v:Value)
 |unk
def Col.at:Col->Nat->SV
 | .ints k l,i=> .int k (l.getD i 0)
 | .strs l,i=> .str (l.getD i ⟨#[]⟩)
 | .bools l,i=> .bool (l.getD i false)
def Col.val:Col->Nat->Value
 | .ints k l,i=> .int k (l.getD i 0)
 | .strs l,i=> .string (l.getD i ⟨#[]⟩)
 | .bools l,i=> .bool (l.getD i false)
def f0q:List Col->Nat->List SV
 | [],_=> []
 |c::l,i=>c.at i::f0q l i
def nth {α:Type}:List α->Nat->Option α
 | [],_=>none
 |x::_,0=>some x
 |_::l,n+1=>nth l n
def Col.len:Col->Nat
 | .ints _ l=>l.length
 | .strs l=>l.length
 | .bools l=>l.length
def o0U (n:Nat) (cs:List Col) (vs:Array Value):Prop:=vs.size=n*cs.length/\(∀c∈cs,c.len=n)/\∀i j c,i<n->nth cs j=some c->vs[i*cs.length+j]? =some (c.val i)
def fnV (f:Nat) (vs:Array Value):Value:=bif Nat.blt f 1048576 then .func (.func f) #[] vs else .func (.func (f-1048576)) vs #[]
theorem n0D {f:Nat} {vs:Array Value} (h:Nat.blt f 1048576=true):fnV f vs= .func (.func f) #[] vs:=by unfold fnV;rw [h];rfl
theorem z0i {f:Nat} {vs:Array Value} (h:Nat.blt f 1048576=false):fnV f vs= .func (.func (f-1048576)) vs #[]:=by unfold fnV;rw [h];rfl
mutual
def Rv (g:G):SV->Value->Prop
 | .bool b,v=>v= .bool b
 | .int k n,v=>v= .int k n
 | .str s,v=>v= .string s
 | .ptr h q i j,v=>∃β,g h q=some β/\v= .pointer (some (β.addr i j))
 | .nptr,v=>v= .pointer none
 | .sl h q i n,v=>∃a c,v= .slice a n c/\n<=c/\(c=0\/∃β,g h q=some β/\a=some (β.addr i 0)/\i+c<=β.cap)
 | .nsl,v=>v= .slice none 0 0
 | .zsl,v=>∃a,v= .slice a 0 0
 | .map h q,v=>∃β,g h q=some β/\v= .map (some β.blk)
 | .nmap,v=>v= .map none
 | .fn f l,v=>∃vs,v=fnV f vs/\Rvs g l vs.toList
 | .iface t s,v=>∃u,v= .iface t u/\Rv g s u
 | .nif,v=>v= .nilIface
 | .agg l,v=>∃vs,v= .agg vs/\Rvs g l vs.toList
 | .arr n cs,v=>∃vs,v= .agg vs/\o0U n cs vs
 | .tup l,v=>∃vs,v= .tuple vs/\Rvs g l vs.toList
 | .raw x,v=>v=x
 | .unk,_=>True
def Rvs (g:G):List SV->List Value->Prop
 | [],vs=>vs= []
 |s::ss,vs=>∃v vs',vs=v::vs'/\Rv g s v/\Rvs g ss vs'
end
inductive BCol where
 |sc (c:Col)
 |svs (l:List SV)
 |own (h:Nat) (ns:List Nat)
 |arrs (n:Nat) (k:IntKind) (rows:List (List Int))
 |ptrs (h n:Nat)
def i0D (h:Nat) (ns:List Nat):List SV:=(List.range ns.length).map (fun k=> .sl h k 0 (ns.getD k 0))
def g0c (h n:Nat):List SV:=(List.range n).map (fun k=> .ptr h k 0 0)
def z0j (n:Nat) (k:IntKind) (rows:List (List Int)):List SV:=rows.map (fun V=> .arr n [.ints k V])
def BCol.at:BCol->Nat->SV
 | .sc c,i=>c.at i
 | .svs l,i=>l.getD i .unk
 | .own h ns,i=> .sl h i 0 (ns.getD i 0)
 | .arrs n k rows,i=> .arr n [.ints k (rows.getD i (List.replicate n 0))]
 | .ptrs h _,i=> .ptr h i 0 0
inductive ObjS where
 |map (ka ea:Bool) (n:Nat) (ks:List Col) (vs:List BCol) (bs:List Nat) (ck:Nat)
 |iter (h q:Nat) (bs:List Nat) (ck:Nat) (sn:List Nat)
 |niter
 |siter (s:ByteArray) (pos:Nat)
 |bld0 (T:Nat)
 |bld (T h q n:Nat)
 |brow (T:Nat) (s:ByteArray)
 |bag (Q:List ByteArray->List ByteArray->List Int->Prop)
inductive Blk where
 |cells (l:List SV)
 |cols (n:Nat) (l:List BCol)
 |obj (o:ObjS)
def Blk.es:Blk->Nat
 | .cells l=>l.length
 | .cols _ l=>l.length
 | .obj _=>0
def Blk.has:Blk->Nat->Prop
 | .cells _,i=>i=0
 | .cols n _,i=>i<n
 | .obj _,_=>False
def Blk.at:Blk->Nat->Nat->Option SV
 | .cells l,_,j=>nth l j
 | .cols _ l,i,j=>match nth l j with|some c=>some (c.at i)|none=>none
 | .obj _,_,_=>none
inductive HB where
 |one (ro:Bool) (b:Blk)
 |fam (ro:Bool) (dom:Nat->Prop) (f:Nat->Blk)
def HB.ro:HB->Bool
 | .one r _=>r
 | .fam r _ _=>r
def HB.is:HB->Nat->Blk->Prop
 | .one _ b,q,b'=>q=0/\b'=b
 | .fam _ dom f,q,b'=>dom q/\b'=f q
def HB.set:HB->Nat->Blk->HB
 | .one r _,_,b=> .one r b
 | .fam r dom f,q,b=> .fam r dom (fun x=>if x=q then b else f x)
def HB.drop:HB->Nat->Option HB
 | .one _ _,_=>none
 | .fam r dom f,q=>some (.fam r (fun x=>dom x/\x≠q) f)
abbrev a0g:=List (Nat×Option HB)
abbrev Env:=List (Nat×SV)
def a0B {α:Type}:List (Nat×α)->Nat->Option α
 | [],_=>none
 |(k,v)::r,x=>bif Nat.beq k x then some v else a0B r x
def a0x:a0g->Nat->Option HB
 | [],_=>none
 |(k,v)::r,x=>bif Nat.beq k x then v else a0x r x
structure VS where
 env:Env
 heap:a0g
 next:Nat
def BCol.len:BCol->Nat
 | .sc c=>c.len
 | .svs l=>l.length
 | .own _ ns=>ns.length
 | .arrs _ _ rows=>rows.length
 | .ptrs _ n=>n
def Blk.lenOk:Blk->Prop
 | .cells _=>True
 | .cols n l=>∀c∈l,c.len=n
 | .obj _=>True
theorem s0S (n:Nat) (k:IntKind) (rows:List (List Int)):(z0j n k rows).length=rows.length:=by simp [z0j]
theorem w0b {n:Nat} {k:IntKind} {rows:List (List Int)} {x:Nat} (hx:x<rows.length):(z0j n k rows).getD x .unk= .arr n [.ints k (rows.getD x (List.replicate n 0))]:=by simp [z0j,hx]
theorem b0t (h:Nat) (ns:List Nat):(i0D h ns).length=ns.length:=by simp [i0D]
theorem d0d {h:Nat} {ns:List Nat} {x:Nat} (hx:x<ns.length):(i0D h ns).getD x .unk= .sl h x 0 (ns.getD x 0):=by simp [i0D,hx]
theorem b0j (h n:Nat):(g0c h n).length=n:=by simp [g0c]
theorem d0W {h n x:Nat} (hx:x<n):(g0c h n).getD x .unk= .ptr h x 0 0:=by simp [g0c,hx]
theorem z0k {h:Nat} {ns:List Nat} {x:Nat} (hx:x<ns.length):(BCol.svs (i0D h ns)).at x=(BCol.own h ns).at x:=d0d hx
def b0q:List Col->Nat->List Value
 | [],_=> []
 |c::l,i=>c.val i::b0q l i
def q0e (ka:Bool) (ks:List Col) (i:Nat):Value:=
 match ka,ks with
 |true,ks=> .agg (b0q ks i).toArray
 |false,[c]=>c.val i
 |false,_=>undef
def a0p:List BCol->Nat->List SV
 | [],_=> []
 |c::l,i=>c.at i::a0p l i
def a0T (ea:Bool) (vs:List BCol) (i:Nat):SV:=
 match ea,vs with
 |true,vs=> .agg (a0p vs i)
 |false,[c]=>c.at i
 |false,_=> .unk
structure MapOk (g:G) (ka ea:Bool) (n:Nat) (ks:List Col) (vs:List BCol) (bs:List Nat) (ck:Nat) (es:Array MapEntry):Prop where
 size:es.size=n
 kl:∀c∈ks,c.len=n
 vl:∀c∈vs,c.len=n
 bl:bs.length=n
 nd:bs.Nodup
 lt:∀b∈bs,b<ck
 row:∀i e,es[i]? =some e->e.born=bs.getD i 0/\e.key=q0e ka ks i/\Rv g (a0T ea vs i) e.val
def ObjS.Ok (g:G) (w:World) (β:Base):ObjS->Prop
 | .map ka ea n ks vs bs ck=>∃es,w.heap[β.blk]? =some (.map es ck)/\MapOk g ka ea n ks vs bs ck es
 | .iter h q bs ck sn=>∃β',g h q=some β'/\w.heap[β.blk]? =some (.mapIter (some β'.blk) ck ((sn.reverse.map (fun i=>bs.getD i 0)).toArray) ck)/\(∀i∈sn,i<bs.length)
 | .niter=>∃a b c,w.heap[β.blk]? =some (.mapIter none a b c)
 | .siter s p=>w.heap[β.blk]? =some (.stringIter s p)
 | .bld0 T=>w.heap[β.blk]? =some (.cells #[.pointer none,.slice none 0 0] T (0,0))
 | .bld T h q n=>∃β',g h q=some β'/\w.heap[β.blk]? =some (.cells #[.pointer (some ⟨β.blk,0,none⟩),.slice (some ⟨β'.blk,0,none⟩) n β'.cap] T (0,0))
 | .brow T s=>∃cur fz,w.heap[β.blk]? =some (.cells cur T fz)/\fz.2<=s.size/\cur.size=β.cap/\s.size<=β.cap/\β.cap<=maxLen/\cur.toList.take s.size=s.data.toList.map (fun x=>Value.int .u8 x.toNat)
 | .bag Q=>∃a c v n es,Q a c v/\w.heap[β.blk]? =some (.map es n)/\es.size=n/\a.length=n/\c.length=n/\v.length=n/\∀i e,es[i]? =some e->e.born=i/\e.key=q0e true [.strs a,.strs c] i/\e.val= .int .i64 (v.getD i 0)
def Blk.Ok (g:G) (w:World) (β:Base):Blk->Prop
 | .obj o=>0<β.cap/\β.off=0/\o.Ok g w β
 |_=>True
structure BlkAt (g:G) (β:Base) (ro:Bool) (b:Blk) (w:World):Prop where
 lt:0<β.cap->β.blk<w.heap.size
 es:β.es=b.es
 len:b.lenOk
 cap:∀i,b.has i->i<β.cap
 cell:∀i j sv,b.has i->b.at i j=some sv->∃v,w.cell? (β.addr i j)=some v/\Rv g sv v
 one:∀i j v,b.has i->j<β.es->w.cell? (β.addr i j)=some v->v.oneCell'=true
 rw:ro=false->∀i j,i<β.cap->j<β.es->w.frozen? (β.addr i j)=false/\∃v,w.cell? (β.addr i j)=some v
 obj:b.Ok g w β
def Ent (H:a0g) (h q:Nat) (ro:Bool) (b:Blk):Prop:=∃hb,a0x H h=some hb/\hb.is q b/\hb.ro=ro
structure Holds (g:G) (H:a0g) (w:World):Prop where
 blk:∀h q ro b,Ent H h q ro b->∃β,g h q=some β/\BlkAt g β ro b w
 sep:∀h q h' q' b ro' b' β β',¬(h=h'/\q=q')->Ent H h q false b->Ent H h' q' ro' b'->g h q=some β->g h' q'=some β'->0<β.cap->0<β'.cap->β.blk≠β'.blk
structure Fr (W:Nat->Prop) (w w':World):Prop where
 os:w'.os=w.os
 tape:w'.tape=w.tape
 output:w'.output=w.output
 size:w.heap.size<=w'.heap.size
 block:∀k,k<w.heap.size->¬W k->w'.heap[k]? =w.heap[k]?
def d0o (g:G) (H:a0g):Nat->Prop:=fun k=>∃h q b β,Ent H h q false b/\g h q=some β/\0<β.cap/\β.blk=k
def s0T (g:G) (H:a0g) (W:Nat->Prop) (w0:World):Prop:=∀h q b β,Ent H h q false b->g h q=some β->0<β.cap->W β.blk\/w0.heap.size<=β.blk
def G.le (g g':G):Prop:=∀h q β,g h q=some β->g' h q=some β
def G.upto (g:G) (n:Nat):Prop:=∀h q,n<=h->g h q=none
def G.glob (g:G):Prop:=∀q,∃es cap,g 0 q=some ⟨q,0,es,cap⟩
structure TI where
 size:Nat
 kind:Nat
 zero:List SV
 zc:List Col
 fields:List (Nat×Nat×Bool)
 ik:IntKind
 el:Nat
 len:Nat
 eag:Bool
 ez:List SV
 eb:Nat
 flat:List Nat
 bld:Bool
 u8:Bool
 ega:Bool
def TI.agg (ti:TI):Bool:=Nat.beq ti.kind 4||Nat.beq ti.kind 5
abbrev Tab:=List (Nat×TI)
def cv:Value->SV
 | .bool b=> .bool b
 | .int k n=> .int k n
 | .string s=> .str s
 | .pointer none=> .nptr
 | .slice none 0 0=> .nsl
 | .map none=> .nmap
 | .nilIface=> .nif
 |v=> .raw v
def gv (vs:VS):Operand->Option SV
 | .tmp t=>a0B vs.env t
 | .const v=>some (cv v)
 | .func f=>bif Nat.blt f 1048576 then some (.fn f []) else none
 | .global n=>some (.ptr 0 n 0 0)
def gvs (vs:VS):List Operand->Option (List SV)
 | []=>some []
 |x::r=>match gv vs x with
  |some v=>(match gvs vs r with|some l=>some (v::l)|none=>none)
  |none=>none
def br (b:Bool) (p q:Prop):Prop:=match b with|true=>p|false=>q
theorem e0x {b:Bool} {p q:Prop} (h:b=true->p) (k:b=false->q):br b p q:=by cases b;exact k rfl;exact h rfl
theorem g0d {b:Bool} {p q:Prop} (h:br b p q):(b=true->p)/\(b=false->q):=by cases b;exact ⟨by simp,fun _=>h⟩;exact ⟨fun _=>h,by simp⟩
def d0p:IntKind->IntKind->Bool
 | .i8,.i8| .i16,.i16| .i32,.i32| .i64,.i64| .u8,.u8| .u16,.u16| .u32,.u32| .u64,.u64=>true
 |_,_=>false
def a0h (s:ByteArray) (i:Int):Int:=((s.data.toList.getD i.toNat 0).toNat:Int)
def seq (a b:ByteArray):Bool:=decide (a=b)
inductive Res where
 |no
 |ok (r:SV) (U:a0g) (b:Nat) (t:List Nat)
 |when (c:Prop) (r:SV) (U:a0g) (b:Nat) (t:List Nat)
def Res.is:Res->SV->a0g->Nat->List Nat->Prop
 | .no,_,_,_,_=>False
 | .ok r U b t,r',U',b',t'=>r'=r/\U'=U/\b'=b/\t'=t
 | .when c r U b t,r',U',b',t'=>c/\r'=r/\U'=U/\b'=b/\t'=t
def Res.guard (c:Prop):Res->Res
 | .no=> .no
 | .ok r U b t=> .when c r U b t
 | .when d r U b t=> .when (c/\d) r U b t
def Res.one (v:SV):Res:= .ok v [] 0 []
def a0K:List Nat->List SV->List SV->Option Bool
 | [],[],[]=>some true
 |2::ks,.int p x::l,.int q y::m=>bif d0p p q then (match a0K ks l m with|some b=>some (decide (x=y)&&b)|none=>none) else none
 |3::ks,.str x::l,.str y::m=>match a0K ks l m with|some b=>some (seq x y&&b)|none=>none
 |1::ks,.bool x::l,.bool y::m=>match a0K ks l m with|some b=>some ((x==y)&&b)|none=>none
 |_,_,_=>none
def s0U (k:IntKind) (x y:Int):Int:=k.wrap ((BitVec.ofInt k.bits x&&&BitVec.ofInt k.bits y).toNat:Int)
def ior (k:IntKind) (x y:Int):Int:=k.wrap ((BitVec.ofInt k.bits x|||BitVec.ofInt k.bits y).toNat:Int)
def m0F (k:IntKind) (x y:Int):Int:=k.wrap ((BitVec.ofInt k.bits x^^^BitVec.ofInt k.bits y).toNat:Int)
def q0j (k:IntKind) (x y:Int):Int:=k.wrap ((BitVec.ofInt k.bits x&&& ~~~BitVec.ofInt k.bits y).toNat:Int)
def d1z (k:IntKind) (x y:Int):Int:=k.wrap (x*2^(min y.toNat k.bits))
def h0d (k:IntKind) (x y:Int):Int:=x.fdiv (2^(min y.toNat k.bits))
def w0c (k:IntKind) (x:Int):Int:=m0F k (if k.signed then-1 else k.max) x
def q0k (op:BinOp) (k:IntKind) (x y:Int):Res:=
 match op with
 | .add=> .one (.int k (k.wrap (x+y)))
 | .sub=> .one (.int k (k.wrap (x-y)))
 | .mul=> .one (.int k (k.wrap (x*y)))
 | .quo=> .when (y≠0) (.int k (k.wrap (x.tdiv y))) [] 0 []
 | .rem=> .when (y≠0) (.int k (x.tmod y)) [] 0 []
 | .eql=> .one (.bool (decide (x=y)))
 | .neq=> .one (.bool (!decide (x=y)))
 | .lss=> .one (.bool (decide (x<y)))
 | .leq=> .one (.bool (decide (x<=y)))
 | .gtr=> .one (.bool (decide (y<x)))
 | .geq=> .one (.bool (decide (y<=x)))
 | .and=> .one (.int k (s0U k x y))
 | .or=> .one (.int k (ior k x y))
 | .xor=> .one (.int k (m0F k x y))
 | .andNot=> .one (.int k (q0j k x y))
 |_=> .no
def c0J (a b:ByteArray):Bool:=Op.bytesLess a.toList b.toList
def q0l (op:BinOp) (x y:ByteArray):Res:=
 match op with
 | .eql=> .one (.bool (seq x y))
 | .neq=> .one (.bool (!seq x y))
 | .lss=> .one (.bool (c0J x y))
 | .leq=> .one (.bool (c0J x y||seq x y))
 | .gtr=> .one (.bool (!(c0J x y||seq x y)))
 | .geq=> .one (.bool (!c0J x y))
 | .add=> .when (x.size+y.size<=9223372036854775807) (.str (x++y)) [] 0 []
 |_=> .no
def c0X (op:BinOp) (b:Bool):Res:=
 match op with
 | .eql=> .one (.bool b)
 | .neq=> .one (.bool (!b))
 |_=> .no
def isC:Operand->Bool
 | .const _=>true
 |_=>false
def d0X (k:IntKind):List SV->Option (List Int)
 | []=>some []
 | .int p x::r=>bif d0p p k then (match d0X k r with|some l=>some (x::l)|none=>none) else none
 |_=>none
def b1P (T:Tab) (op:BinOp) (t:TypeId) (k:Bool) (a b:SV):Res:=
 match op,a,b with
 | .shl,.int k x,.int _ y=> .when (0<=y) (.int k (d1z k x y)) [] 0 []
 | .shr,.int k x,.int _ y=> .when (0<=y) (.int k (h0d k x y)) [] 0 []
 |op,.int p x,.int q y=>bif d0p p q then q0k op p x y else .no
 |op,.str x,.str y=>q0l op x y
 |op,.bool x,.bool y=>match a0B T t with
  |some ti=>bif Nat.beq ti.kind 1 then c0X op (x==y) else .no
  |none=> .no
 |op,.ptr _ _ _ _,.nptr=>match a0B T t with
  |some ti=>bif Nat.beq ti.kind 7 then c0X op false else .no
  |none=> .no
 |op,.nptr,.ptr _ _ _ _=>match a0B T t with
  |some ti=>bif Nat.beq ti.kind 7 then c0X op false else .no
  |none=> .no
 |op,.nptr,.nptr=>match a0B T t with
  |some ti=>bif Nat.beq ti.kind 7 then c0X op true else .no
  |none=> .no
 |op,.map _ _,.nmap=>match a0B T t with
  |some ti=>bif Nat.beq ti.kind 8 then c0X op false else .no
  |none=> .no
 |op,.nmap,.nmap=>match a0B T t with
  |some ti=>bif Nat.beq ti.kind 8 then c0X op true else .no
  |none=> .no
 |op,.sl _ _ _ (_+1),.nsl=>match a0B T t with
  |some ti=>bif Nat.beq ti.kind 6 then c0X op false else .no
  |none=> .no
 |op,.nsl,.nsl=>match a0B T t with
  |some ti=>bif Nat.beq ti.kind 6 then c0X op true else .no
  |none=> .no
 |op,.iface _ _,.nif=>match a0B T t with
  |some ti=>bif Nat.beq ti.kind 9 then c0X op false else .no
  |none=> .no
 |op,.nif,.nif=>match a0B T t with
  |some ti=>bif Nat.beq ti.kind 9&&k then c0X op true else .no
  |none=> .no
 |op,.arr n [.ints p x],.arr m [.ints q y]=>match a0B T t with
  |some ti=>bif Nat.beq ti.kind 5&&Nat.beq n ti.len&&Nat.beq m ti.len&&d0p p q&&(match ti.flat with| [2]=>true|_=>false) then c0X op (decide (x=y)) else .no
  |none=> .no
 |op,.agg l,.arr m [.ints q y]=>match d0X q l with
  |some x=>(match a0B T t with
   |some ti=>bif Nat.beq ti.kind 5&&Nat.beq l.length ti.len&&Nat.beq m ti.len&&d0p q q&&(match ti.flat with| [2]=>true|_=>false) then c0X op (decide (x=y)) else .no
   |none=> .no)
  |none=> .no
 |op,.agg l,.agg m=>match a0B T t with
  |some ti=>bif Nat.beq ti.kind 4&& !ti.flat.isEmpty then (match a0K ti.flat l m with|some r=>c0X op r|none=> .no) else .no
  |none=> .no
 |_,_,_=> .no
def o0V {α:Type}:Nat->List α->Option (List α)
 |0,_=>some []
 |_+1,[]=>none
 |n+1,x::l=>match o0V n l with
  |some r=>some (x::r)
  |none=>none
def o0W {α:Type}:Nat->List α->List α
 |0,l=>l
 |_+1,[]=> []
 |n+1,_::l=>o0W n l
def c0a {α:Type}:List α->Nat->α->List α
 | [],_,_=> []
 |_::l,0,v=>v::l
 |x::l,n+1,v=>x::c0a l n v
def c0c {α:Type}:List α->Nat->List α->List α
 |l,_,[]=>l
 |l,j,v::r=>c0c (c0a l j v) (j+1) r
def i0U {α β:Type}:List α->(List α->β)->β
 | [],k=>k []
 |a::t,k=>i0U t (fun r=>k (a::r))
theorem c0K {α β:Type}:∀(l:List α) (k:List α->β),i0U l k=k l
 | [],_=>rfl
 |_::t,_=>c0K t _
def SV.cells:SV->Option (List SV)
 | .agg l=>some l
 | .arr _ _=>none
 | .tup _=>none
 | .unk=>none
 | .raw (.agg _)=>none
 | .raw (.tuple _)=>none
 |v=>some [v]
def SV.one:SV->Bool
 | .int _ _=>true
 | .bool _=>true
 | .str _=>true
 | .ptr _ _ _ _=>true
 | .nptr=>true
 | .sl _ _ _ _=>true
 | .nsl=>true
 | .zsl=>true
 | .map _ _=>true
 | .nmap=>true
 | .fn _ _=>true
 | .iface _ _=>true
 | .nif=>true
 | .raw (.agg _)=>false
 | .raw (.tuple _)=>false
 | .raw _=>true
 |_=>false
def c0D:List SV->Bool
 | []=>true
 |s::r=>s.one&&c0D r
def TI.place (ti:TI) (i:Nat):Option (Nat×Nat):=
 bif Nat.beq ti.kind 4 then (match nth ti.fields i with|some (o,n,_)=>some (o,n)|none=>none) else some (i*ti.el,ti.el)
def f0r (vs:VS) (place:Nat->Option (Nat×Nat)):List (Nat×Operand)->List SV->Option (List SV)
 | [],l=>some l
 |(i,x)::r,l=>match place i,gv vs x with
  |some (o,n),some v=>(match v.cells with
   |some m=>bif Nat.beq m.length n&&Nat.ble (o+n) l.length then i0U (c0c l o m) (fun l'=>f0r vs place r l') else none
   |none=>none)
  |_,_=>none
def b0a (k:IntKind):List SV->Option (List Int)
 | []=>some []
 | .int p x::r=>bif d0p p k then (match b0a k r with|some l=>some (x::l)|none=>none) else none
 |_=>none
def h0e:List SV->Option (List ByteArray)
 | []=>some []
 | .str x::r=>match h0e r with|some l=>some (x::l)|none=>none
 |_=>none
def f0s:List SV->Option (List Bool)
 | []=>some []
 | .bool x::r=>match f0s r with|some l=>some (x::l)|none=>none
 |_=>none
def q0m (l:List SV):Option Col:=
 match l with
 | .int k _::_=>(match b0a k l with|some m=>some (.ints k m)|none=>none)
 | .str _::_=>(match h0e l with|some m=>some (.strs m)|none=>none)
 | .bool _::_=>(match f0s l with|some m=>some (.bools m)|none=>none)
 |_=>none
def every {α:Type} (es:Nat):Nat->List α->List α
 |_,[]=> []
 |0,x::l=>x::every es (es-1) l
 |k+1,_::l=>every es k l
def f0t (es:Nat) (l:List SV):Nat->Nat->Option (List Col)
 |_,0=>some []
 |j,n+1=>match q0m (every es j l),f0t es l (j+1) n with
  |some c,some r=>some (c::r)
  |_,_=>none
def i0V (es:Nat) (l:List SV):Option (List Col):=f0t es l 0 es
def l0b (l:List SV):BCol:=match q0m l with|some c=> .sc c|none=> .svs l
def b0S (es:Nat) (l:List SV):Nat->Nat->List BCol
 |_,0=> []
 |j,n+1=>l0b (every es j l)::b0S es l (j+1) n
def scs:List BCol->Option (List Col)
 | []=>some []
 | .sc c::l=>match scs l with|some r=>some (c::r)|none=>none
 |_::_=>none
def a0W:List Col->List BCol
 | []=> []
 |c::l=> .sc c::a0W l
def y0P (n:Nat):SV->BCol
 | .int k x=> .sc (.ints k (List.replicate n x))
 | .str s=> .sc (.strs (List.replicate n s))
 | .bool b=> .sc (.bools (List.replicate n b))
 |v=> .svs (List.replicate n v)
def d0C (n:Nat):List SV->List BCol
 | []=> []
 |v::l=>y0P n v::d0C n l
def c0m (c:BCol) (i:Nat) (v:SV):Option BCol:=
 match c,v with
 | .sc (.ints k l),.int p x=>bif d0p p k then some (.sc (.ints k (l.set i x))) else none
 | .sc (.strs l),.str s=>some (.sc (.strs (l.set i s)))
 | .sc (.bools l),.bool b=>some (.sc (.bools (l.set i b)))
 | .svs l,v=>some (.svs (l.set i v))
 | .own h ns,v=>some (.svs ((i0D h ns).set i v))
 | .ptrs h n,v=>some (.svs ((g0c h n).set i v))
 |_,_=>none
def i0W (i:Nat):List BCol->List SV->Option (List BCol)
 |l,[]=>some l
 |c::l,v::m=>match c0m c i v,i0W i l m with
  |some d,some r=>some (d::r)
  |_,_=>none
 | [],_::_=>none
def e0Z (i:Nat):Nat->List BCol->List SV->Option (List BCol)
 |0,l,m=>i0W i l m
 |j+1,c::l,m=>(match e0Z i j l m with|some r=>some (c::r)|none=>none)
 |_+1,[],_=>none
def seg {α:Type} (i n:Nat) (l:List α):List α:=(l.drop i).take n
def Col.seg (i n:Nat):Col->Col
 | .ints k l=> .ints k (Sy.seg i n l)
 | .strs l=> .strs (Sy.seg i n l)
 | .bools l=> .bools (Sy.seg i n l)
def BCol.seg (i n:Nat):BCol->BCol
 | .sc c=> .sc (c.seg i n)
 | .svs l=> .svs (Sy.seg i n l)
 | .own h ns=> .svs (Sy.seg i n (i0D h ns))
 | .ptrs h m=> .svs (Sy.seg i n (g0c h m))
 | .arrs m k rows=> .svs (Sy.seg i n (z0j m k rows))
def m0D (i n:Nat):List BCol->List BCol
 | []=> []
 |c::l=>c.seg i n::m0D i n l
def f0u:BCol->BCol->Option BCol
 | .sc (.ints k l),.sc (.ints p m)=>bif d0p p k then some (.sc (.ints k (l++m))) else none
 | .sc (.strs l),.sc (.strs m)=>some (.sc (.strs (l++m)))
 | .sc (.bools l),.sc (.bools m)=>some (.sc (.bools (l++m)))
 | .svs l,.svs m=>some (.svs (l++m))
 | .own h ns,.svs m=>some (.svs (i0D h ns++m))
 | .ptrs h n,.svs m=>some (.svs (g0c h n++m))
 | .svs [],.own h ns=>some (.own h ns)
 | .svs [],.arrs n k r=>some (.arrs n k r)
 | .svs [],.ptrs h n=>some (.ptrs h n)
 |_,_=>none
def d0e:List BCol->List BCol->Option (List BCol)
 | [],[]=>some []
 |c::l,d::m=>match f0u c d,d0e l m with
  |some e,some r=>some (e::r)
  |_,_=>none
 |_,_=>none
def g0F {α:Type} (i n:Nat) (l s:List α):List α:=l.take i++s.take n++l.drop (i+n)
def s0V (i n:Nat):BCol->BCol->Option BCol
 | .sc (.ints k l),.sc (.ints p m)=>bif d0p p k then some (.sc (.ints k (g0F i n l m))) else none
 | .sc (.strs l),.sc (.strs m)=>some (.sc (.strs (g0F i n l m)))
 | .sc (.bools l),.sc (.bools m)=>some (.sc (.bools (g0F i n l m)))
 | .svs l,.svs m=>some (.svs (g0F i n l m))
 |_,_=>none
def h0f (i n:Nat):List BCol->List BCol->Option (List BCol)
 | [],[]=>some []
 |c::l,d::m=>match s0V i n c d,h0f i n l m with
  |some e,some r=>some (e::r)
  |_,_=>none
 |_,_=>none
def h0g (s:ByteArray):List Int:=s.data.toList.map (fun b=>(b.toNat:Int))
def a0m (l:List Int):ByteArray:=⟨(l.map (fun x=>UInt8.ofNat x.toNat)).toArray⟩
def b0w (H:a0g) (h q:Nat) (F:Bool->Blk->Res):Res:=
 match a0x H h with
 |some (.one r b)=>(match q with|0=>F r b|_=> .no)
 |some (.fam r dom f)=>(F r (f q)).guard (dom q)
 |none=> .no
def a0L (H:a0g) (h q:Nat) (b:Blk):a0g:=
 match a0x H h with
 |some (.one r _)=> [(h,some (.one r b))]
 |some (.fam r dom f)=> [(h,some (.fam r dom (fun x=>if x=q then b else f x)))]
 |none=> []
theorem d0D {H:a0g} {h q:Nat} {b:Blk} {hb:HB} (e:a0x H h=some hb):a0L H h q b= [(h,some (hb.set q b))]:=by
 unfold a0L;rw [e];cases hb<;>rfl
def d0Y (H:a0g) (h q:Nat):a0g:=
 match a0x H h with
 |some hb=> [(h,hb.drop q)]
 |none=> []
def Blk.elt (b:Blk) (i:Nat) (R:Res):Res:=
 match b with
 | .cells _=>(match i with|0=>R|_=> .no)
 | .cols n _=>R.guard (i<n)
 | .obj _=> .no
def o0X (b:Blk) (i:Nat):Nat->Nat->Option (List SV)
 |_,0=>some []
 |j,n+1=>match b.at i j with
  |some v=>match o0X b i (j+1) n with
   |some l=>some (v::l)
   |none=>none
  |none=>none
def q0n (b:Blk) (i j:Nat) (ti:TI) (h:Nat):Res:=
 match b,Nat.beq ti.kind 5 with
 | .cols n l,true=>bif Nat.beq n ti.len&&Nat.beq l.length ti.el&&Nat.beq i 0&&Nat.beq j 0&&Nat.beq ti.size (ti.len*ti.el) then (match scs l with|some cs=> .ok (.arr n cs) [] 0 [h]|none=> .no) else .no
 |b,_=>bif ti.agg then b.elt i (match o0X b i j ti.size with|some l=> .ok (.agg l) [] 0 [h]|none=> .no) else b.elt i (match b.at i j with|some v=> .ok v [] 0 [h]|none=> .no)
def h0h (H:a0g) (h q i j:Nat) (v:SV) (ti:TI) (b:Blk):Res:=
 match b,v with
 | .cols n l,.arr m cs=>bif !Nat.beq n 0&&Nat.beq n m&&Nat.beq cs.length l.length&&Nat.beq i 0&&Nat.beq j 0&&Nat.beq ti.size (n*l.length) then .ok (.raw undef) (a0L H h q (.cols n (a0W cs))) 0 [h] else .no
 | .cols n l,v=>(match v.cells with
   |some m=>bif c0D m&&Nat.beq m.length ti.size&&Nat.ble (j+m.length) l.length then (match e0Z i j l m with|some r=> .when (i<n) (.raw undef) (a0L H h q (.cols n r)) 0 [h]|none=> .no) else .no
   |none=> .no)
 | .cells l,v=>(match i,v.cells with
   |0,some m=>bif c0D m&&Nat.beq m.length ti.size&&Nat.ble (j+m.length) l.length then i0U (c0c l j m) (fun l'=> .ok (.raw undef) (a0L H h q (.cells l')) 0 [h]) else .no
   |_,_=> .no)
 | .obj _,_=> .no
def b0m (vs:VS) (d:Int):Option Operand->Option Int
 |none=>some d
 |some x=>match gv vs x with|some (.int _ n)=>some n|_=>none
def d0Q:Option Int->Bool
 |some (.ofNat 0)=>true
 |_=>false
def g0T (vs:VS) (ti:TI) (x:SV) (F:Nat->List BCol->List Nat->Res):Res:=
 match x with
 | .sl h q i n=>b0w vs.heap h q (fun _ b=>match b with
   | .cols m l=>bif Nat.beq l.length ti.el then (F n (m0D i n l) [h]).guard (i+n<=m) else .no
   |_=> .no)
 | .nsl=>F 0 (d0C 0 ti.ez) []
 | .zsl=>F 0 (d0C 0 ti.ez) []
 | .str s=>bif ti.u8&&Nat.beq ti.el 1 then F s.size [.sc (.ints .u8 (h0g s))] [] else .no
 |_=> .no
def j0R (vs:VS) (nx:Nat) (ti:TI) (s x:SV):Res:=
 match s with
 | .sl h q i n=>b0w vs.heap h q (fun ro b=>match ro,b with
   |false,.cols m l=>bif Nat.beq l.length ti.el then g0T vs ti x (fun n2 l2 t=>match d0e (bif Nat.beq i 0 then l else m0D i n l) l2 with
    |some r=> .when (i+n=m/\(n+n2+500)*(ti.eb+1)<=70368744177664) (.sl nx 0 0 (n+n2)) ((nx,some (.one false (.cols (n+n2) r)))::d0Y vs.heap h q) 1 (h::t)
    |none=> .when (i+n=m/\(n+n2+500)*(ti.eb+1)<=70368744177664) (.sl nx 0 0 (n+n2)) (a0L vs.heap h q (.cols m l)) 1 (h::t)) else .no
   |_,_=> .no)
 | .nsl=>g0T vs ti x (fun n2 l2 t=> .when ((n2+500)*(ti.eb+1)<=70368744177664) (.sl nx 0 0 n2) [(nx,some (.one false (.cols n2 l2)))] 1 t)
 | .zsl=>g0T vs ti x (fun n2 l2 t=> .when ((n2+500)*(ti.eb+1)<=70368744177664) (.sl nx 0 0 n2) [(nx,some (.one false (.cols n2 l2)))] 1 t)
 |_=> .no
def s0W (vs:VS) (ti:TI) (d x:SV):Res:=
 match d with
 | .sl h q i n=>b0w vs.heap h q (fun ro b=>match ro,b with
   |false,.cols m l=>bif Nat.beq l.length ti.el then g0T vs ti x (fun n2 l2 t=>match h0f i (min n2 n) l l2 with
    |some r=> .when (i+n<=m) (.int .i64 (min n2 n:Nat)) (a0L vs.heap h q (.cols m r)) 0 (h::t)
    |none=> .no) else .no
   |_,_=> .no)
 |_=> .no
def Col.cut (i:Nat):Col->Col
 | .ints k l=> .ints k (l.take i)
 | .strs l=> .strs (l.take i)
 | .bools l=> .bools (l.take i)
def BCol.cut (i:Nat):BCol->BCol
 | .sc c=> .sc (c.cut i)
 | .svs l=> .svs (l.take i)
 | .own h ns=> .own h (ns.take i)
 | .ptrs h n=> .ptrs h (min i n)
 | .arrs m k rows=> .arrs m k (rows.take i)
def d0Z (i:Nat):List BCol->List BCol
 | []=> []
 |c::l=>c.cut i::d0Z i l
def i0X (vs:VS) (ti:TI) (s:SV):Res:=
 match s with
 | .sl h q i n=>b0w vs.heap h q (fun ro b=>match ro,b with
   |false,.cols m l=>bif Nat.beq l.length ti.el then .when (i+n=m) (.tup []) (a0L vs.heap h q (.cols i (d0Z i l))) 0 [h] else .no
   |_,_=> .no)
 |_=> .no
def n0E (vs:VS) (ti:TI) (x:SV) (lo hi mx:Option Operand):Res:=
 match x with
 | .str s=>(match Nat.beq ti.kind 3,mx,b0m vs 0 lo,b0m vs s.size hi with
   |true,none,some l,some h=> .when (0<=l/\l<=h/\h<=(s.size:Int)) (.str (s.extract l.toNat h.toNat)) [] 0 []
   |_,_,_,_=> .no)
 | .sl hd q i n=>(match Nat.beq ti.kind 6&& !Nat.beq ti.el 0,b0m vs 0 lo,b0m vs n hi,b0m vs n mx,mx,hi with
   |true,some l,some h,some m,some _,some _=>bif d0Q (some h)&&d0Q (some m) then .when (l=0) .zsl [] 0 [] else b0w vs.heap hd q (fun _ b=>bif Nat.beq b.es ti.el then .when (0<=l/\l<=h/\h<=m/\m<=(n:Int)) (.sl hd q (l.toNat+i) (h.toNat-l.toNat)) [] 0 [hd] else .no)
   |true,some l,some h,_,none,_=>b0w vs.heap hd q (fun _ b=>bif Nat.beq b.es ti.el then .when (0<=l/\l<=h/\h<=(n:Int)) (.sl hd q (l.toNat+i) (h.toNat-l.toNat)) [] 0 [hd] else .no)
   |_,_,_,_,_,_=> .no)
 | .nsl=>(match Nat.beq ti.kind 6&& !Nat.beq ti.el 0,b0m vs 0 lo,b0m vs 0 hi,mx with
   |true,some l,some h,none=> .when (l=0/\h=0) .nsl [] 0 []
   |_,_,_,_=> .no)
 | .ptr hd q 0 0=>(match Nat.beq ti.kind 5&& !Nat.beq ti.el 0,b0m vs 0 lo,b0m vs ti.len hi,mx with
   |true,some l,some h,none=>b0w vs.heap hd q (fun _ b=>match b with
    | .cols n cs=>bif Nat.beq n ti.len&&Nat.beq cs.length ti.el then .when (0<=l/\l<=h/\h<=(ti.len:Int)) (.sl hd q l.toNat (h.toNat-l.toNat)) [] 0 [hd] else .no
    |_=> .no)
   |_,_,_,_=> .no)
 |_=> .no
def s0X (vs:VS) (nx:Nat) (a b:TI) (x:SV):Res:=
 match x with
 | .int _ n=>bif Nat.beq b.kind 2 then .one (.int b.ik (b.ik.wrap n)) else .no
 | .str s=>bif Nat.beq b.kind 3 then .one (.str s) else bif b.u8&&Nat.beq b.el 1 then .ok (.sl nx 0 0 s.size) [(nx,some (.one false (.cols s.size [.sc (.ints .u8 (h0g s))])))] 1 [] else .no
 | .sl h q i n=>bif Nat.beq b.kind 3&&a.u8 then b0w vs.heap h q (fun _ bl=>match bl with
   | .cols m [.sc (.ints .u8 l)]=> .when (i+n<=m) (.str (a0m (seg i n l))) [] 0 [h]
   |_=> .no) else .no
 |_=> .no
def q0o (nx:Nat) (b:Blk):Res:= .ok (.ptr nx 0 0 0) [(nx,some (.one false b))] 1 []
def q0p (nx:Nat) (ti:TI):Res:=
 bif ti.zero.isEmpty|| !c0D ti.zero then .no else bif Nat.beq ti.kind 5&& !ti.zc.isEmpty&&Nat.beq ti.zero.length (ti.len*ti.el) then q0o nx (.cols ti.len (a0W ti.zc)) else q0o nx (.cells ti.zero)
def b1Q (nx t:Nat) (ti:TI):Res:=
 match ti.zero with
 | [.nptr,.nsl]=> .ok (.ptr nx 0 0 0) [(nx,some (.one false (.obj (.bld0 t))))] 1 []
 |_=> .no
def d1A (nx:Nat) (ti:TI) (v:SV):Res:=
 match v with
 | .arr n cs=>q0o nx (.cols n (a0W cs))
 | .agg l=>bif !c0D l then .no else bif Nat.beq ti.kind 5 then (match i0V ti.el l with|some cs=>bif Nat.beq (ti.len*ti.el) l.length then q0o nx (.cols ti.len (a0W cs)) else .no|none=>q0o nx (.cells l)) else q0o nx (.cells l)
 |v=>bif v.one then q0o nx (.cells [v]) else .no
def d0f:List ByteArray->ByteArray->Nat
 | [],_=>0
 |x::l,s=>bif seq x s then 0 else d0f l s+1
def l0c:List Int->Int->Nat
 | [],_=>0
 |x::l,s=>bif decide (x=s) then 0 else l0c l s+1
def b0v:List ByteArray->List ByteArray->ByteArray->ByteArray->Nat
 |x::l,y::m,s,t=>bif seq x s&&seq y t then 0 else b0v l m s t+1
 |_,_,_,_=>0
def d0q (ti:TI) (ka:Bool) (ks:List Col) (key:SV):Option Nat:=
 match ka,ks,key with
 |false,[.strs l],.str s=>bif Nat.beq ti.len 3 then some (d0f l s) else none
 |false,[.ints k l],.int p x=>bif Nat.beq ti.len 2&&d0p p k&&d0p p ti.ik then some (l0c l x) else none
 |true,[.strs l,.strs m],.agg [.str s,.str t]=>(match ti.flat with| [3,3]=>some (b0v l m s t)|_=>none)
 |_,_,_=>none
def c0x {α:Type} (i:Nat) (x:α) (l:List α):List α:=if i<l.length then l.set i x else l++ [x]
def b0H (i:Nat):Col->SV->Option Col
 | .ints k l,.int p x=>bif d0p p k then some (.ints k (c0x i x l)) else none
 | .strs l,.str s=>some (.strs (c0x i s l))
 | .bools l,.bool b=>some (.bools (c0x i b l))
 |_,_=>none
def c0z (i:Nat):List Col->List SV->Option (List Col)
 | [],[]=>some []
 |c::l,v::m=>match b0H i c v,c0z i l m with
  |some d,some r=>some (d::r)
  |_,_=>none
 |_,_=>none
def h0i (i:Nat):BCol->SV->Option BCol
 | .sc c,v=>(match b0H i c v with|some d=>some (.sc d)|none=>none)
 | .svs l,v=>some (.svs (c0x i v l))
 | .own h ns,v=>some (.svs (c0x i v (i0D h ns)))
 | .ptrs h n,v=>some (.svs (c0x i v (g0c h n)))
 | .arrs n k rows,.arr m [.ints p x]=>bif Nat.beq m n&&d0p p k then some (.arrs n k (c0x i x rows)) else none
 | .arrs _ _ _,_=>none
def b0G (i:Nat):List BCol->List SV->Option (List BCol)
 | [],[]=>some []
 |c::l,v::m=>match h0i i c v,b0G i l m with
  |some d,some r=>some (d::r)
  |_,_=>none
 |_,_=>none
def o0Y:SV->Bool
 | .arr _ _=>true
 |_=>false
def a0M (ag:Bool) (v:SV):Option (List SV):=
 match ag,v with
 |true,.agg l=>some l
 |true,_=>none
 |false,v=>bif v.one||o0Y v then some [v] else none
def zOk:List BCol->List SV->Bool
 | [],[]=>true
 | .sc (.ints k _)::l,.int p x::m=>d0p p k&&d0Q (some x)&&zOk l m
 | .sc (.strs _)::l,.str s::m=>Nat.beq s.size 0&&zOk l m
 | .sc (.bools _)::l,.bool false::m=>zOk l m
 |_,_=>false
def g0e (k:IntKind):List SV->Bool
 | []=>true
 | .int p x::l=>d0p p k&&d0Q (some x)&&g0e k l
 |_=>false
def b1R (ea ega:Bool) (vl:List BCol) (ez:List SV):Bool:=
 match ea,ega,vl with
 |false,true,[.arrs n k _]=>Nat.beq n ez.length&&g0e k ez
 |_,_,_=>false
def b1S:List BCol->List SV->Bool
 | [.own _ _],[.nsl]=>true
 | [.ptrs _ _],[.nptr]=>true
 | [.svs _],[.nsl]=>true
 |_,_=>false
def b1T (ea ega:Bool) (vl:List BCol) (ez:List SV):Bool:=
 match ea,ega,vl,ez with
 |true,true,[.sc (.ints k _),.own _ _],[.int p x,.nsl]=>d0p p k&&d0Q (some x)
 |_,_,_,_=>false
def z0l (ti:TI):Option SV:=
 match ti.ega,ti.ez with
 |true,l=>some (.agg l)
 |false,[v]=>some v
 |false,_=>none
def f0v (ea:Bool) (n:Nat) (vl:List BCol) (i:Nat):SV:=
 match ea,vl with
 |false,[.own h ns]=>bif decide (i<n) then .sl h i 0 (ns.getD i 0) else .nsl
 |false,[.ptrs h _]=>bif decide (i<n) then .ptr h i 0 0 else .nptr
 |false,[.svs l]=>bif decide (i<n) then a0T false [.svs l] i else .nsl
 |true,[.sc c,.own h ns]=> .agg [c.at i,bif decide (i<n) then .sl h i 0 (ns.getD i 0) else .nsl]
 |ea,vl=>a0T ea vl i
def l0d (co:Bool) (v:SV) (b:Bool):SV:=bif co then .tup [v,.bool b] else v
def c0A (vs:VS) (ti:TI) (m key:SV) (co:Bool):Res:=
 match m with
 | .nmap=>(match z0l ti with
   |some z=>bif !ti.bld then .no else (match d0q ti (!Nat.beq ti.len 3&& !Nat.beq ti.len 2) (bif Nat.beq ti.len 3 then [.strs []] else bif Nat.beq ti.len 2 then [.ints ti.ik []] else [.strs [],.strs []]) key with|some _=> .ok (l0d co z false) [] 0 []|none=> .no)
   |none=> .no)
 | .map h q=>b0w vs.heap h q (fun _ b=>match b with
   | .obj (.map ka ea n ks vl _ _)=>(match d0q ti ka ks key with
     |some i=>bif ti.bld&&(((zOk vl ti.ez||(!ea&&b1S vl ti.ez))&&(match ea,ti.ega with|true,true=>true|false,false=>true|_,_=>false))||b1R ea ti.ega vl ti.ez||b1T ea ti.ega vl ti.ez) then .ok (l0d co (f0v ea n vl i) (decide (i<n))) [] 0 [h] else .no
     |none=> .no)
   |_=> .no)
 |_=> .no
def g0f (vs:VS) (ti:TI) (m key v:SV):Res:=
 match m with
 | .map h q=>b0w vs.heap h q (fun ro b=>match ro,b with
   |false,.obj (.map ka ea n ks vl bs ck)=>(match d0q ti ka ks key,a0M ka key,a0M ea v with
    |some i,some kc,some vc=>(match c0z i ks kc,b0G i vl vc with
     |some ks',some vl'=> .ok (.raw undef) (a0L vs.heap h q (.obj (.map ka ea (if i<n then n else n+1) ks' vl' (if i<n then bs else bs++ [ck]) (if i<n then ck else ck+1)))) 0 [h]
     |_,_=> .no)
    |_,_,_=> .no)
   |_,_=> .no)
 |_=> .no
def b0I (vs:VS) (ti:TI) (m key:SV):Res:=
 match m with
 | .map h q=>b0w vs.heap h q (fun ro b=>match ro,b with
   |false,.obj (.map ka ea n ks vl bs ck)=>(match d0q ti ka ks key,a0M ka key with
    |some i,some kc=>(match a0M ea (a0T ea vl i) with
     |some vc=>(match c0z i ks kc,b0G i vl vc with
      |some ks',some vl'=>bif ti.bld&&zOk vl ti.ez&&(match ea,ti.ega with|true,true=>true|false,false=>true|_,_=>false) then .ok (.tup [a0T ea vl i,.int .i64 ((if i<n then bs.getD i 0 else ck:Nat):Int)]) (a0L vs.heap h q (.obj (.map ka ea (if i<n then n else n+1) ks' vl' (if i<n then bs else bs++ [ck]) (if i<n then ck else ck+1)))) 0 [h] else .no
      |_,_=> .no)
     |none=> .no)
    |_,_=> .no)
   |_,_=> .no)
 |_=> .no
def c0d (vs:VS) (m st v:SV):Res:=
 match m,st with
 | .map h q,.int .i64 b=>b0w vs.heap h q (fun ro bl=>match ro,bl with
   |false,.obj (.map ka ea n ks vl bs ck)=>(match a0M ea v with
    |some vc=>(match b0G (bs.idxOf b.toNat) vl vc with
     |some vl'=> .when (0<=b/\b.toNat∈bs) (.raw undef) (a0L vs.heap h q (.obj (.map ka ea n ks vl' bs ck))) 0 [h]
     |none=> .no)
    |none=> .no)
   |_,_=> .no)
 |_,_=> .no
def g0G (i:Nat):Col->Col
 | .ints k l=> .ints k (l.eraseIdx i)
 | .strs l=> .strs (l.eraseIdx i)
 | .bools l=> .bools (l.eraseIdx i)
def c0e (i:Nat):List Col->List Col
 | []=> []
 |c::l=>g0G i c::c0e i l
def d0r (i:Nat):BCol->BCol
 | .sc c=> .sc (g0G i c)
 | .svs l=> .svs (l.eraseIdx i)
 | .own h ns=>if i<ns.length then .svs ((i0D h ns).eraseIdx i) else .own h ns
 | .ptrs h n=>if i<n then .svs ((g0c h n).eraseIdx i) else .ptrs h n
 | .arrs n k rows=> .arrs n k (rows.eraseIdx i)
def c0f (i:Nat):List BCol->List BCol
 | []=> []
 |c::l=>d0r i c::c0f i l
def g0g (vs:VS) (ti:TI) (m key:SV):Res:=
 match m with
 | .map h q=>b0w vs.heap h q (fun ro b=>match ro,b with
   |false,.obj (.map ka ea n ks vl bs ck)=>(match d0q ti ka ks key with
    |some i=> .ok (.tup []) (a0L vs.heap h q (.obj (.map ka ea (if i<n then n-1 else n) (c0e i ks) (c0f i vl) (bs.eraseIdx i) ck))) 0 [h]
    |none=> .no)
   |_,_=> .no)
 |_=> .no
def d0g (ti:TI):Bool×List BCol:=
 match ti.eag,ti.ez with
 |true,.int k _::_=>(false,[.arrs ti.ez.length k []])
 |_,_=>(ti.ega,d0C 0 ti.ez)
def j0S (nx:Nat) (ti:TI):Res:=
 match ti.len,ti.flat with
 |3,_=> .ok (.map nx 0) [(nx,some (.one false (.obj (.map false (d0g ti).1 0 [.strs []] (d0g ti).2 [] 0))))] 1 []
 |2,_=> .ok (.map nx 0) [(nx,some (.one false (.obj (.map false (d0g ti).1 0 [.ints ti.ik []] (d0g ti).2 [] 0))))] 1 []
 |0,[3,3]=> .ok (.map nx 0) [(nx,some (.one false (.obj (.map true (d0g ti).1 0 [.strs [],.strs []] (d0g ti).2 [] 0))))] 1 []
 |_,_=> .no
def v0a (a b:ByteArray):ByteArray:=if (c0J a b||seq a b)=true then a else b
def v0b (a b:ByteArray):ByteArray:=if (!c0J a b)=true then a else b
def i0Y (vs:VS) (nx:Nat) (ti:TI) (m:SV):Res:=
 match m with
 | .str s=>bif Nat.beq ti.kind 3 then .ok (.ptr nx 0 0 0) [(nx,some (.one false (.obj (.siter s 0))))] 1 [] else .no
 | .nmap=>bif Nat.beq ti.kind 8 then .ok (.ptr nx 0 0 0) [(nx,some (.one false (.obj .niter)))] 1 [] else .no
 | .map h q=>bif Nat.beq ti.kind 8 then b0w vs.heap h q (fun _ b=>match b with
   | .obj (.map _ _ _ _ _ bs ck)=> .ok (.ptr nx 0 0 0) [(nx,some (.one false (.obj (.iter h q bs ck []))))] 1 [h]
   |_=> .no) else .no
 |_=> .no
def s0Y (ka:Bool) (ks:List Col) (i:Nat):SV:=
 match ka,ks with
 |true,ks=> .agg (f0q ks i)
 |false,[c]=>c.at i
 |false,_=> .unk
def i0Z (vs:VS) (it:SV):Res:=
 match it with
 | .ptr h 0 0 0=>b0w vs.heap h 0 (fun _ b=>match b with
   | .obj (.iter hm qm bs ck (i::_))=>b0w vs.heap hm qm (fun _ b2=>match b2 with
     | .obj (.map ka ea n ks vl bs2 ck2)=> .when (bs2=bs/\ck2=ck/\i<n) (.tup [s0Y ka ks i,a0T ea vl i]) [] 0 [h,hm]
     |_=> .no)
   |_=> .no)
 |_=> .no
def eff (T:Tab) (vs:VS) (nx:Nat) (op:Op):Res:=
 match op with
 | .move x=>match gv vs x with|some v=> .one v|none=> .no
 | .assign x=>match gv vs x with|some v=> .one v|none=> .no
 | .nilCheck x=>match gv vs x with
   |some (.ptr h q i j)=> .one (.ptr h q i j)
   |some (.fn f l)=> .one (.fn f l)
   |some (.iface t v)=> .one (.iface t v)
   |_=> .no
 | .pick c x y=>match gv vs c with
   |some (.bool true)=>(match gv vs x with|some v=> .one v|none=> .no)
   |some (.bool false)=>(match gv vs y with|some v=> .one v|none=> .no)
   |_=> .no
 | .binOp op t x y _=>match gv vs x,gv vs y with
   |some a,some b=>b1P T op t (isC x||isC y) a b
   |_,_=> .no
 | .unOp op _ x=>match op,gv vs x with
   | .not,some (.bool b)=> .one (.bool (!b))
   | .neg,some (.int k n)=> .one (.int k (k.wrap (0-n)))
   | .xor,some (.int k n)=> .one (.int k (w0c k n))
   |_,_=> .no
 | .fieldAddr s x f=>match gv vs x,a0B T s with
   |some (.ptr h q i j),some ti=>bif !Nat.beq ti.kind 4 then .no else (match nth ti.fields f with
    |some (o,n,_)=>bif Nat.beq n 0 then .no else .one (.ptr h q i (j+o))
    |none=> .no)
   |_,_=> .no
 | .field s x f=>match gv vs x,a0B T s with
   |some (.agg l),some ti=>bif !Nat.beq ti.kind 4 then .no else (match nth ti.fields f with
    |some (o,n,ag)=>bif Nat.beq n 0 then .no else bif ag then (match o0V n (o0W o l) with|some r=> .one (.agg r)|none=> .no) else (match nth l o with|some v=> .one v|none=> .no)
    |none=> .no)
   |_,_=> .no
 | .load t x=>match gv vs x,a0B T t with
   |some (.ptr h q i j),some ti=>b0w vs.heap h q (fun _ b=>q0n b i j ti h)
   |_,_=> .no
 | .store t x y=>match gv vs x,gv vs y,a0B T t with
   |some (.ptr h q i j),some v,some ti=>b0w vs.heap h q (fun ro b=>bif ro then .no else h0h vs.heap h q i j v ti b)
   |_,_,_=> .no
 | .extract x ix=>match gv vs x with
   |some (.tup l)=>(match nth l ix with|some v=> .one v|none=> .no)
   |_=> .no
 | .index t x ix=>match gv vs x,gv vs ix,a0B T t with
   |some (.str s),some (.int _ i),some ti=>bif Nat.beq ti.kind 3 then .when (0<=i/\i<(s.size:Int)) (.int .u8 (a0h s i)) [] 0 [] else .no
   |some (.arr n [c]),some (.int _ i),some ti=>bif Nat.beq ti.kind 5&&Nat.beq ti.el 1&& !ti.eag&&Nat.beq n ti.len then .when (0<=i/\i<(ti.len:Int)) (c.at i.toNat) [] 0 [] else .no
   |some (.arr n cs),some (.int _ i),some ti=>bif Nat.beq ti.kind 5&&Nat.beq ti.el cs.length&&ti.ega&&Nat.beq n ti.len&& !Nat.beq ti.el 0 then .when (0<=i/\i<(ti.len:Int)) (.agg (f0q cs i.toNat)) [] 0 [] else .no
   |_,_,_=> .no
 | .indexAddr t x ix=>match gv vs x,gv vs ix,a0B T t with
   |some (.sl h q i n),some (.int _ m),some ti=>bif !Nat.beq ti.kind 6 then .no else b0w vs.heap h q (fun _ b=>bif Nat.beq b.es ti.el&& !Nat.beq ti.el 0 then .when (0<=m/\m<(n:Int)) (.ptr h q (m.toNat+i) 0) [] 0 [h] else .no)
   |some (.ptr h q 0 0),some (.int _ m),some ti=>bif !Nat.beq ti.kind 5 then .no else b0w vs.heap h q (fun _ b=>match b with
    | .cols n l=>bif Nat.beq n ti.len&&Nat.beq l.length ti.el&& !Nat.beq ti.el 0 then .when (0<=m/\m<(ti.len:Int)) (.ptr h q m.toNat 0) [] 0 [h] else .no
    |_=> .no)
   |some (.ptr h q i (j+1)),some (.int _ m),some ti=>bif Nat.beq ti.kind 5&&Nat.beq ti.el 1 then .when (0<=m/\m<(ti.len:Int)) (.ptr h q i (j+1+m.toNat)) [] 0 [] else .no
   |_,_,_=> .no
 | .build t parts=>match a0B T t with
   |some ti=>bif ti.bld&& !Nat.beq ti.kind 8 then (match f0r vs ti.place parts.toList ti.zero with
    |some l0=>i0U l0 (fun l=>bif Nat.beq ti.kind 5 then (match i0V ti.el l with|some cs=>bif Nat.beq (ti.len*ti.el) l.length then .one (.arr ti.len cs) else .no|none=> .one (.agg l)) else .one (.agg l))
    |none=> .no) else .no
   |none=> .no
 | .buildSlice t len parts=>match a0B T t with
   |some ti=>bif Nat.beq ti.kind 6&&Nat.beq ti.ez.length ti.el&& !Nat.beq ti.el 0&&Nat.ble (len*ti.el) 16777216 then (match f0r vs (fun i=>some (i*ti.el,ti.el)) parts.toList (List.replicate len ti.ez).flatten with
    |some l0=>i0U l0 (fun l=>bif c0D l&&Nat.beq l.length (len*ti.el) then .ok (.sl nx 0 0 len) [(nx,some (.one false (.cols len (bif Nat.beq len 0 then d0C 0 ti.ez else b0S ti.el l 0 ti.el))))] 1 [] else .no)
    |none=> .no) else .no
   |none=> .no
 | .makeSlice t x y=>match gv vs x,gv vs y,a0B T t with
   |some (.int _ l),some (.int _ c),some ti=>bif Nat.beq ti.kind 6&&c0D ti.ez&&Nat.beq ti.ez.length ti.el&& !Nat.beq ti.el 0 then .when (0<=l/\l<=c/\c*((ti.eb:Int)+1)<=281474976710656) (.sl nx 0 0 l.toNat) [(nx,some (.one false (.cols l.toNat (d0C l.toNat ti.ez))))] 1 [] else .no
   |_,_,_=> .no
 | .slice t x lo hi mx=>match gv vs x,a0B T t with
   |some v,some ti=>n0E vs ti v lo hi mx
   |_,_=> .no
 | .alloc t=>match a0B T t with
   |some ti=>bif Nat.beq ti.kind 4&&Nat.beq ti.len 1 then b1Q nx t ti else q0p nx ti
   |none=> .no
 | .box t x=>match gv vs x,a0B T t with
   |some v,some ti=>d1A nx ti v
   |_,_=> .no
 | .makeFunc (.func f) first captured=>bif Nat.blt f 1048576 then (match gvs vs first.toList,gvs vs captured.toList with
   |some [],some l=> .one (.fn f l)
   |some l,some []=> .one (.fn (f+1048576) l)
   |_,_=> .no) else .no
 | .makeInterface t x=>match gv vs x,a0B T t with
   |some v,some ti=>bif Nat.beq ti.kind 9 then .no else .one (.iface t v)
   |_,_=> .no
 | .call { callee:= .builtin b,args:=args,argTypes:=ts}=>match b,args.toList with
   | .len,[x]=>(match ts.toList with
     | [t]=>(match gv vs x,a0B T t with
       |some (.str s),some ti=>bif Nat.beq ti.kind 3 then .one (.int .i64 (s.size:Int)) else .no
       |some (.sl _ _ _ n),some ti=>bif Nat.beq ti.kind 6 then .one (.int .i64 (n:Int)) else .no
       |some .nsl,some ti=>bif Nat.beq ti.kind 6 then .one (.int .i64 0) else .no
       |some .zsl,some ti=>bif Nat.beq ti.kind 6 then .one (.int .i64 0) else .no
       |some .nmap,some ti=>bif Nat.beq ti.kind 8 then .one (.int .i64 0) else .no
       |some (.map h q),some ti=>bif Nat.beq ti.kind 8 then b0w vs.heap h q (fun _ b=>match b with| .obj (.map _ _ n _ _ _ _)=> .ok (.int .i64 (n:Int)) [] 0 [h]|_=> .no) else .no
       |_,_=> .no)
     |_=> .no)
   | .delete,[x,y]=>(match ts.toList with
     |t::_=>(match gv vs x,gv vs y,a0B T t with
      |some m,some k,some ti=>bif Nat.beq ti.kind 8 then g0g vs ti m k else .no
      |_,_,_=> .no)
     |_=> .no)
   | .clear,[x]=>(match ts.toList with
     |t::_=>(match gv vs x,a0B T t with
      |some s,some ti=>bif Nat.beq ti.kind 6&&c0D ti.ez&&Nat.beq ti.ez.length ti.el&& !Nat.beq ti.el 0 then i0X vs ti s else .no
      |_,_=> .no)
     |_=> .no)
   | .min,[x,y]=>(match gv vs x,gv vs y with
     |some (.int p a),some (.int q b)=>bif d0p p q then .one (.int p (min a b)) else .no
     |some (.str a),some (.str b)=> .one (.str (v0a a b))
     |_,_=> .no)
   | .max,[x,y]=>(match gv vs x,gv vs y with
     |some (.int p a),some (.int q b)=>bif d0p p q then .one (.int p (max a b)) else .no
     |some (.str a),some (.str b)=> .one (.str (v0b a b))
     |_,_=> .no)
   | .append,[x,y]=>(match ts.toList with
     | [t,t2]=>(match gv vs x,gv vs y,a0B T t,a0B T t2 with
       |some s,some v,some ti,some ti2=>bif Nat.beq ti.kind 6&&c0D ti.ez&&Nat.beq ti.ez.length ti.el&& !Nat.beq ti.el 0&&(Nat.beq ti2.kind 6||Nat.beq ti2.kind 3) then j0R vs nx ti s v else .no
       |_,_,_,_=> .no)
     |_=> .no)
   | .copy,[x,y]=>(match ts.toList with
     |t::_=>(match gv vs x,gv vs y,a0B T t with
      |some s,some v,some ti=>bif Nat.beq ti.kind 6&&Nat.beq ti.ez.length ti.el&& !Nat.beq ti.el 0 then s0W vs ti s v else .no
      |_,_,_=> .no)
     |_=> .no)
   |_,_=> .no
 | .convert src dst x=>match gv vs x,a0B T src,a0B T dst with
   |some v,some a,some b=>s0X vs nx a b v
   |_,_,_=> .no
 | .makeMap t none=>match a0B T t with
   |some ti=>bif Nat.beq ti.kind 8 then j0S nx ti else .no
   |none=> .no
 | .lookup t x ix co=>match gv vs x,gv vs ix,a0B T t with
   |some m,some k,some ti=>bif Nat.beq ti.kind 8 then c0A vs ti m k co else .no
   |_,_,_=> .no
 | .mapUpdate t x ix y=>match gv vs x,gv vs ix,gv vs y,a0B T t with
   |some m,some k,some v,some ti=>bif Nat.beq ti.kind 8 then g0f vs ti m k v else .no
   |_,_,_,_=> .no
 | .mapEntry t x ix=>match gv vs x,gv vs ix,a0B T t with
   |some m,some k,some ti=>bif Nat.beq ti.kind 8 then b0I vs ti m k else .no
   |_,_,_=> .no
 | .entryStore _ x y z=>match gv vs x,gv vs y,gv vs z with
   |some m,some k,some v=>c0d vs m k v
   |_,_,_=> .no
 | .range t x=>match gv vs x,a0B T t with
   |some m,some ti=>i0Y vs nx ti m
   |_,_=> .no
 | .entry x=>match gv vs x with
   |some v=>i0Z vs v
   |none=> .no
 |_=> .no
def a0N:TypeDesc->Nat
 | .bool=>1
 | .int _=>2
 | .string=>3
 | .struct _=>4
 | .array _ _=>5
 | .slice _=>6
 | .pointer _=>7
 | .map _ _=>8
 | .interface _=>9
 |_=>0
def o0Z (P:Program) (t:TypeId):Bool:=
 match P.underlying t with
 |some (.struct _)=>true
 |some (.array _ _)=>true
 |_=>false
def b1w (P:Program) (t:TypeId):Bool:=
 match P.underlying t with
 |some (.struct _)=>false
 |some (.array _ _)=>false
 |some _=>true
 |none=>false
def fsz (P:Program) (t:TypeId):Nat:=
 match P.underlying t with
 |some _=>P.cellsOf t
 |none=>0
def a0J (P:Program) (t:TypeId):Nat:=
 match P.underlying t with
 |some .bool=>1
 |some (.int _)=>2
 |some .string=>3
 |_=>0
def a0Z (P:Program):Nat->List Field->Option (List Nat)
 |_,[]=>some []
 |i,f::r=>bif (f.name !="_")&& !Nat.beq (a0J P f.type) 0&&(f.offset==i) then (match a0Z P (i+1) r with|some l=>some (a0J P f.type::l)|none=>none) else none
def q0q (P:Program) (t:TypeId):Option (List Nat):=
 match P.underlying t with
 |some (.struct fs)=>bif !P.stoodInHeld t then (match a0Z P 0 fs.toList with|some ks=>bif Nat.beq (P.cellsOf t) ks.length then some ks else none|none=>none) else none
 |_=>none
def l0e (P:Program):Nat->List Field->Option (List Nat)
 |_,[]=>some []
 |i,f::r=>bif (f.name !="_")&&(f.offset==i) then
   (bif !Nat.beq (a0J P f.type) 0 then (match l0e P (i+1) r with|some l=>some (a0J P f.type::l)|none=>none)
    else match q0q P f.type with
     |some ks=>(match l0e P (i+ks.length) r with|some l=>some (ks++l)|none=>none)
     |none=>none) else none
def n0F (P:Program) (e:TypeId):Bool:=
 match P.info? e with
 |some i=>(match i.zero with
  |some (.agg _)=>o0Z P e
  |some (.tuple _)=>false
  |some _=> !o0Z P e
  |none=>false)
 |none=>false
def e0y (P:Program):TypeDesc->Bool
 | .map _ e=>n0F P e
 | .struct fs=>fs.toList.all (fun f=>(P.info? f.type).isSome&&(P.underlying f.type).isSome)
 | .array _ e=>(P.info? e).isSome
 |_=>false
def b0N (P:Program) (t:TypeId):List SV:=
 match P.info? t with
 |some i=>(match i.zero with|some z=>z.cells.toList.map cv|none=> [])
 |none=> []
def g0H (P:Program) (t:TypeId):Option TI:=
 match P.info? t,P.underlying t with
 |some i,some d=>some {
   size:=i.size
   kind:=a0N d
   zero:=b0N P t
   zc:=match d with| .array _ e=>(match i0V (P.cellsOf e) (b0N P t) with|some cs=>cs|none=> [])|_=> []
   fields:=match d with| .struct fs=>fs.toList.map (fun f=>(f.offset,fsz P f.type,o0Z P f.type))|_=> []
   ik:=match d with| .int k=>k| .map k _=>(match P.underlying k with|some (.int x)=>x|_=> .i64)|_=> .i64
   el:=match d with| .slice e=>P.cellsOf e| .array _ e=>P.cellsOf e| .map _ e=>P.cellsOf e|_=>0
   len:=match d with| .array n _=>n| .map k _=>a0J P k| .struct _=>bif i.str=="strings.Builder" then 1 else 0|_=>0
   eag:=match d with| .array _ e=> !b1w P e| .map _ e=>(match P.underlying e with|some (.array _ _)=>true|_=>false)|_=>false
   ez:=match d with| .slice e=>b0N P e| .map _ e=>b0N P e|_=> []
   eb:=match d with| .slice e=>(match P.info? e with|some x=>x.bytes|none=>0)|_=>0
   flat:=match d with| .struct fs=>bif !P.stoodInHeld t&& !P.eqGuardType P.depth t then (l0e P 0 fs.toList).getD [] else []| .map k _=>(match P.underlying k with|some (.struct fs)=>bif !P.stoodInHeld k&& !P.eqGuardType P.depth k then (a0Z P 0 fs.toList).getD [] else []|_=> [])| .array _ e=>bif !P.eqGuardType P.depth t&&Nat.beq (a0J P e) 2&&Nat.beq (P.cellsOf e) 1 then [2] else []|_=> []
   bld:=i.zero.isSome&&e0y P d
   u8:=match d with| .slice e=>(match P.underlying e with|some (.int .u8)=>true|_=>false)|_=>false
   ega:=match d with| .slice e=>o0Z P e| .array _ e=>o0Z P e| .map _ e=>o0Z P e|_=>false}
 |_,_=>none
def a0U (P:Program) (T:Tab):Prop:=∀t ti,a0B T t=some ti->g0H P t=some ti
theorem s0Z (P:Program) (T:Tab) (h:T.map (fun p=>g0H P p.1)=T.map (fun p=>some p.2)):a0U P T:=by
 intro t ti;induction T with
 |nil=>intro h;cases h
 |cons p r ih=>
  obtain ⟨k,x⟩:=p;simp only [k0N,List.cons.injEq] at h;intro ha;simp only [a0B] at ha;cases hb:Nat.beq k t with
  |true=>rw [hb] at ha;simp only [cond_true,Option.some.injEq] at ha;rw [<-ha,<-c0k hb];exact h.1
  |false=>rw [hb] at ha;exact ih h.2 ha
end Go.Sy
namespace Go.Sy
open Go.RowKit
mutual
def SV.ren (ρ:Nat->Nat):SV->SV
 | .ptr h q i j=> .ptr (ρ h) q i j
 | .sl h q i n=> .sl (ρ h) q i n
 | .map h q=> .map (ρ h) q
 | .fn f l=> .fn f (SV.rens ρ l)
 | .iface t v=> .iface t (SV.ren ρ v)
 | .agg l=> .agg (SV.rens ρ l)
 | .tup l=> .tup (SV.rens ρ l)
 | .bool b=> .bool b
 | .int k n=> .int k n
 | .str s=> .str s
 | .nptr=> .nptr
 | .nsl=> .nsl
 | .zsl=> .zsl
 | .nmap=> .nmap
 | .nif=> .nif
 | .arr n l=> .arr n l
 | .raw v=> .raw v
 | .unk=> .unk
def SV.rens (ρ:Nat->Nat):List SV->List SV
 | []=> []
 |s::r=>SV.ren ρ s::SV.rens ρ r
end
def BCol.ren (ρ:Nat->Nat):BCol->BCol
 | .sc c=> .sc c
 | .svs l=> .svs (SV.rens ρ l)
 | .own h ns=> .own (ρ h) ns
 | .arrs n k r=> .arrs n k r
 | .ptrs h n=> .ptrs (ρ h) n
def c0B (ρ:Nat->Nat):List BCol->List BCol
 | []=> []
 |c::l=>c.ren ρ::c0B ρ l
def ObjS.ren (ρ:Nat->Nat):ObjS->ObjS
 | .map ka ea n ks vs bs ck=> .map ka ea n ks (c0B ρ vs) bs ck
 | .iter h q a b c=> .iter (ρ h) q a b c
 | .niter=> .niter
 | .siter s p=> .siter s p
 | .bld0 T=> .bld0 T
 | .bld T h q n=> .bld T (ρ h) q n
 | .brow T s=> .brow T s
 | .bag Q=> .bag Q
def Blk.ren (ρ:Nat->Nat):Blk->Blk
 | .cells l=> .cells (SV.rens ρ l)
 | .cols n l=> .cols n (c0B ρ l)
 | .obj o=> .obj (o.ren ρ)
def HB.ren (ρ:Nat->Nat):HB->HB
 | .one r b=> .one r (b.ren ρ)
 | .fam r dom f=> .fam r dom (fun q=>(f q).ren ρ)
mutual
def SV.wf (n:Nat):SV->Bool
 | .ptr h _ _ _=>Nat.blt h n
 | .sl h _ _ _=>Nat.blt h n
 | .map h _=>Nat.blt h n
 | .fn _ l=>SV.wfs n l
 | .iface _ v=>SV.wf n v
 | .agg l=>SV.wfs n l
 | .tup l=>SV.wfs n l
 |_=>true
def SV.wfs (n:Nat):List SV->Bool
 | []=>true
 |s::r=>SV.wf n s&&SV.wfs n r
end
def BCol.wf (n:Nat):BCol->Bool
 | .sc _=>true
 | .svs l=>SV.wfs n l
 | .own h _=>Nat.blt h n
 | .arrs _ _ _=>true
 | .ptrs h _=>Nat.blt h n
def e0a (n:Nat):List BCol->Bool
 | []=>true
 |c::l=>c.wf n&&e0a n l
def ObjS.wf (n:Nat):ObjS->Bool
 | .map _ _ _ _ vs _ _=>e0a n vs
 | .iter h _ _ _ _=>Nat.blt h n
 | .niter=>true
 | .siter _ _=>true
 | .bld0 _=>true
 | .bld _ h _ _=>Nat.blt h n
 | .brow _ _=>true
 | .bag _=>true
def Blk.wf (n:Nat):Blk->Bool
 | .cells l=>SV.wfs n l
 | .cols _ l=>e0a n l
 | .obj o=>o.wf n
def HB.wf (n:Nat):HB->Prop
 | .one _ b=>b.wf n=true
 | .fam _ dom f=>∀q,dom q->(f q).wf n=true
def e0b (n:Nat):a0g->Prop
 | []=>True
 |(h,some hb)::r=>Nat.blt h n=true/\hb.wf n/\e0b n r
 |(_,none)::_=>False
def rho (l:List Nat) (nx:Nat) (h:Nat):Nat:=match nth l h with|some k=>k|none=>nx+(h-l.length)
def HB.fits:HB->HB->Prop
 | .one r b,.one r' b'=>(r|| !r')=true/\b'=b
 | .fam r dom f,.fam r' dom' f'=>(r|| !r')=true/\dom'=dom/\f'=f
 |_,_=>False
def q0r (o:Option HB) (hb:HB):Prop:=match o with|some hb'=>hb.fits hb'|none=>False
def d0R (ρ:Nat->Nat):a0g->a0g->Prop
 | [],_=>True
 |(h,some hb)::r,H=>q0r (a0x H (ρ h)) (hb.ren ρ)/\d0R ρ r H
 |(_,none)::_,_=>False
def i0B (ρ:Nat->Nat):a0g->a0g
 | []=> []
 |(h,some hb)::r=>(ρ h,some (hb.ren ρ))::i0B ρ r
 |(h,none)::r=>(ρ h,none)::i0B ρ r
def i0C (ρ:Nat->Nat):a0g->a0g
 | []=> []
 |(h,some hb)::r=>bif hb.ro then i0C ρ r else (ρ h,none)::i0C ρ r
 |(_,none)::r=>i0C ρ r
def d0s (P:Program) (f:FuncId):Prop:=∃fn c,P.funcs[f]? =some fn/\fn.body=some c/\(fn.name=="runtime.NumGoroutine")=false
def f0w (H:a0g):Prop:=∀h q ro b,Ent H h q ro b->ro=false
def Out (g:G) (w:World) (n:Nat) (H:a0g) (post:SV->a0g->Nat->Prop) (v:Value) (w':World):Prop:=
 ∃sv H' n' g',post sv H' n'/\n<=n'/\g'.upto n'/\(∀h q,h<n->g' h q=g h q)/\Rv g' sv v/\Holds g' H' w'/\f0w H'/\Fr (d0o g H) w w'/\s0T g' H' (d0o g H) w
def FC (P:Program) (n:Nat) (f:FuncId) (args:List SV) (H:a0g) (post:SV->a0g->Nat->Prop):Prop:=
 (d0s P f/\∀(g:G) (w:World) (vals:List Value),g.glob->g.upto n->Holds g H w->Rvs g args vals->Calls P f vals.toArray w (fun e w'=>∃v,e= .returned v/\Out g w n H post v w'))\/
 (∀(g:G) (w:World) (vals:List Value),g.glob->g.upto n->Holds g H w->Rvs g args vals->∃v w',(callFunc f vals.toArray).run P w= .ok (.value v) w'/\Out g w n H post v w')
def a0d (r:SV) (H':a0g) (n':Nat):SV->a0g->Nat->Prop:=fun sv h n=>sv=r/\h=H'/\n=n'
def a0y (P:Program) (f:FuncId) (args:List SV) (r:SV):Prop:=FC P 1 f args [] (a0d r [] 1)
def g0h (l:List Nat) (n:Nat):Bool:=match l with| []=>true|k::r=>Nat.blt k n&&g0h r n
def j0a:List Nat->Bool
 |0::_=>true
 |_=>false
def n0G (ρ:Nat->Nat) (h:Nat):a0g->Bool
 | []=>true
 |(k,_)::r=>(Nat.beq h k|| !Nat.beq (ρ h) (ρ k))&&n0G ρ h r
def j0T (ρ:Nat->Nat) (all:a0g):a0g->Bool
 | []=>true
 |(h,some hb)::r=>(hb.ro||n0G ρ h all)&&j0T ρ all r
 |(_,none)::r=>j0T ρ all r
structure Fits (l:List Nat) (nx:Nat) (args args0:List SV) (H Hc:a0g):Prop where
 head:j0a l=true
 inj:j0T (rho l nx) H H=true
 args:args=SV.rens (rho l nx) args0
 wfA:SV.wfs l.length args0=true
 wfH:e0b l.length H
 heap:d0R (rho l nx) H Hc
def a0u (P:Program) (f:FuncId) (args:List SV) (Hc:a0g) (nx:Nat) (K:SV->a0g->Nat->Prop):Prop:=
 ∃(l:List Nat) (args0:List SV) (H:a0g) (post:SV->a0g->Nat->Prop),FC P l.length f args0 H post/\Fits l nx args args0 H Hc/\∀sv H' n',post sv H' n'->K (SV.ren (rho l nx) sv) (i0B (rho l nx) H'++i0C (rho l nx) H) (n'-l.length)
def a0j (P:Program) (f:FuncId) (args:List SV) (Hc:a0g) (nx:Nat) (K:SV->a0g->Nat->List Nat->Prop):Prop:=
 ∃(l:List Nat) (args0:List SV) (H:a0g) (r:SV) (H':a0g) (n':Nat),FC P l.length f args0 H (a0d r H' n')/\Fits l nx args args0 H Hc/\K (SV.ren (rho l nx) r) (i0B (rho l nx) H'++i0C (rho l nx) H) (n'-l.length) l
def q0s:a0g->a0g->(a0g->Prop)->Prop
 | [],H,K=>K H
 |x::r,H,K=>q0s r H (fun H'=>K (x::H'))
def j0b (vs:VS) (d:Option Nat) (r:SV) (U:a0g) (b:Nat) (K:VS->Prop):Prop:=
 match vs with
 |⟨e,H,n⟩=>q0s U H (fun H'=>match d,b with
  |some d,0=>K ⟨(d,r)::e,H',n⟩
  |none,0=>K ⟨e,H',n⟩
  |some d,b+1=>K ⟨(d,r)::e,H',n+(b+1)⟩
  |none,b+1=>K ⟨e,H',n+(b+1)⟩)
def y0Q (l:List SV):List SV->List SV
 | []=>l
 |c=>l++c
def fnF (n:Nat):Nat:=bif Nat.blt n 1048576 then n else n-1048576
def fnA (n:Nat) (l cap:List SV):List SV:=bif Nat.blt n 1048576 then y0Q l cap else y0Q cap l
def y0R (R:Res) (K:SV->a0g->Nat->List Nat->Prop):Prop:=
 match R with
 | .no=>False
 | .ok r U b t=>K r U b t
 | .when c r U b t=>c/\K r U b t
def z0m (vs:VS) (d:Option Nat) (it:SV) (K:VS->Prop):Prop:=
 match it with
 | .ptr h 0 0 0=>(match a0x vs.heap h with
   |some (.one false (.obj (.iter hm 0 bs ck sn)))=>(match a0x vs.heap hm with
    |some (.one _ (.obj (.map ka ea n ks vl bs2 ck2)))=>(bs2=bs/\ck2=ck)/\(∀i,i<n->¬i∈sn->j0b vs d (.tup [.bool true,s0Y ka ks i,a0T ea vl i]) [(h,some (.one false (.obj (.iter hm 0 bs ck (i::sn)))))] 0 K)/\((∀i,i<n->i∈sn)->j0b vs d (.tup [.bool false]) [] 0 K)
    |_=>False)
   |_=>False)
 |_=>False
def v0c (vs:VS) (d:Option Nat) (it:SV) (K:VS->Prop):Prop:=
 match it with
 | .ptr h 0 0 0=>(match a0x vs.heap h with
   |some (.one false (.obj (.siter s p)))=>(p<s.size->j0b vs d (.tup [.bool true,.int .i64 (p:Int),.int .i32 ((Utf8.decode s p).1:Int)]) [(h,some (.one false (.obj (.siter s (p+(Utf8.decode s p).2)))))] 0 K)/\(¬p<s.size->j0b vs d (.tup [.bool false]) [] 0 K)
   |_=>False)
 |_=>False
def n0H (P:Program) (t:TypeId) (name:String) (f:FuncId):Prop:=∀v w,(method (P.types.size+Made.depth) t v name).run P w= .ok (f,v) w
def vex (P:Program) (T:Tab) (o:Oper) (vs:VS) (K:VS->Prop):Prop:=
 match vs with
 |⟨e,H,nx⟩=>match o.op with
  | .call { callee:= .value f,args:=args,argTypes:=_}=>(match gv ⟨e,H,nx⟩ f,gvs ⟨e,H,nx⟩ args.toList with
    |some (.fn n cap),some l=>a0u P (fnF n) (fnA n l cap) H nx (fun r U b=>j0b ⟨e,H,nx⟩ o.dst r U b K)
    |_,_=>False)
  | .call { callee:= .invoke x name,args:=args,argTypes:=_}=>(match gv ⟨e,H,nx⟩ x,gvs ⟨e,H,nx⟩ args.toList with
    |some (.iface t v),some l=>∃f,n0H P t name f/\a0u P f (v::l) H nx (fun r U b=>j0b ⟨e,H,nx⟩ o.dst r U b K)
    |_,_=>False)
  | .next x false=>(match gv ⟨e,H,nx⟩ x with
    |some it=>z0m ⟨e,H,nx⟩ o.dst it K
    |none=>False)
  | .next x true=>(match gv ⟨e,H,nx⟩ x with
    |some it=>v0c ⟨e,H,nx⟩ o.dst it K
    |none=>False)
  | .binOp .eql t x y ty=>(match gv ⟨e,H,nx⟩ x,gv ⟨e,H,nx⟩ y with
    |some (.sl _ _ _ 0),some .nsl=>(match a0B T t with
     |some ti=>bif Nat.beq ti.kind 6 then (j0b ⟨e,H,nx⟩ o.dst (.bool true) [] 0 K/\j0b ⟨e,H,nx⟩ o.dst (.bool false) [] 0 K) else False
     |none=>False)
    |_,_=>y0R (eff T ⟨e,H,nx⟩ nx (.binOp .eql t x y ty)) (fun r U b _=>j0b ⟨e,H,nx⟩ o.dst r U b K))
  |op=>y0R (eff T ⟨e,H,nx⟩ nx op) (fun r U b _=>j0b ⟨e,H,nx⟩ o.dst r U b K)
def vop (P:Program) (T:Tab) (ops:List Oper) (o:Oper) (vs:VS) (K:VS->Prop):Prop:=
 match o.guard with
 |none=>vex P T o vs K
 |some (j,want)=>match nth ops j with
  |some oj=>(match oj.dst with
   |some d=>(match a0B vs.env d with
    |some (.bool true)=>bif want then vex P T o vs K else j0b vs o.dst (.raw undef) [] 0 K
    |some (.bool false)=>bif want then j0b vs o.dst (.raw undef) [] 0 K else vex P T o vs K
    |some (.raw (.tuple _))=>j0b vs o.dst (.raw undef) [] 0 K
    |_=>False)
   |none=>False)
  |none=>False
def q0t (vs:VS) (d:Nat) (K:VS->Prop):Prop:=
 match vs with
 |⟨e,h,n⟩=>match a0B e d with
  |some (.bool b)=>br b (K ⟨(d,.bool true)::e,h,n⟩) (K ⟨(d,.bool false)::e,h,n⟩)
  |some (.raw (.tuple _))=>K ⟨e,h,n⟩
  |_=>False
def c0t (ops:List Oper) (o:Oper):Option Nat:=
 match o.guard with
 |none=>none
 |some (j,_)=>match nth ops j with
  |some oj=>oj.dst
  |none=>none
def y0S (P:Program) (T:Tab) (ops:List Oper):List Oper->VS->(VS->Prop)->Prop
 | [],vs,K=>K vs
 |o::r,vs,K=>match c0t ops o with
  |none=>vop P T ops o vs (fun vs'=>y0S P T ops r vs' K)
  |some d=>q0t vs d (fun v1=>vop P T ops o v1 (fun vs'=>y0S P T ops r vs' K))
structure Rec where
 keys:List Nat
 touch:List Nat
def a0q:a0g->List Nat
 | []=> []
 |(h,_)::r=>h::a0q r
def q0u:List Nat->Nat->Bool
 | [],_=>false
 |x::r,t=>Nat.beq x t||q0u r t
def c0L:List Nat->List Nat->Bool
 | [],_=>true
 |x::r,l=> !q0u l x&&c0L r l
def n0I (o:Oper) (j:Nat):Bool:=o.after.toList.any (fun e=>Region.binds .any e&&Nat.beq e.on j)
def h0j (ops:List Oper):Nat->Oper->Nat->Bool
 |0,o,j=>n0I o j
 |n+1,o,j=>n0I o j||o.after.toList.any (fun e=>Region.binds .any e&&Nat.blt j e.on&&(match nth ops e.on with|some oe=>h0j ops n oe j|none=>false))
def t0a:Operand->Operand->Bool
 | .tmp a,.tmp b=>Nat.beq a b
 |_,_=>false
def d0h:List Oper->Nat
 | []=>0
 |o::r=>(match o.op with| .mapEntry _ _ _=>d0h r+1|_=>d0h r)
def g0X (x:Operand) (l:List Oper):Bool:=
 match x with
 | .tmp a=>l.all (fun o=>match o.dst with|some d=> !Nat.beq d a|none=>true)
 |_=>false
def h0k (ops:List Oper) (k:Nat) (o:Oper):Bool:=
 match nth ops k,o.op with
 |some ok,.mapEntry ty x y=>(match ok.op with
  | .lookup ty' x' y' false=>Nat.beq ty' ty&&t0a x' x&&t0a y' y&&Nat.beq (d0h ops) 1&&g0X x (ops.drop k)&&g0X y (ops.drop k)
  |_=>false)
 |_,_=>false
def e0R (ops:List Oper) (o:Oper) (keys touch:List Nat):Nat->List Rec->Bool
 |_,[]=>true
 |i,c::r=>((c0L c.keys touch&&c0L c.keys keys&&c0L keys c.touch)||h0j ops 7 o i||h0k ops i o)&&e0R ops o keys touch (i+1) r
def p0a {α:Type}:List α->α->List α
 | [],x=> [x]
 |y::l,x=>y::p0a l x
def t0b {α:Type}:List α->α->(List α->Prop)->Prop
 | [],x,K=>K [x]
 |y::l,x,K=>t0b l x (fun l'=>K (y::l'))
theorem j0U {α:Type}:∀(l:List α) (x:α) (K:List α->Prop),t0b l x K=K (p0a l x)
 | [],x,K=>rfl
 |y::l,x,K=>by simp only [t0b,p0a,j0U l]
def t0c:a0g->(List Nat->Prop)->Prop
 | [],K=>K []
 |(h,_)::r,K=>t0c r (fun l=>K (h::l))
theorem j0V:∀(U:a0g) (K:List Nat->Prop),t0c U K=K (a0q U)
 | [],K=>rfl
 |(h,_)::r,K=>by simp only [t0c,a0q,j0V r]
def i0E (ops:List Oper) (o:Oper) (recs:List Rec) (vs:VS) (r:SV) (U:a0g) (b:Nat) (t:List Nat) (K:List Rec->VS->Prop):Prop:=
 t0c U (fun ks=>bif e0R ops o ks t 0 recs then t0b recs ⟨ks,t⟩ (fun recs'=>j0b vs o.dst r U b (K recs')) else False)
def z0n (P:Program) (T:Tab) (ops:List Oper) (o:Oper) (recs:List Rec) (vs:VS) (K:List Rec->VS->Prop):Prop:=
 match vs with
 |⟨e,H,nx⟩=>match o.op with
  | .call { callee:= .value f,args:=args,argTypes:=_}=>(match gv ⟨e,H,nx⟩ f,gvs ⟨e,H,nx⟩ args.toList with
    |some (.fn n cap),some l=>a0j P (fnF n) (fnA n l cap) H nx (fun r U b t=>i0E ops o recs ⟨e,H,nx⟩ r U b t K)
    |_,_=>False)
  | .call { callee:= .invoke x name,args:=args,argTypes:=_}=>(match gv ⟨e,H,nx⟩ x,gvs ⟨e,H,nx⟩ args.toList with
    |some (.iface t v),some l=>∃f,n0H P t name f/\a0j P f (v::l) H nx (fun r U b t=>i0E ops o recs ⟨e,H,nx⟩ r U b t K)
    |_,_=>False)
  |op=>y0R (eff T ⟨e,H,nx⟩ nx op) (fun r U b t=>i0E ops o recs ⟨e,H,nx⟩ r U b t K)
def z0o (P:Program) (T:Tab) (ops:List Oper) (o:Oper) (recs:List Rec) (vs:VS) (K:List Rec->VS->Prop):Prop:=
 match o.guard with
 |none=>z0n P T ops o recs vs K
 |some (j,want)=>match nth ops j with
  |some oj=>(match oj.dst with
   |some d=>(match a0B vs.env d with
    |some (.bool true)=>bif want then z0n P T ops o recs vs K else i0E ops o recs vs (.raw undef) [] 0 [] K
    |some (.bool false)=>bif want then i0E ops o recs vs (.raw undef) [] 0 [] K else z0n P T ops o recs vs K
    |some (.raw (.tuple _))=>i0E ops o recs vs (.raw undef) [] 0 [] K
    |_=>False)
   |none=>False)
  |none=>False
def m0G (P:Program) (T:Tab) (ops:List Oper):List Oper->List Rec->VS->(VS->Prop)->Prop
 | [],_,vs,K=>K vs
 |o::r,recs,vs,K=>match c0t ops o with
  |none=>z0o P T ops o recs vs (fun recs' vs'=>m0G P T ops r recs' vs' K)
  |some d=>q0t vs d (fun v1=>z0o P T ops o recs v1 (fun recs' vs'=>m0G P T ops r recs' vs' K))
def d0S:Nat->List Nat->Bool
 |0,_=>true
 |n+1,l=>(match nth l n with|some k=>Nat.beq k n|none=>false)&&d0S n l
def d0E (ρ:Nat->Nat):Env->Env->Prop
 | [],_=>True
 |(t,sv)::r,e=>a0B e t=some (SV.ren ρ sv)/\d0E ρ r e
def b0e (ρ:Nat->Nat):a0g->a0g->Prop
 | [],_=>True
 |(h,some hb)::r,e=>a0x e (ρ h)=some (hb.ren ρ)/\b0e ρ r e
 |(_,none)::_,_=>False
structure Weak (n0:Nat) (l:List Nat) (vs v0:VS):Prop where
 ids:(Nat.ble 1 n0&&Nat.ble n0 l.length&&d0S n0 l&&Nat.beq l.length v0.next&&g0h l vs.next&&j0T (rho l vs.next) v0.heap v0.heap)=true
 env:d0E (rho l vs.next) v0.env vs.env
 heap:b0e (rho l vs.next) v0.heap vs.heap
def SLe (n:Nat) (R:Nat->Nat->Option (Nat×Nat)) (sv sv':SV):Prop:=∀(g g1:G) (v:Value),G.le g g1->(∀h q p,n<=h->R h q=some p->∀β,g p.1 p.2=some β->g1 h q=some β)->Rv g sv v->Rv g1 sv' v
def BLs (n:Nat) (R:Nat->Nat->Option (Nat×Nat)):Blk->Blk->Prop
 | .cells l,.cells l'=>l'.length=l.length/\∀j sv',nth l' j=some sv'->∃sv,nth l j=some sv/\SLe n R sv sv'
 | .cols m cs,.cols m' cs'=>m'<=m/\cs'.length=cs.length/\((∀c∈cs,c.len=m)->∀c∈cs',c.len=m')/\∀i j c',i<m'->nth cs' j=some c'->∃c,nth cs j=some c/\SLe n R (c.at i) (c'.at i)
 | .obj (.map ka ea m ks vl bs ck),.obj (.map ka' ea' m' ks' vl' bs' ck')=>ka'=ka/\ea'=ea/\m'=m/\ks'=ks/\bs'=bs/\ck'=ck/\((∀c∈vl,c.len=m)->∀c∈vl',c.len=m')/\∀i,i<m'->SLe n R (a0T ea' vl i) (a0T ea' vl' i)
 |_,_=>False
def BLe (n:Nat) (R:Nat->Nat->Option (Nat×Nat)) (b b':Blk):Prop:=b'=b\/BLs n R b b'
def b1x (n:Nat) (R:Nat->Nat->Option (Nat×Nat)) (h q h0 q0:Nat):Prop:=(h<n/\h0=h/\q0=q)\/(n<=h/\R h q=some (h0,q0))
def v0d:List Nat->a0g
 | []=> []
 |h::r=>(h,none)::v0d r
def f0x:List BCol->Bool
 | []=>true
 | .sc (.ints _ [])::r=>f0x r
 | .sc (.strs [])::r=>f0x r
 | .sc (.bools [])::r=>f0x r
 | .svs []::r=>f0x r
 | .own _ []::r=>f0x r
 | .ptrs _ 0::r=>f0x r
 |_=>false
structure Relab (H:a0g) (n:Nat) (R:Nat->Nat->Option (Nat×Nat)) (E:Nat->Nat) (N:a0g) (dr:List Nat) (m:Nat):Prop where
 lim:∀h q p,n<=h->R h q=some p->h<n+m
 ro:∀h q ro b,Ent N h q ro b->ro=false
 src:∀h q b',Ent N h q false b'->(∃h0 q0 b0,b1x n R h q h0 q0/\Ent H h0 q0 false b0/\BLe n R b0 b')\/((n<=h/\h<n+m)/\R h q=none/\∃cs,b'= .cols 0 cs/\f0x cs=true/\E h=cs.length)
 took:∀h q p,n<=h->R h q=some p->p.1∈dr
 inj:∀h q h' q' h0 q0,h∈a0q N->h'∈a0q N->b1x n R h q h0 q0->b1x n R h' q' h0 q0->h=h'/\q=q'
inductive Up where
 |slot (t:Nat) (cs:List BCol)
 |cell (h j:Nat) (cs:List BCol)
 |relab (R:Nat->Nat->Option (Nat×Nat)) (E:Nat->Nat) (N:a0g) (dr:List Nat) (m:Nat)
def SV.none:SV->Bool
 | .nsl=>true
 | .zsl=>true
 |_=>false
def up1 (u:Up) (vs:VS):Option VS:=
 match vs,u with
 |⟨e,H,n⟩,.slot t cs=>(match a0B e t with
  |some v=>bif v.none&&f0x cs then some ⟨(t,.sl n 0 0 0)::e,(n,some (.one false (.cols 0 cs)))::H,n+1⟩ else none
  |none=>none)
 |⟨e,H,n⟩,.cell h j cs=>(match a0x H h with
  |some (.one false (.cells l))=>(match nth l j with
   |some v=>bif v.none&&f0x cs then some ⟨e,(h,some (.one false (.cells (c0a l j (.sl n 0 0 0)))))::(n,some (.one false (.cols 0 cs)))::H,n+1⟩ else none
   |none=>none)
  |_=>none)
 |_,.relab _ _ _ _ _=>none
def upK:List Up->VS->(VS->Prop)->Prop
 | [],vs,K=>K vs
 | .relab R E N dr m::r,⟨e,H,n⟩,K=>Relab H n R E N dr m/\q0s N (v0d dr++H) (fun H'=>upK r ⟨e,H',n+m⟩ K)
 |u::r,vs,K=>match up1 u vs with
  |some v=>upK r v K
  |none=>False
def unC (K:Exit->VS->Prop) (f:VS->Prop):Exit->VS->Prop:=fun e v'=>match e with| .normal=>f v'|e=>K e v'
def vun (body:VS->(Exit->VS->Prop)->Prop) (K:Exit->VS->Prop):Nat->VS->Prop
 |0,_=>False
 |N+1,vs=>body vs (unC K (vun body K N))
def a0v (n0:Nat) (body:VS->(Exit->VS->Prop)->Prop) (vs:VS) (K:Exit->VS->Prop):Prop:=
 (∃(α:Type) (st:α->VS) (inv:α->Prop) (μ:α->Nat) (x0:α) (l0:List Nat) (u0:List Up),upK u0 vs (fun v=>Weak n0 l0 v (st x0))/\inv x0/\∀x,inv x->body (st x) (fun e v'=>match e with
  | .normal=>∃y l u,inv y/\μ y<μ x/\upK u v' (fun v=>Weak n0 l v (st y))
  |e=>K e v'))\/∃N,vun body K N vs
def v0e (vs:VS) (d:Nat) (b:Bool) (K:VS->Prop):Prop:=
 match vs with
 |⟨e,h,n⟩=>K ⟨(d,.bool b)::e,h,n⟩
def d1B (f:VS->(Exit->VS->Prop)->Prop) (K:Exit->VS->Prop):Exit->VS->Prop:=fun e vs'=>match e with| .normal=>f vs' K|e=>K e vs'
def n0J (id:Nat) (K:Exit->VS->Prop):Exit->VS->Prop:=fun e vs'=>match e with| .exit i=>(bif Nat.beq i id then K .normal vs' else K (.exit i) vs')|e=>K e vs'
def w0d (K:Exit->VS->Prop):Exit->VS->Prop:=fun e vs'=>match e with| .goto _=>False|e=>K e vs'
def b0k (P:Program) (T:Tab) (n0:Nat):Code->VS->(Exit->VS->Prop)->Prop
 | .skip,vs,K=>K .normal vs
 | .region _ ops draw,vs,K=>bif draw then m0G P T ops.toList ops.toList [] vs (K .normal) else y0S P T ops.toList ops.toList vs (K .normal)
 | .seq a b,vs,K=>b0k P T n0 a vs (d1B (fun v k=>b0k P T n0 b v k) K)
 | .cond c x y,vs,K=>(match c,gv vs c with
   | .tmp t,some (.bool b)=>br b (v0e vs t true (fun v=>b0k P T n0 x v K)) (v0e vs t false (fun v=>b0k P T n0 y v K))
   | .const (.bool true),_=>b0k P T n0 x vs K
   | .const (.bool false),_=>b0k P T n0 y vs K
   |_,_=>False)
 | .block id c,vs,K=>b0k P T n0 c vs (n0J id K)
 | .loop c,vs,K=>a0v n0 (b0k P T n0 c) vs K
 | .exit id,vs,K=>K (.exit id) vs
 | .ret,vs,K=>K .ret vs
 | .label _,vs,K=>K .normal vs
 | .scope c,vs,K=>b0k P T n0 c vs (w0d K)
 |_,_,_=>False
def p0b (T:Tab) (vs:VS):List ResultVar->(List SV->Prop)->Prop
 | [],K=>K []
 | .tmp t::r,K=>(match a0B vs.env t with|some v=>p0b T vs r (fun l=>K (v::l))|none=>False)
 | .cell a t::r,K=>(match a0B vs.env a,a0B T t with
   |some (.ptr h q i j),some ti=>y0R (b0w vs.heap h q (fun _ b=>q0n b i j ti h)) (fun v _ _ _=>p0b T vs r (fun m=>K (v::m)))
   |_,_=>False)
def e0P:List SV->SV
 | [x]=>x
 |l=> .tup l
structure RetOk (n0:Nat) (l:List Nat) (r:SV) (vs:VS) (r0:SV) (H0:a0g) (n1:Nat):Prop where
 ids:(Nat.ble 1 n0&&Nat.ble n0 l.length&&d0S n0 l&&Nat.beq l.length n1&&g0h l vs.next&&j0T (rho l vs.next) H0 H0)=true
 res:r=SV.ren (rho l vs.next) r0
 heap:b0e (rho l vs.next) H0 vs.heap
 rw:f0w H0
def b0b (n0:Nat) (post:SV->a0g->Nat->Prop) (r:SV) (vs:VS):Prop:=
 ∃l u r0 H0 n1,upK u vs (fun v=>RetOk n0 l r v r0 H0 n1)/\post r0 H0 n1
def t0d (T:Tab) (n0:Nat) (rs:List ResultVar) (post:SV->a0g->Nat->Prop):Exit->VS->Prop
 | .normal,vs=>p0b T vs rs (fun l=>b0b n0 post (e0P l) vs)
 | .ret,vs=>p0b T vs rs (fun l=>b0b n0 post (e0P l) vs)
 |_,_=>False
def g0i:Nat->List SV->Env
 |_,[]=> []
 |i,v::r=>(i,v)::g0i (i+1) r
def e0c (N:Nat):List Oper->Bool
 | []=>true
 |o::r=>(match o.dst with|some d=>Nat.ble (d+1) N|none=>true)&&e0c N r
def f0a:List Operand->List Nat
 | []=> []
 | .tmp t::r=>t::f0a r
 |_::r=>f0a r
def looks (ops:List Oper) (o:Oper):List Nat:=
 match c0t ops o with
 |some d=>d::f0a o.op.operands.toList
 |none=>f0a o.op.operands.toList
def l0f (ops:List Oper) (i j:Nat) (oi oj:Oper):Bool:=
 Nat.beq i j||(match oj.dst with
  |some t=>(match oi.dst with|some u=> !Nat.beq u t|none=>true)&&(!q0u (looks ops oi) t||(Nat.blt j i&&h0j ops 7 oi j)||(Nat.blt i j&&h0j ops 7 oj i))
  |none=>true)
def p0c (ops:List Oper) (i:Nat) (oi:Oper):Nat->List Oper->Bool
 |_,[]=>true
 |j,oj::r=>l0f ops i j oi oj&&p0c ops i oi (j+1) r
def l0g (i:Nat) (o:Oper):Bool:=o.after.toList.all (fun e=> !Region.binds .any e||Nat.blt e.on i)
def j0d (ops:List Oper) (i:Nat) (o:Oper):Bool:=
 (match o.dst with|some t=> !q0u (looks ops o) t|none=>true)&&l0g i o&&(match c0t ops o,o.guard with|none,some _=>false|_,_=>true)
def n0K (ops:List Oper):Nat->List Oper->Bool
 |_,[]=>true
 |i,o::r=>j0d ops i o&&p0c ops i o 0 ops&&n0K ops (i+1) r
def q0v (ops:List Oper):Bool:=n0K ops 0 ops
def b0n (N:Nat):Code->Bool
 | .region _ ops draw=>e0c N ops.toList&&(!draw||q0v ops.toList)
 | .seq a b=>b0n N a&&b0n N b
 | .cond _ a b=>b0n N a&&b0n N b
 | .block _ c=>b0n N c
 | .loop c=>b0n N c
 | .scope c=>b0n N c
 |_=>true
end Go.Sy
namespace Go.Sy
open Go.RowKit
mutual
theorem Rv.mono {g g':G} (h:G.le g g'):∀(sv:SV) (v:Value),Rv g sv v->Rv g' sv v
 | .bool _,_,r=>by simp only [Rv] at r⊢;exact r
 | .int _ _,_,r=>by simp only [Rv] at r⊢;exact r
 | .str _,_,r=>by simp only [Rv] at r⊢;exact r
 | .ptr a q i j,v,r=>by simp only [Rv] at r⊢;obtain ⟨β,e,k⟩:=r;exact ⟨β,h _ _ _ e,k⟩
 | .nptr,_,r=>by simp only [Rv] at r⊢;exact r
 | .sl a q i n,v,r=>by
   simp only [Rv] at r⊢;obtain ⟨ad,c,e,hn,k⟩:=r;refine ⟨ad,c,e,hn,?_⟩;rcases k with k|⟨β,hb,k1,k2⟩
   .exact .inl k
   .exact .inr ⟨β,h _ _ _ hb,k1,k2⟩
 | .nsl,_,r=>by simp only [Rv] at r⊢;exact r
 | .zsl,_,r=>by simp only [Rv] at r⊢;exact r
 | .map a q,v,r=>by simp only [Rv] at r⊢;obtain ⟨β,e,k⟩:=r;exact ⟨β,h _ _ _ e,k⟩
 | .nmap,_,r=>by simp only [Rv] at r⊢;exact r
 | .fn f l,v,r=>by simp only [Rv] at r⊢;obtain ⟨vs,e,k⟩:=r;exact ⟨vs,e,Rvs.mono h l _ k⟩
 | .iface t s,v,r=>by simp only [Rv] at r⊢;obtain ⟨u,e,k⟩:=r;exact ⟨u,e,Rv.mono h s _ k⟩
 | .nif,_,r=>by simp only [Rv] at r⊢;exact r
 | .agg l,v,r=>by simp only [Rv] at r⊢;obtain ⟨vs,e,k⟩:=r;exact ⟨vs,e,Rvs.mono h l _ k⟩
 | .arr n l,v,r=>by simp only [Rv] at r⊢;exact r
 | .tup l,v,r=>by simp only [Rv] at r⊢;obtain ⟨vs,e,k⟩:=r;exact ⟨vs,e,Rvs.mono h l _ k⟩
 | .raw _,_,r=>by simp only [Rv] at r⊢;exact r
 | .unk,_,_=>by simp only [Rv]
theorem Rvs.mono {g g':G} (h:G.le g g'):∀(l:List SV) (vs:List Value),Rvs g l vs->Rvs g' l vs
 | [],_,r=>by simp only [Rvs] at r⊢;exact r
 |s::ss,vs,r=>by
  simp only [Rvs] at r⊢;obtain ⟨v,vs',e,h1,h2⟩:=r;exact ⟨v,vs',e,Rv.mono h s v h1,Rvs.mono h ss vs' h2⟩
end
theorem rvi {g:G} {k:IntKind} {n:Int}:Rv g (.int k n) (.int k n):=by simp only [Rv]
theorem rvb {g:G} {b:Bool}:Rv g (.bool b) (.bool b):=by simp only [Rv]
theorem rvt {g:G} {b:ByteArray}:Rv g (.str b) (.string b):=by simp only [Rv]
theorem G.le.refl (g:G):G.le g g:=fun _ _ _ h=>h
theorem G.le.trans {a b c:G} (h:G.le a b) (k:G.le b c):G.le a c:=fun _ _ _ hx=>k _ _ _ (h _ _ _ hx)
theorem Rvs.length {g:G}:∀(l:List SV) (vs:List Value),Rvs g l vs->vs.length=l.length
 | [],vs,r=>by simp only [Rvs] at r;simp [r]
 |s::ss,vs,r=>by
  simp only [Rvs] at r;obtain ⟨v,vs',e,_,h2⟩:=r;simp [e,Rvs.length ss vs' h2]
theorem a0S {α:Type} (l:List α) (i:Nat):nth l i=l[i]?:=by
 induction l generalizing i with
 |nil=>simp [nth]
 |cons x l ih=>cases i with
  |zero=>simp [nth]
  |succ i=>simp [nth,ih]
theorem Rvs.nth {g:G}:∀(l:List SV) (vs:List Value) (i:Nat) (sv:SV),Rvs g l vs->nth l i=some sv->∃v,vs[i]? =some v/\Rv g sv v
 | [],vs,i,sv,_,h=>by simp [Sy.nth] at h
 |s::ss,vs,i,sv,r,h=>by
  simp only [Rvs] at r;obtain ⟨v,vs',e,h1,h2⟩:=r;subst e;cases i with
  |zero=>simp [Sy.nth] at h;subst h;exact ⟨v,by simp,h1⟩
  |succ i=>simp only [Sy.nth] at h;obtain ⟨u,hu,hr⟩:=Rvs.nth ss vs' i sv h2 h;exact ⟨u,by simpa using hu,hr⟩
theorem p0d (g:G) (v:Value):Rv g (cv v) v:=by
 unfold cv;split<;>simp [Rv]
theorem f0y (g:G):∀l:List Value,Rvs g (l.map cv) l
 | []=>by simp [Rvs]
 |v::l=>by simp only [k0N,Rvs];exact ⟨v,l,rfl,p0d g v,f0y g l⟩
theorem Col.at_ok (g:G) (c:Col) (i:Nat):Rv g (c.at i) (c.val i):=by cases c<;>simp [Col.at,Col.val,Rv]
def b0r (g:G) (vs:VS) (a:Act):Prop:=∀t sv,a0B vs.env t=some sv->Rv g sv (a.tmps.getD t undef)
theorem a0w {g:G} {vs:VS} {a:Act} (hg:g.glob) (h:b0r g vs a) {x:Operand} {sv:SV} (hx:gv vs x=some sv):Rv g sv (a.eval x):=by
 cases x with
 |tmp t=>exact h t sv hx
 |const v=>simp only [gv,Option.some.injEq] at hx;subst hx;exact p0d g v
 |global n=>
  simp only [gv,Option.some.injEq] at hx;subst hx;obtain ⟨es,cap,e⟩:=hg n;simp only [Rv];exact ⟨_,e,by simp [Act.eval,Base.addr]⟩
 |func f=>
  simp only [gv] at hx;cases hb:Nat.blt f 1048576 with
  |false=>rw [hb] at hx;cases hx
  |true=>
   rw [hb] at hx;simp only [cond_true,Option.some.injEq] at hx;subst hx;simp only [Rv];exact ⟨#[],by rw [n0D hb];rfl,by simp [Rvs]⟩
theorem h0l {g:G} {vs:VS} {a:Act} (hg:g.glob) (R:b0r g vs a):∀(xs:List Operand) (l:List SV),gvs vs xs=some l->Rvs g l (xs.map a.eval)
 | [],l,h=>by simp only [gvs,Option.some.injEq] at h;subst h;simp [Rvs]
 |x::xs,l,h=>by
  simp only [gvs] at h;split at h
  .rename_i v hv;split at h
   .rename_i l' hl';simp only [Option.some.injEq] at h;subst h;simp only [Rvs,k0N];exact ⟨_,_,rfl,a0w hg R hv,h0l hg R xs l' hl'⟩
   .cases h
  .cases h
theorem b0s {a b:IntKind} (h:d0p a b=true):a=b:=by
 revert h;cases a<;>cases b<;>simp [d0p]
theorem b0c (a b:ByteArray):(a.toList==b.toList)=decide (a=b):=by
 rw [<-beq_toListBytes];by_cases h:a=b
 .subst h;rw [beq_toListBytes];simp
 .have:(a==b)=false:=by
   rw [beq_toListBytes,e1M,e1M];obtain ⟨⟨x⟩⟩:=a;obtain ⟨⟨y⟩⟩:=b;simp_all
  simp [this,h]
theorem b0x {α:Type} (k x:Nat) (v:α) (r:List (Nat×α)):a0B ((k,v)::r) x=if k=x then some v else a0B r x:=by
 simp only [a0B];by_cases h:k=x
 .subst h;simp
 .have:Nat.beq k x=false:=by
   cases hb:Nat.beq k x with
   |true=>exact absurd (c0k hb) h
   |false=>rfl
  simp [this,h]
theorem a0Q (k x:Nat) (v:Option HB) (r:a0g):a0x ((k,v)::r) x=if k=x then v else a0x r x:=by
 simp only [a0x];by_cases h:k=x
 .subst h;simp
 .have:Nat.beq k x=false:=by
   cases hb:Nat.beq k x with
   |true=>exact absurd (c0k hb) h
   |false=>rfl
  simp [this,h]
theorem Ent.fn {H:a0g} {h q:Nat} {ro ro':Bool} {b b':Blk} (x:Ent H h q ro b) (y:Ent H h q ro' b'):ro=ro'/\b=b':=by
 obtain ⟨hb,h1,h2,h3⟩:=x;obtain ⟨hb',k1,k2,k3⟩:=y;rw [h1] at k1;cases k1;refine ⟨h3.symm.trans k3,?_⟩;cases hb<;>simp only [HB.is] at h2 k2
 .rw [h2.2,k2.2]
 .rw [h2.2,k2.2]
theorem a0l {k:Nat} {v:Option HB} {H:a0g} {h q:Nat} {ro:Bool} {b:Blk}:Ent ((k,v)::H) h q ro b↔(k=h/\∃hb,v=some hb/\hb.is q b/\hb.ro=ro)\/(k≠h/\Ent H h q ro b):=by
 unfold Ent;rw [a0Q];by_cases e:k=h
 .simp [e]
 .simp [e]
theorem Res.is_guard {c:Prop} {R:Res} {r:SV} {U:a0g} {b:Nat} {t:List Nat}:(R.guard c).is r U b t↔c/\R.is r U b t:=by
 cases R<;>simp [Res.guard,Res.is,and_assoc]
theorem a0A {H:a0g} {h q:Nat} {F:Bool->Blk->Res} {r:SV} {U:a0g} {b:Nat} {t:List Nat} (hr:(b0w H h q F).is r U b t):∃ro bl,Ent H h q ro bl/\(F ro bl).is r U b t:=by
 unfold b0w at hr;split at hr
 .rename_i ro bl hh;split at hr
  .exact ⟨ro,bl,⟨_,hh,⟨rfl,rfl⟩,rfl⟩,hr⟩
  .exact hr.elim
 .rename_i ro dom f hh;rw [Res.is_guard] at hr;exact ⟨ro,f q,⟨_,hh,⟨hr.1,rfl⟩,rfl⟩,hr.2⟩
 .exact hr.elim
theorem l0h {b:Blk} {i:Nat} {R:Res} {r:SV} {U:a0g} {n:Nat} {t:List Nat} (hr:(b.elt i R).is r U n t):b.has i/\R.is r U n t:=by
 unfold Blk.elt at hr;split at hr
 .split at hr
  .exact ⟨rfl,hr⟩
  .exact hr.elim
 .rw [Res.is_guard] at hr;exact hr
 .exact hr.elim
theorem c0n (β:Base) (i j k:Nat):(β.addr i j).add k=β.addr i (j+k):=by
 unfold Addr.add Base.addr;split
 .rename_i h;subst h;rfl
 .simp [Nat.add_assoc]
theorem c0M (β:Base) (i k:Nat):(β.addr i 0).add (k*β.es)=β.addr (i+k) 0:=by
 rw [c0n];unfold Base.addr;simp only [n0r,i0s,Nat.add_mul];congr 1;omega
structure After (g:G) (H:a0g) (nx:Nat) (w:World) (r:SV) (U:a0g) (b:Nat) (g':G) (v:Value) (w':World):Prop where
 le:G.le g g'
 born:∀h q,g h q=none->¬(nx<=h/\h<nx+b)->g' h q=none
 rv:Rv g' r v
 heap:Holds g' (U++H) w'
 fr:Fr (d0o g H) w w'
 own:s0T g' (U++H) (d0o g H) w
theorem Fr.refl (W:Nat->Prop) (w:World):Fr W w w:=⟨rfl,rfl,rfl,d0M _,fun _ _ _=>rfl⟩
theorem d0t {g:G} {H:a0g} {nx:Nat} {w:World} {r:SV} {v:Value} (hH:Holds g H w) (hr:Rv g r v):After g H nx w r [] 0 g v w:=
 ⟨G.le.refl g,fun _ _ h _=>h,hr,hH,Fr.refl _ _,fun h q b β he hg hc=> .inl ⟨h,q,b,β,he,hg,hc,rfl⟩⟩
def Blk.plain:Blk->Prop
 | .obj _=>False
 |_=>True
theorem n0L {b:Blk} (h:b.plain) {g:G} {w:World} {β:Base}:b.Ok g w β:=by
 cases b<;>first|trivial|exact h.elim
theorem p0e {g g':G} {β:Base} {o:ObjS} {w w':World} (h:o.Ok g w β) (hg:G.le g g') (hw:w'.heap[β.blk]? =w.heap[β.blk]?):o.Ok g' w' β:=by
 cases o with
 |map ka ea n ks vs bs ck=>
  obtain ⟨es,e,m⟩:=h;exact ⟨es,by rw [hw];exact e,m.size,m.kl,m.vl,m.bl,m.nd,m.lt,fun i x hx=>⟨(m.row i x hx).1,(m.row i x hx).2.1,Rv.mono hg _ _ (m.row i x hx).2.2⟩⟩
 |iter h0 q bs ck sn=>obtain ⟨β',e1,e,e2⟩:=h;exact ⟨β',hg _ _ _ e1,by rw [hw];exact e,e2⟩
 |niter=>obtain ⟨a,b,c,e⟩:=h;exact ⟨a,b,c,by rw [hw];exact e⟩
 |siter s p=>exact hw.trans h
 |bld0 T=>exact hw.trans h
 |bld T h0 q n=>obtain ⟨β',e1,e⟩:=h;exact ⟨β',hg _ _ _ e1,hw.trans e⟩
 |brow T s=>obtain ⟨c,fz,e,k⟩:=h;exact ⟨c,fz,hw.trans e,k⟩
 |bag Q=>obtain ⟨a,c,v,n,es,hq,e,k⟩:=h;exact ⟨a,c,v,n,es,hq,hw.trans e,k⟩
theorem p0f {g g':G} {β:Base} {b:Blk} {w w':World} (h:b.Ok g w β) (hg:G.le g g') (hw:0<β.cap->w'.heap[β.blk]? =w.heap[β.blk]?):b.Ok g' w' β:=by
 cases b with
 |obj o=>exact ⟨h.1,h.2.1,p0e h.2.2 hg (hw h.1)⟩
 |_=>trivial
theorem b0o {g g':G} {β:Base} {ro:Bool} {b:Blk} {w w':World} (h:BlkAt g β ro b w) (hg:G.le g g') (hs:w.heap.size<=w'.heap.size) (hw:0<β.cap->w'.heap[β.blk]? =w.heap[β.blk]?):BlkAt g' β ro b w':=by
 refine ⟨fun hl=>r0k (h.lt hl) hs,h.es,h.len,h.cap,?_,?_,?_,p0f h.obj hg hw⟩
 .intro i j sv hi hj;have hc:=h.cap i hi;obtain ⟨v,h1,h2⟩:=h.cell i j sv hi hj;exact ⟨v,by rw [e1H (w:=w) (a:=β.addr i j) (hw (by omega))];exact h1,Rv.mono hg _ _ h2⟩
 .intro i j v hi hj hv;have hc:=h.cap i hi;rw [e1H (w:=w) (a:=β.addr i j) (hw (by omega))] at hv;exact h.one i j v hi hj hv
 .intro hr i j hi hj;obtain ⟨h1,v,h2⟩:=h.rw hr i j hi hj;have:=hw (by omega);exact ⟨by rw [World.frozen?_of_block (w:=w) (a:=β.addr i j) this];exact h1,v,by rw [e1H (w:=w) (a:=β.addr i j) this];exact h2⟩
theorem b0T {g g':G} {H U:a0g} {nx b:Nat} {w w':World} {r:SV} {v:Value} {h1 q1:Nat} {b1:Blk} {β1:Base} (hH:Holds g H w) (hle:G.le g g') (hborn:∀h q,g h q=none->¬(nx<=h/\h<nx+b)->g' h q=none) (hrv:Rv g' r v)
  (ent:∀h q ro b,Ent (U++H) h q ro b->(h=h1/\q=q1/\ro=false/\b=b1)\/(¬(h=h1/\q=q1)/\Ent H h q ro b))
  (hg1:g' h1 q1=some β1) (hB:BlkAt g' β1 false b1 w')
  (org:0<β1.cap->w.heap.size<=β1.blk\/∃h0 q0 b0 β0,Ent H h0 q0 false b0/\g h0 q0=some β0/\0<β0.cap/\β0.blk=β1.blk/\∀h q ro b,Ent (U++H) h q ro b->¬(h=h1/\q=q1)->¬(h=h0/\q=q0))
  (os:w'.os=w.os) (tape:w'.tape=w.tape) (out:w'.output=w.output) (size:w.heap.size<=w'.heap.size) (blk:∀k,k<w.heap.size->¬(0<β1.cap/\k=β1.blk)->w'.heap[k]? =w.heap[k]?):After g H nx w r U b g' v w':=by
 have apart:∀h q ro bb β,Ent (U++H) h q ro bb->¬(h=h1/\q=q1)->Ent H h q ro bb->g h q=some β->0<β.cap->0<β1.cap->β1.blk≠β.blk:=by
  intro h q ro bb β he hne heH hg hc hc1;rcases org hc1 with ho|⟨h0,q0,b0,β0,he0,hg0,hc0,eb,hno⟩
  .obtain ⟨β',e',hB'⟩:=hH.blk h q ro bb heH;rw [hg] at e';cases e';have:=hB'.lt hc;omega
  .rw [<-eb];exact hH.sep h0 q0 h q b0 ro bb β0 β (fun e=>hno h q ro bb he hne ⟨e.1.symm,e.2.symm⟩) he0 heH hg0 hg hc0 hc
 refine ⟨hle,hborn,hrv,⟨?_,?_⟩,⟨os,tape,out,size,?_⟩,?_⟩
 .intro h q ro bb he;rcases ent h q ro bb he with ⟨rfl,rfl,rfl,rfl⟩|⟨hne,heH⟩
  .exact ⟨β1,hg1,hB⟩
  .obtain ⟨β,hg,hB'⟩:=hH.blk h q ro bb heH;refine ⟨β,hle _ _ _ hg,b0o hB' hle size (fun hc=>blk _ (hB'.lt hc) ?_)⟩;rintro ⟨hc1,e⟩;exact apart h q ro bb β he hne heH hg hc hc1 e.symm
 .intro h q h' q' bb ro' bb' β β' hne he he' hg hg' hc hc';rcases ent h q false bb he with ⟨rfl,rfl,_,rfl⟩|⟨hn,heH⟩
  .rcases ent h' q' ro' bb' he' with ⟨e1,e2,_⟩|⟨hn',heH'⟩
   .exact absurd ⟨e1.symm,e2.symm⟩ hne
   .rw [hg1] at hg;cases hg;obtain ⟨β2,hg2,_⟩:=hH.blk h' q' ro' bb' heH';have:=hle _ _ _ hg2;rw [hg'] at this;cases this;exact apart h' q' ro' bb' β' he' hn' heH' hg2 hc' hc
  .obtain ⟨β2,hg2,_⟩:=hH.blk h q false bb heH;have e2:=hle _ _ _ hg2;rw [hg] at e2;cases e2;rcases ent h' q' ro' bb' he' with ⟨rfl,rfl,_,rfl⟩|⟨hn',heH'⟩
   .rw [hg1] at hg';cases hg';exact (apart h q false bb β he hn heH hg2 hc hc').symm
   .obtain ⟨β3,hg3,_⟩:=hH.blk h' q' ro' bb' heH';have e3:=hle _ _ _ hg3;rw [hg'] at e3;cases e3;exact hH.sep h q h' q' bb ro' bb' β β' hne heH heH' hg2 hg3 hc hc'
 .intro k hk hW;refine blk k hk ?_;rintro ⟨hc1,e⟩;rcases org hc1 with ho|⟨h0,q0,b0,β0,he0,hg0,hc0,eb,_⟩
  .omega
  .exact hW ⟨h0,q0,b0,β0,he0,hg0,hc0,by rw [eb,e]⟩
 .intro h q bb β he hg hc;rcases ent h q false bb he with ⟨rfl,rfl,_,rfl⟩|⟨hn,heH⟩
  .rw [hg1] at hg;cases hg;rcases org hc with ho|⟨h0,q0,b0,β0,he0,hg0,hc0,eb,_⟩
   .exact .inr ho
   .exact .inl ⟨h0,q0,b0,β0,he0,hg0,hc0,eb⟩
  .obtain ⟨β2,hg2,_⟩:=hH.blk h q false bb heH;have e2:=hle _ _ _ hg2;rw [hg] at e2;cases e2;exact .inl ⟨h,q,bb,β,heH,hg2,hc,rfl⟩
def G.add (g:G) (n:Nat) (β:Base):G:=fun h q=>if h=n/\q=0 then some β else g h q
theorem G.le_add {g:G} {n:Nat} (β:Base) (hn:g n 0=none):G.le g (g.add n β):=by
 intro h q β' e;unfold G.add;split
 .rename_i hh;rw [hh.1,hh.2,hn] at e;cases e
 .exact e
theorem h0m {g:G} {H:a0g} {nx:Nat} {w w':World} {r:SV} {v:Value} {b1:Blk} {β1:Base} (hH:Holds g H w) (hn:∀q,g nx q=none) (hrv:Rv (g.add nx β1) r v)
  (hB:BlkAt (g.add nx β1) β1 false b1 w') (org:0<β1.cap->w.heap.size<=β1.blk)
  (os:w'.os=w.os) (tape:w'.tape=w.tape) (out:w'.output=w.output) (size:w.heap.size<=w'.heap.size) (blk:∀k,k<w.heap.size->w'.heap[k]? =w.heap[k]?):After g H nx w r [(nx,some (.one false b1))] 1 (g.add nx β1) v w':=by
 refine b0T (h1:=nx) (q1:=0) (b1:=b1) (β1:=β1) hH (G.le_add β1 (hn 0)) ?_ hrv ?_ (by simp [G.add]) hB (fun hc=> .inl (org hc)) os tape out size (fun k hk _=>blk k hk)
 .intro h q hh hnn;unfold G.add;split
  .rename_i e;exact absurd ⟨Nat.le_of_eq e.1.symm,by omega⟩ hnn
  .exact hh
 .intro h q ro b he;simp only [i0k,y0V] at he;rcases a0l.1 he with ⟨e,hb,e1,e2,e3⟩|⟨e,he⟩
  .cases e1;simp only [HB.is] at e2;exact .inl ⟨e.symm,e2.1,e3.symm,e2.2⟩
  .exact .inr ⟨fun x=>e x.1.symm,he⟩
theorem m0H {H:a0g} {h q:Nat} {ro:Bool} {b b':Blk} (he:Ent H h q ro b):∃hb,a0x H h=some hb/\a0L H h q b'= [(h,some (hb.set q b'))]/\hb.ro=ro/\(hb.set q b').ro=ro/\∀x bb,(hb.set q b').is x bb↔(x=q/\bb=b')\/(x≠q/\hb.is x bb):=by
 obtain ⟨hb,e1,e2,e3⟩:=he;refine ⟨hb,e1,d0D e1,e3,?_,?_⟩
 .cases hb<;>exact e3
 .intro x bb;cases hb with
  |one r b0=>
   simp only [HB.is] at e2;simp only [HB.set,HB.is,e2.1];constructor
   .rintro ⟨rfl,rfl⟩;exact .inl ⟨rfl,rfl⟩
   .rintro (⟨rfl,rfl⟩|⟨h1,h2,_⟩)
    .exact ⟨rfl,rfl⟩
    .exact absurd h2 h1
  |fam r dom f=>
   simp only [HB.is] at e2;simp only [HB.set,HB.is];by_cases hx:x=q
   .subst hx;simp [e2.1]
   .simp [hx]
theorem t0e {H:a0g} {h q:Nat} {ro:Bool} {b:Blk} (he:Ent H h q ro b):∃hb,a0x H h=some hb/\d0Y H h q= [(h,hb.drop q)]/\∀hb',hb.drop q=some hb'->hb'.ro=hb.ro/\∀x bb,hb'.is x bb->x≠q/\hb.is x bb:=by
 obtain ⟨hb,e1,e2,e3⟩:=he;refine ⟨hb,e1,by simp [d0Y,e1],?_⟩;intro hb' e;cases hb with
 |one r b0=>simp [HB.drop] at e
 |fam r dom f=>
  simp only [HB.drop,Option.some.injEq] at e;subst e;refine ⟨rfl,?_⟩;intro x bb hx;simp only [HB.is] at hx⊢;exact ⟨hx.1.2,hx.1.1,hx.2⟩
theorem c0u {g:G} {H:a0g} {nx:Nat} {w w':World} {r:SV} {v:Value} {h q:Nat} {b b1:Blk} {β:Base} (hH:Holds g H w) (he:Ent H h q false b) (hg:g h q=some β) (hc:0<β.cap) (hrv:Rv g r v)
  (hB:BlkAt g β false b1 w')
  (os:w'.os=w.os) (tape:w'.tape=w.tape) (out:w'.output=w.output) (size:w.heap.size<=w'.heap.size) (blk:∀k,k<w.heap.size->k≠β.blk->w'.heap[k]? =w.heap[k]?):After g H nx w r (a0L H h q b1) 0 g v w':=by
 obtain ⟨hb,e1,e2,e3,e4,e5⟩:=m0H (b':=b1) he;have ent:∀h' q' ro' b',Ent (a0L H h q b1++H) h' q' ro' b'->(h'=h/\q'=q/\ro'=false/\b'=b1)\/(¬(h'=h/\q'=q)/\Ent H h' q' ro' b'):=by
  intro h' q' ro' b' hx;rw [e2] at hx;simp only [i0k,y0V] at hx;rcases a0l.1 hx with ⟨e,hb',k1,k2,k3⟩|⟨e,hx⟩
  .cases k1;subst e;rcases (e5 q' b').1 k2 with ⟨rfl,rfl⟩|⟨hne,hi⟩
   .exact .inl ⟨rfl,rfl,k3.symm.trans e4,rfl⟩
   .exact .inr ⟨fun x=>hne x.2,hb,e1,hi,e3.trans (e4.symm.trans k3)⟩
  .exact .inr ⟨fun x=>e x.1.symm,hx⟩
 refine b0T (h1:=h) (q1:=q) (b1:=b1) (β1:=β) hH (G.le.refl g) (fun _ _ h _=>h) hrv ent hg hB (fun _=> .inr ⟨h,q,b,β,he,hg,hc,rfl,fun _ _ _ _ _ hn=>hn⟩) os tape out size ?_;intro k hk hn;exact blk k hk (fun e=>hn ⟨hc,e⟩)
end Go.Sy
namespace Go.Sy
open Go.RowKit
section ops
variable {P:Program} {T:Tab} {g:G} {vs:VS} {a:Act} {w:World} {r:SV} {U:a0g} {b:Nat} {t:List Nat}
theorem a0i {c:Bool} {R:Res} (h:(bif c then R else .no).is r U b t):c=true/\R.is r U b t:=by cases c<;>simp_all [Res.is]
theorem c0g {c:Bool} {R:Res} (h:(bif c then .no else R).is r U b t):c=false/\R.is r U b t:=by cases c<;>simp_all [Res.is]
theorem h0n {t:TypeId} {ti:TI} (h:g0H P t=some ti):∃i d,P.info? t=some i/\P.underlying t=some d/\i.size=ti.size/\a0N d=ti.kind:=by
 unfold g0H at h;split at h
 .rename_i i d hi hd;simp only [Option.some.injEq] at h;subst h;exact ⟨i,d,hi,hd,rfl,rfl⟩
 .cases h
theorem h0o {t:TypeId} {ti:TI} (h:g0H P t=some ti) (w:World):(sizeOf t).run P w= .ok ti.size w:=by
 obtain ⟨i,d,hi,_,hs,_⟩:=h0n h;simp [sizeOf,typeInfo,hi,hs]
theorem p0g {t:TypeId} {ti:TI} (h:g0H P t=some ti) (w:World):(isAgg t).run P w= .ok ti.agg w:=by
 obtain ⟨i,d,_,hd,_,hk⟩:=h0n h;unfold TI.agg;rw [<-hk];cases d<;>simp [isAgg,run_underlying hd,a0N]<;>decide
theorem b0U {t:TypeId} {ti:TI} (h:g0H P t=some ti) {k:Nat} (hk:Nat.beq ti.kind k=true):∃d,P.underlying t=some d/\a0N d=k:=by
 obtain ⟨i,d,_,hd,_,hkd⟩:=h0n h;exact ⟨d,hd,by rw [hkd,c0k hk]⟩
theorem riv {k:IntKind} {n:Int} {v:Value} (h:Rv g (.int k n) v):v= .int k n:=by simpa only [Rv] using h
theorem rbv {b:Bool} {v:Value} (h:Rv g (.bool b) v):v= .bool b:=by simpa only [Rv] using h
theorem rtv {b:ByteArray} {v:Value} (h:Rv g (.str b) v):v= .string b:=by simpa only [Rv] using h
theorem rpv {h q i j:Nat} {v:Value} (r:Rv g (.ptr h q i j) v):∃β,g h q=some β/\v= .pointer (some (β.addr i j)):=by simpa only [Rv] using r
theorem rnv {v:Value} (r:Rv g .nptr v):v= .pointer none:=by simpa only [Rv] using r
theorem rsv {h q i n:Nat} {v:Value} (r:Rv g (.sl h q i n) v):∃a c,v= .slice a n c/\n<=c/\(c=0\/∃β,g h q=some β/\a=some (β.addr i 0)/\i+c<=β.cap):=by simpa only [Rv] using r
theorem rav {l:List SV} {v:Value} (r:Rv g (.agg l) v):∃vs,v= .agg vs/\Rvs g l vs.toList:=by simpa only [Rv] using r
theorem ruv {l:List SV} {v:Value} (r:Rv g (.tup l) v):∃vs,v= .tuple vs/\Rvs g l vs.toList:=by simpa only [Rv] using r
theorem b1y {n:Nat} {l:List Col} {v:Value} (r:Rv g (.arr n l) v):∃vs,v= .agg vs/\o0U n l vs:=by simpa only [Rv] using r
theorem q0w {op:BinOp} {k:IntKind} {x y:Int} (ty:TypeId) (hs:op≠.shl/\op≠.shr) (h:(q0k op k x y).is r U b t):
  U= []/\b=0/\∃v,Rv g r v/\∀w,(binOp op ty (.int k x) (.int k y)).run P w= .ok v w:=by
 cases op<;>simp only [q0k,Res.is,Res.one] at h<;>try exact h.elim
 case add=>obtain ⟨rfl,rfl,rfl,_⟩:=h;exact ⟨rfl,rfl,_,rvi,fun w=>by simp [binOp,Op.intArith]⟩
 case sub=>obtain ⟨rfl,rfl,rfl,_⟩:=h;exact ⟨rfl,rfl,_,rvi,fun w=>by simp [binOp,Op.intArith]⟩
 case mul=>obtain ⟨rfl,rfl,rfl,_⟩:=h;exact ⟨rfl,rfl,_,rvi,fun w=>by simp [binOp,Op.intArith]⟩
 case quo=>obtain ⟨h0,rfl,rfl,rfl,_⟩:=h;exact ⟨rfl,rfl,_,rvi,fun w=>by simp [binOp,Op.intDiv,h0]⟩
 case rem=>obtain ⟨h0,rfl,rfl,rfl,_⟩:=h;exact ⟨rfl,rfl,_,rvi,fun w=>by simp [binOp,Op.intDiv,h0]⟩
 case eql=>obtain ⟨rfl,rfl,rfl,_⟩:=h;exact ⟨rfl,rfl,_,rvb,fun w=>by simp [binOp,Op.intCmp];rfl⟩
 case neq=>obtain ⟨rfl,rfl,rfl,_⟩:=h;exact ⟨rfl,rfl,_,rvb,fun w=>by simp [binOp,Op.intCmp,bne];rfl⟩
 case lss=>obtain ⟨rfl,rfl,rfl,_⟩:=h;exact ⟨rfl,rfl,_,rvb,fun w=>by simp [binOp,Op.intCmp]⟩
 case leq=>obtain ⟨rfl,rfl,rfl,_⟩:=h;exact ⟨rfl,rfl,_,rvb,fun w=>by simp [binOp,Op.intCmp]⟩
 case gtr=>obtain ⟨rfl,rfl,rfl,_⟩:=h;exact ⟨rfl,rfl,_,rvb,fun w=>by simp [binOp,Op.intCmp]⟩
 case geq=>obtain ⟨rfl,rfl,rfl,_⟩:=h;exact ⟨rfl,rfl,_,rvb,fun w=>by simp [binOp,Op.intCmp]⟩
 case and=>obtain ⟨rfl,rfl,rfl,_⟩:=h;exact ⟨rfl,rfl,_,rvi,fun w=>by simp [binOp,Op.intBits,s0U]⟩
 case or=>obtain ⟨rfl,rfl,rfl,_⟩:=h;exact ⟨rfl,rfl,_,rvi,fun w=>by simp [binOp,Op.intBits,ior]⟩
 case xor=>obtain ⟨rfl,rfl,rfl,_⟩:=h;exact ⟨rfl,rfl,_,rvi,fun w=>by simp [binOp,Op.intBits,m0F]⟩
 case andNot=>obtain ⟨rfl,rfl,rfl,_⟩:=h;exact ⟨rfl,rfl,_,rvi,fun w=>by simp [binOp,Op.intBits,q0j]⟩
theorem q0x {op:BinOp} {x y:ByteArray} (ty:TypeId) (h:(q0l op x y).is r U b t):
  U= []/\b=0/\∃v,Rv g r v/\∀w,(binOp op ty (.string x) (.string y)).run P w= .ok v w:=by
 cases op<;>simp only [q0l,Res.is,Res.one] at h<;>try exact h.elim
 case add=>
  obtain ⟨h0,rfl,rfl,rfl,_⟩:=h;exact ⟨rfl,rfl,_,rvt,fun w=>by
   have h2:¬(((x.size+y.size:Nat):Int)>IntKind.i64.max):=by
    have:IntKind.i64.max=9223372036854775807:=by decide
    rw [this];omega
   simp only [binOp,Op.stringOp,if_neg h2];rfl⟩
 case eql=>obtain ⟨rfl,rfl,rfl,_⟩:=h;exact ⟨rfl,rfl,_,rvb,fun w=>by simp [binOp,Op.stringOp,b0c,seq]⟩
 case neq=>obtain ⟨rfl,rfl,rfl,_⟩:=h;exact ⟨rfl,rfl,_,rvb,fun w=>by simp [binOp,Op.stringOp,b0c,seq]⟩
 case lss=>obtain ⟨rfl,rfl,rfl,_⟩:=h;exact ⟨rfl,rfl,_,rvb,fun w=>by simp [binOp,Op.stringOp,c0J]⟩
 case leq=>obtain ⟨rfl,rfl,rfl,_⟩:=h;exact ⟨rfl,rfl,_,rvb,fun w=>by simp [binOp,Op.stringOp,c0J,b0c,seq]⟩
 case gtr=>obtain ⟨rfl,rfl,rfl,_⟩:=h;exact ⟨rfl,rfl,_,rvb,fun w=>by simp [binOp,Op.stringOp,c0J,b0c,seq]⟩
 case geq=>obtain ⟨rfl,rfl,rfl,_⟩:=h;exact ⟨rfl,rfl,_,rvb,fun w=>by simp [binOp,Op.stringOp,c0J]⟩
theorem f0b (op:BinOp) (t:TypeId) (x y:Operand) (k k':IntKind) (m n:Int) (w:World):(eqGuard op t x y (.int k m) (.int k' n)).run P w= .ok () w:=by
 cases op<;>simp [eqGuard]
theorem m0I (op:BinOp) (t:TypeId) (x y:Operand) (m n:ByteArray) (w:World):(eqGuard op t x y (.string m) (.string n)).run P w= .ok () w:=by
 cases op<;>simp [eqGuard]
theorem g0I (op:BinOp) (t:TypeId) (x y:Operand) (m n:Bool) (w:World):(eqGuard op t x y (.bool m) (.bool n)).run P w= .ok () w:=by
 cases op<;>simp [eqGuard]
theorem h0p (op:BinOp) (t:TypeId) (x y:Operand) (m n:Option Addr) (w:World):(eqGuard op t x y (.pointer m) (.pointer n)).run P w= .ok () w:=by
 cases op<;>simp [eqGuard]
theorem h0q (d:Nat) (xs ys:Array Value) (w:World):∀(fs:List Field) (i:Nat) (ks:List Nat) (l m:List SV) (r:Bool),a0Z P i fs=some ks->
  Rvs g l (xs.toList.drop i)->Rvs g m (ys.toList.drop i)->a0K ks l m=some r->(Op.eqFields (d+1) xs ys fs).run P w= .ok r w:=by
 intro fs;induction fs with
 |nil=>
  intro i ks l m r hf _ _ he;simp only [a0Z,Option.some.injEq] at hf;subst hf;cases l with
  |nil=>cases m with
   |nil=>simp only [a0K,Option.some.injEq] at he;subst he;simp [Op.eqFields]
   |cons _ _=>simp [a0K] at he
  |cons _ _=>simp [a0K] at he
 |cons f fs ih=>
  intro i ks l m r hf hx hy he;simp only [a0Z] at hf;cases hg:((f.name !="_")&& !Nat.beq (a0J P f.type) 0&&(f.offset==i)) with
  |false=>rw [hg] at hf;simp at hf
  |true=>
   rw [hg] at hf;simp only [cond_true] at hf;simp only [c0q,bne_iff_ne,ne_eq,beq_iff_eq] at hg;obtain ⟨⟨hname,_⟩,hoff⟩:=hg;split at hf
   .rename_i kr hkr;simp only [Option.some.injEq] at hf;subst hf;generalize hk:a0J P f.type=k at he;have step:∀(s t:SV) (ss ts:List SV),l=s::ss->m=t::ts->
      (∀u v,Rv g s u->Rv g t v->∃b c,r=(b&&c)/\a0K kr ss ts=some c/\(Op.equalIn (d+1) f.type u v).run P w= .ok b w)->(Op.eqFields (d+1) xs ys (f::fs)).run P w= .ok r w:=by
     intro s t ss ts hl hm key;subst hl;subst hm;simp only [Rvs] at hx hy;obtain ⟨u,us,hu,ru,rus⟩:=hx;obtain ⟨v,vs',hv,rv,rvs⟩:=hy;have hxu:xs[i]? =some u:=by
      have:xs.toList[i]? =some u:=by
       have h0:=congrArg (fun z:List Value=>z[0]?) hu;simpa using h0
      simpa using this
     have hyv:ys[i]? =some v:=by
      have:ys.toList[i]? =some v:=by
       have h0:=congrArg (fun z:List Value=>z[0]?) hv;simpa using h0
      simpa using this
     have hus:us=xs.toList.drop (i+1):=by
      have h0:=congrArg (fun z:List Value=>z.drop 1) hu;simp at h0;exact h0.symm
     have hvs:vs'=ys.toList.drop (i+1):=by
      have h0:=congrArg (fun z:List Value=>z.drop 1) hv;simp at h0;exact h0.symm
     rw [hus] at rus;rw [hvs] at rvs;have part1:∀(zs:Array Value) (z:Value),zs[i]? =some z->(part f.type zs f.offset).run P w= .ok z w:=by
      intro zs z hz;rw [hoff];have hk':=hk;unfold a0J at hk';split at hk'
      .rename_i hd;simp [part,isAgg,run_underlying hd,hz]
      .rename_i hd;simp [part,isAgg,run_underlying hd,hz]
      .rename_i hd;simp [part,isAgg,run_underlying hd,hz]
      .subst hk';cases s<;>cases t<;>simp [a0K] at he
     obtain ⟨b,c,hr,hc,hrun⟩:=key u v ru rv;have hi:=ih (i+1) kr ss ts c hkr rus rvs hc;simp only [Op.eqFields,hname,ne_eq,not_false_eq_true,if_true,e0M,part1 xs u hxu,part1 ys v hyv,d0N,hrun];cases b with
     |false=>simp [hr]
     |true=>simp [hr,hi]
    unfold a0J at hk;unfold a0K at he;split at he
    .exact absurd ‹k::kr= []› (by simp)
    .rename_i kr' p x l' q y m' e1;cases e1;cases hpq:d0p p q with
     |false=>rw [hpq] at he;simp at he
     |true=>
      rw [hpq] at he;simp only [cond_true] at he;have hpq':=b0s hpq;subst hpq';split at he
      .rename_i c hc;simp only [Option.some.injEq] at he;refine step _ _ _ _ rfl rfl fun u v ru rv=>⟨_,c,he.symm,hc,?_⟩
       have e1:=riv ru;have e2:=riv rv;subst e1;subst e2;split at hk<;>first|(rename_i hd;simp [Op.equalIn,run_underlying hd];done)|(rename_i hd;simp [Op.equalIn,run_underlying hd];rfl)|(exfalso;omega)
      .cases he
    .rename_i kr' x l' y m' e1;cases e1;split at he
     .rename_i c hc;simp only [Option.some.injEq] at he;refine step _ _ _ _ rfl rfl fun u v ru rv=>⟨_,c,he.symm,hc,?_⟩
      have e1:=rtv ru;have e2:=rtv rv;subst e1;subst e2;split at hk<;>first|(rename_i hd;simp [Op.equalIn,run_underlying hd,beq_toListBytes,b0c,seq];done)|(exfalso;omega)
     .cases he
    .rename_i kr' x l' y m' e1;cases e1;split at he
     .rename_i c hc;simp only [Option.some.injEq] at he;refine step _ _ _ _ rfl rfl fun u v ru rv=>⟨_,c,he.symm,hc,?_⟩
      have e1:=rbv ru;have e2:=rbv rv;subst e1;subst e2;split at hk<;>first|(rename_i hd;simp [Op.equalIn,run_underlying hd];done)|(exfalso;omega)
     .cases he
    .cases he
   .cases hf
theorem c0o:∀(ks1 kr:List Nat) (l m:List SV) (r:Bool),a0K (ks1++kr) l m=some r->∃l1 l2 m1 m2 b c,l=l1++l2/\m=m1++m2/\l1.length=ks1.length/\m1.length=ks1.length/\a0K ks1 l1 m1=some b/\a0K kr l2 m2=some c/\r=(b&&c)
 | [],kr,l,m,r,h=>⟨[],l,[],m,true,r,rfl,rfl,rfl,rfl,by simp [a0K],h,by simp⟩
 |k::ks1,kr,l,m,r,h=>by
  rw [i0k] at h;unfold a0K at h;split at h
  .exact absurd ‹k::(ks1++kr)= []› (by simp)
  .rename_i ks p x l' q y m' e1;cases e1;cases hpq:d0p p q with
   |false=>rw [hpq] at h;simp at h
   |true=>
    rw [hpq] at h;simp only [cond_true] at h;split at h
    .rename_i b0 hb0;simp only [Option.some.injEq] at h;subst h;obtain ⟨l1,l2,m1,m2,b,c,rfl,rfl,h1,h2,h3,h4,rfl⟩:=c0o ks1 kr _ _ _ hb0;exact ⟨.int p x::l1,l2,.int q y::m1,m2,decide (x=y)&&b,c,rfl,rfl,by simp [h1],by simp [h2],by simp [a0K,hpq,h3],h4,by rw [Bool.and_assoc]⟩
    .cases h
  .rename_i ks x l' y m' e1;cases e1;split at h
   .rename_i b0 hb0;simp only [Option.some.injEq] at h;subst h;obtain ⟨l1,l2,m1,m2,b,c,rfl,rfl,h1,h2,h3,h4,rfl⟩:=c0o ks1 kr _ _ _ hb0;exact ⟨.str x::l1,l2,.str y::m1,m2,seq x y&&b,c,rfl,rfl,by simp [h1],by simp [h2],by simp [a0K,h3],h4,by rw [Bool.and_assoc]⟩
   .cases h
  .rename_i ks x l' y m' e1;cases e1;split at h
   .rename_i b0 hb0;simp only [Option.some.injEq] at h;subst h;obtain ⟨l1,l2,m1,m2,b,c,rfl,rfl,h1,h2,h3,h4,rfl⟩:=c0o ks1 kr _ _ _ hb0;exact ⟨.bool x::l1,l2,.bool y::m1,m2,(x==y)&&b,c,rfl,rfl,by simp [h1],by simp [h2],by simp [a0K,h3],h4,by rw [Bool.and_assoc]⟩
   .cases h
  .cases h
theorem h0r:∀(l1 l2:List SV) (vs:List Value),Rvs g (l1++l2) vs->Rvs g l1 (vs.take l1.length)/\Rvs g l2 (vs.drop l1.length)
 | [],l2,vs,h=>⟨by simp [Rvs],h⟩
 |s::l1,l2,vs,h=>by
  rw [i0k] at h;simp only [Rvs] at h⊢;obtain ⟨v,vs',rfl,h1,h2⟩:=h;obtain ⟨q1,q2⟩:=h0r l1 l2 vs' h2;exact ⟨⟨v,vs'.take l1.length,rfl,h1,q1⟩,q2⟩
theorem q0y {t:TypeId} {ks:List Nat} (h:q0q P t=some ks):∃fs:Array Field,P.underlying t=some (.struct fs)/\P.stoodInHeld t=false/\a0Z P 0 fs.toList=some ks/\P.cellsOf t=ks.length:=by
 unfold q0q at h;split at h
 .rename_i fs hu;cases hs: !P.stoodInHeld t with
  |false=>rw [hs] at h;cases h
  |true=>
   rw [hs] at h;simp only [cond_true] at h;split at h
   .rename_i ks' hf;cases hc:Nat.beq (P.cellsOf t) ks'.length with
    |false=>rw [hc] at h;cases h
    |true=>
     rw [hc] at h;simp only [cond_true,Option.some.injEq] at h;subst h;exact ⟨fs,hu,by simpa using hs,hf,c0k hc⟩
   .cases h
 .cases h
theorem l0i {e':Nat} (d:Nat) (hde:e'=d+1) (xs ys:Array Value) (w:World):∀(fs:List Field) (i:Nat) (ks:List Nat) (l m:List SV) (r:Bool),l0e P i fs=some ks->
  Rvs g l (xs.toList.drop i)->Rvs g m (ys.toList.drop i)->a0K ks l m=some r->(Op.eqFields (e'+1) xs ys fs).run P w= .ok r w:=by
 intro fs;induction fs with
 |nil=>
  intro i ks l m r hf _ _ he;simp only [l0e,Option.some.injEq] at hf;subst hf;cases l with
  |nil=>cases m with
   |nil=>simp only [a0K,Option.some.injEq] at he;subst he;simp [Op.eqFields]
   |cons _ _=>simp [a0K] at he
  |cons _ _=>simp [a0K] at he
 |cons f fs ih=>
  intro i ks l m r hf hx hy he;simp only [l0e] at hf;cases hg:((f.name !="_")&&(f.offset==i)) with
  |false=>rw [hg] at hf;simp at hf
  |true=>
   rw [hg] at hf;simp only [cond_true] at hf;simp only [c0q,bne_iff_ne,ne_eq,beq_iff_eq] at hg;obtain ⟨hname,hoff⟩:=hg;cases hsc: !Nat.beq (a0J P f.type) 0 with
   |false=>
    rw [hsc] at hf;simp only [cond_false] at hf;split at hf
    .rename_i ks1 hin;split at hf
     .rename_i kr hkr;simp only [Option.some.injEq] at hf;subst hf;obtain ⟨l1,l2,m1,m2,b,c,rfl,rfl,hl1,hm1,hb,hc,rfl⟩:=c0o ks1 kr l m r he;obtain ⟨hx1,hx2⟩:=h0r l1 l2 _ hx;obtain ⟨hy1,hy2⟩:=h0r m1 m2 _ hy;rw [b1Z,hl1] at hx2;rw [b1Z,hm1] at hy2;rw [hl1] at hx1;rw [hm1] at hy1;obtain ⟨fs1,hu,hst,hff,hcs⟩:=q0y hin;have part1:∀(zs:Array Value),(part f.type zs f.offset).run P w= .ok (.agg (zs.extract i (i+ks1.length))) w:=by
       intro zs;rw [hoff];have hsz:(sizeOf f.type).run P w= .ok ks1.length w:=by
        have hi2:(P.info? f.type).isSome=true:=by
         unfold Program.underlying at hu;cases hi3:P.info? f.type with
         |none=>simp [hi3] at hu
         |some x=>rfl
        obtain ⟨x,hx3⟩:=u0k.1 hi2;have:P.cellsOf f.type=x.size:=by simp [Program.cellsOf,hx3]
        simp [sizeOf,typeInfo,hx3,<-hcs,this]
       simp [part,isAgg,run_underlying hu,hsz]
      have hfo:P.fieldsOf f.type=fs1:=by simp [Program.fieldsOf,hu]
      have hrun:(Op.equalIn (e'+1) f.type (.agg (xs.extract i (i+ks1.length))) (.agg (ys.extract i (i+ks1.length)))).run P w= .ok b w:=by
       rw [run_equalIn_struct w e' f.type _ _ (by rw [hfo];exact hu) hst,hfo,hde];refine h0q (g:=g) d _ _ w fs1.toList 0 ks1 l1 m1 b hff ?_ ?_ hb
       .simpa using hx1
       .simpa using hy1
      have hi:=ih (i+ks1.length) kr l2 m2 c hkr hx2 hy2 hc;simp only [Op.eqFields,hname,ne_eq,not_false_eq_true,if_true,e0M,part1 xs,part1 ys,d0N,hrun];cases b with
      |false=>simp
      |true=>simp [hi]
     .cases hf
    .cases hf
   |true=>
   rw [hsc] at hf;simp only [cond_true] at hf;split at hf
   .rename_i kr hkr;simp only [Option.some.injEq] at hf;subst hf;generalize hk:a0J P f.type=k at he;have step:∀(s t:SV) (ss ts:List SV),l=s::ss->m=t::ts->
      (∀u v,Rv g s u->Rv g t v->∃b c,r=(b&&c)/\a0K kr ss ts=some c/\(Op.equalIn (e'+1) f.type u v).run P w= .ok b w)->(Op.eqFields (e'+1) xs ys (f::fs)).run P w= .ok r w:=by
     intro s t ss ts hl hm key;subst hl;subst hm;simp only [Rvs] at hx hy;obtain ⟨u,us,hu,ru,rus⟩:=hx;obtain ⟨v,vs',hv,rv,rvs⟩:=hy;have hxu:xs[i]? =some u:=by
      have:xs.toList[i]? =some u:=by
       have h0:=congrArg (fun z:List Value=>z[0]?) hu;simpa using h0
      simpa using this
     have hyv:ys[i]? =some v:=by
      have:ys.toList[i]? =some v:=by
       have h0:=congrArg (fun z:List Value=>z[0]?) hv;simpa using h0
      simpa using this
     have hus:us=xs.toList.drop (i+1):=by
      have h0:=congrArg (fun z:List Value=>z.drop 1) hu;simp at h0;exact h0.symm
     have hvs:vs'=ys.toList.drop (i+1):=by
      have h0:=congrArg (fun z:List Value=>z.drop 1) hv;simp at h0;exact h0.symm
     rw [hus] at rus;rw [hvs] at rvs;have part1:∀(zs:Array Value) (z:Value),zs[i]? =some z->(part f.type zs f.offset).run P w= .ok z w:=by
      intro zs z hz;rw [hoff];have hk':=hk;unfold a0J at hk';split at hk'
      .rename_i hd;simp [part,isAgg,run_underlying hd,hz]
      .rename_i hd;simp [part,isAgg,run_underlying hd,hz]
      .rename_i hd;simp [part,isAgg,run_underlying hd,hz]
      .subst hk';cases s<;>cases t<;>simp [a0K] at he
     obtain ⟨b,c,hr,hc,hrun⟩:=key u v ru rv;have hi:=ih (i+1) kr ss ts c hkr rus rvs hc;simp only [Op.eqFields,hname,ne_eq,not_false_eq_true,if_true,e0M,part1 xs u hxu,part1 ys v hyv,d0N,hrun];cases b with
     |false=>simp [hr]
     |true=>simp [hr,hi]
    unfold a0J at hk;unfold a0K at he;split at he
    .exact absurd ‹k::kr= []› (by simp)
    .rename_i kr' p x l' q y m' e1;cases e1;cases hpq:d0p p q with
     |false=>rw [hpq] at he;simp at he
     |true=>
      rw [hpq] at he;simp only [cond_true] at he;have hpq':=b0s hpq;subst hpq';split at he
      .rename_i c hc;simp only [Option.some.injEq] at he;refine step _ _ _ _ rfl rfl fun u v ru rv=>⟨_,c,he.symm,hc,?_⟩
       have e1:=riv ru;have e2:=riv rv;subst e1;subst e2;split at hk<;>first|(rename_i hd;simp [Op.equalIn,run_underlying hd];done)|(rename_i hd;simp [Op.equalIn,run_underlying hd];rfl)|(exfalso;omega)
      .cases he
    .rename_i kr' x l' y m' e1;cases e1;split at he
     .rename_i c hc;simp only [Option.some.injEq] at he;refine step _ _ _ _ rfl rfl fun u v ru rv=>⟨_,c,he.symm,hc,?_⟩
      have e1:=rtv ru;have e2:=rtv rv;subst e1;subst e2;split at hk<;>first|(rename_i hd;simp [Op.equalIn,run_underlying hd,beq_toListBytes,b0c,seq];done)|(exfalso;omega)
     .cases he
    .rename_i kr' x l' y m' e1;cases e1;split at he
     .rename_i c hc;simp only [Option.some.injEq] at he;refine step _ _ _ _ rfl rfl fun u v ru rv=>⟨_,c,he.symm,hc,?_⟩
      have e1:=rbv ru;have e2:=rbv rv;subst e1;subst e2;split at hk<;>first|(rename_i hd;simp [Op.equalIn,run_underlying hd];done)|(exfalso;omega)
     .cases he
    .cases he
   .cases hf
def c0C (P:Program) (op:Op) (a:Act) (w:World) (v:Value):Prop:=∀o:Oper,o.op=op->(execOp a.eval o).run P w= .ok (.value v) w
theorem c0Z {op:BinOp} {c:Bool} (h:(c0X op c).is r U b t):U= []/\b=0/\((op= .eql/\r= .bool c)\/(op= .neq/\r= .bool (!c))):=by
 cases op<;>simp only [c0X,Res.is,Res.one] at h<;>try exact h.elim
 .obtain ⟨rfl,rfl,rfl,_⟩:=h;exact ⟨rfl,rfl,.inl ⟨rfl,rfl⟩⟩
 .obtain ⟨rfl,rfl,rfl,_⟩:=h;exact ⟨rfl,rfl,.inr ⟨rfl,rfl⟩⟩
theorem h0s (d:Nat) {ty e:TypeId} (c1 c2:Option Addr) (hd:P.underlying ty=some (.pointer e)) (hn:c1=none\/c2=none) (w:World):(Op.equalIn (d+1) ty (.pointer c1) (.pointer c2)).run P w= .ok (c1.isNone&&c2.isNone) w:=by
 rcases hn with rfl|rfl
 .simp [Op.equalIn,run_underlying hd]
 .cases c1<;>simp [Op.equalIn,run_underlying hd]
theorem j0W (hT:a0U P T) {op:BinOp} {ty t':TypeId} {x y:Operand} {c1 c2:Option Addr} (ex:a.eval x= .pointer c1) (ey:a.eval y= .pointer c2) (hn:c1=none\/c2=none)
  (h:(match a0B T ty with|some ti=>bif Nat.beq ti.kind 7 then c0X op (c1.isNone&&c2.isNone) else .no|none=> .no).is r U b t):U= []/\b=0/\∃v,Rv g r v/\c0C P (.binOp op ty x y t') a w v:=by
 split at h
 .rename_i ti hti;obtain ⟨hk,h2⟩:=a0i h;obtain ⟨d,hd,hkd⟩:=b0U (hT _ _ hti) hk;obtain ⟨e,hd'⟩:∃e,d= .pointer e:=by cases d<;>first|exact ⟨_,rfl⟩|(exact absurd hkd (by simp [a0N]))
  subst hd';have hq:∀w,(Op.equal ty (.pointer c1) (.pointer c2)).run P w= .ok (c1.isNone&&c2.isNone) w:=fun w=>h0s 9999 c1 c2 hd hn w
  obtain ⟨e1,e2,⟨rfl,rfl⟩|⟨rfl,rfl⟩⟩:=c0Z h2
  .refine ⟨e1,e2,_,rvb,fun o ho=> ?_⟩;simp only [execOp,ho,ex,ey,e0M,h0p,binOp,hq,d0N,i0S]
  .refine ⟨e1,e2,_,rvb,fun o ho=> ?_⟩;simp only [execOp,ho,ex,ey,e0M,h0p,binOp,hq,d0N,i0S]
 .exact h.elim
theorem h0t (op:BinOp) (t:TypeId) (x y:Operand) (m n:Option Nat) (w:World):(eqGuard op t x y (.map m) (.map n)).run P w= .ok () w:=by
 cases op<;>simp [eqGuard]
theorem j0e (op:BinOp) (t:TypeId) (x y:Operand) (m n:Option Addr) (i j k l:Nat) (w:World):(eqGuard op t x y (.slice m i j) (.slice n k l)).run P w= .ok () w:=by
 cases op<;>simp [eqGuard]
theorem h0u (d:Nat) {ty k e:TypeId} (c1:Option Nat) (hd:P.underlying ty=some (.map k e)) (w:World):(Op.equalIn (d+1) ty (.map c1) (.map none)).run P w= .ok c1.isNone w:=by
 cases c1<;>simp [Op.equalIn,run_underlying hd]
theorem i0F (d:Nat) {ty e:TypeId} (c1:Option Addr) (i j:Nat) (hd:P.underlying ty=some (.slice e)) (w:World):(Op.equalIn (d+1) ty (.slice c1 i j) (.slice none 0 0)).run P w= .ok c1.isNone w:=by
 cases c1<;>simp [Op.equalIn,run_underlying hd]
theorem n0M (hT:a0U P T) {op:BinOp} {ty t':TypeId} {x y:Operand} {c1:Option Nat} (ex:a.eval x= .map c1) (ey:a.eval y= .map none)
  (h:(match a0B T ty with|some ti=>bif Nat.beq ti.kind 8 then c0X op c1.isNone else .no|none=> .no).is r U b t):U= []/\b=0/\∃v,Rv g r v/\c0C P (.binOp op ty x y t') a w v:=by
 split at h
 .rename_i ti hti;obtain ⟨hk,h2⟩:=a0i h;obtain ⟨d,hd,hkd⟩:=b0U (hT _ _ hti) hk;obtain ⟨k,e,hd'⟩:∃k e,d= .map k e:=by cases d<;>first|exact ⟨_,_,rfl⟩|(exact absurd hkd (by simp [a0N]))
  subst hd';have hq:∀w,(Op.equal ty (.map c1) (.map none)).run P w= .ok c1.isNone w:=fun w=>h0u 9999 c1 hd w
  obtain ⟨e1,e2,⟨rfl,rfl⟩|⟨rfl,rfl⟩⟩:=c0Z h2
  .refine ⟨e1,e2,_,rvb,fun o ho=> ?_⟩;simp only [execOp,ho,ex,ey,e0M,h0t,binOp,hq,d0N,i0S]
  .refine ⟨e1,e2,_,rvb,fun o ho=> ?_⟩;simp only [execOp,ho,ex,ey,e0M,h0t,binOp,hq,d0N,i0S]
 .exact h.elim
theorem m0J (hT:a0U P T) {op:BinOp} {ty t':TypeId} {x y:Operand} {c1:Option Addr} {i j:Nat} (ex:a.eval x= .slice c1 i j) (ey:a.eval y= .slice none 0 0)
  (h:(match a0B T ty with|some ti=>bif Nat.beq ti.kind 6 then c0X op c1.isNone else .no|none=> .no).is r U b t):U= []/\b=0/\∃v,Rv g r v/\c0C P (.binOp op ty x y t') a w v:=by
 split at h
 .rename_i ti hti;obtain ⟨hk,h2⟩:=a0i h;obtain ⟨d,hd,hkd⟩:=b0U (hT _ _ hti) hk;obtain ⟨e,hd'⟩:∃e,d= .slice e:=by cases d<;>first|exact ⟨_,rfl⟩|(exact absurd hkd (by simp [a0N]))
  subst hd';have hq:∀w,(Op.equal ty (.slice c1 i j) (.slice none 0 0)).run P w= .ok c1.isNone w:=fun w=>i0F 9999 c1 i j hd w
  obtain ⟨e1,e2,⟨rfl,rfl⟩|⟨rfl,rfl⟩⟩:=c0Z h2
  .refine ⟨e1,e2,_,rvb,fun o ho=> ?_⟩;simp only [execOp,ho,ex,ey,e0M,j0e,binOp,hq,d0N,i0S]
  .refine ⟨e1,e2,_,rvb,fun o ho=> ?_⟩;simp only [execOp,ho,ex,ey,e0M,j0e,binOp,hq,d0N,i0S]
 .exact h.elim
theorem i0G (d:Nat) {ty:TypeId} {ms:Array (String×TypeId)} (tx:TypeId) (vx:Value) (hd:P.underlying ty=some (.interface ms)) (w:World):(Op.equalIn (d+1) ty (.iface tx vx) .nilIface).run P w= .ok false w:=by
 simp [Op.equalIn,run_underlying hd]
theorem h0v (d:Nat) {ty:TypeId} {ms:Array (String×TypeId)} (hd:P.underlying ty=some (.interface ms)) (w:World):(Op.equalIn (d+1) ty .nilIface .nilIface).run P w= .ok true w:=by
 simp [Op.equalIn,run_underlying hd]
theorem j0f (op:BinOp) (t:TypeId) (x y:Operand) (tx:TypeId) (vx:Value) (w:World):(eqGuard op t x y (.iface tx vx) .nilIface).run P w= .ok () w:=by
 cases op<;>simp [eqGuard]
theorem h0w (op:BinOp) (t:TypeId) (x y:Operand) (h:(isC x||isC y)=true) (w:World):(eqGuard op t x y .nilIface .nilIface).run P w= .ok () w:=by
 cases op<;>cases x<;>cases y<;>simp [eqGuard,isC] at h⊢
theorem w0e (hT:a0U P T) {op:BinOp} {ty t':TypeId} {x y:Operand} {tx:TypeId} {vx:Value} (ex:a.eval x= .iface tx vx) (ey:a.eval y= .nilIface)
  (h:(match a0B T ty with|some ti=>bif Nat.beq ti.kind 9 then c0X op false else .no|none=> .no).is r U b t):U= []/\b=0/\∃v,Rv g r v/\c0C P (.binOp op ty x y t') a w v:=by
 split at h
 .rename_i ti hti;obtain ⟨hk,h2⟩:=a0i h;obtain ⟨d,hd,hkd⟩:=b0U (hT _ _ hti) hk;obtain ⟨ms,hd'⟩:∃ms,d= .interface ms:=by cases d<;>first|exact ⟨_,rfl⟩|(exact absurd hkd (by simp [a0N]))
  subst hd';have hq:∀w,(Op.equal ty (.iface tx vx) .nilIface).run P w= .ok false w:=fun w=>i0G 9999 tx vx hd w
  obtain ⟨e1,e2,⟨rfl,rfl⟩|⟨rfl,rfl⟩⟩:=c0Z h2
  .refine ⟨e1,e2,_,rvb,fun o ho=> ?_⟩;simp only [execOp,ho,ex,ey,e0M,j0f,binOp,hq,d0N,i0S]
  .refine ⟨e1,e2,_,rvb,fun o ho=> ?_⟩;simp only [execOp,ho,ex,ey,e0M,j0f,binOp,hq,d0N,i0S]
 .exact h.elim
theorem t0f (hT:a0U P T) {op:BinOp} {ty t':TypeId} {x y:Operand} (ex:a.eval x= .nilIface) (ey:a.eval y= .nilIface)
  (h:(match a0B T ty with|some ti=>bif Nat.beq ti.kind 9&&(isC x||isC y) then c0X op true else .no|none=> .no).is r U b t):U= []/\b=0/\∃v,Rv g r v/\c0C P (.binOp op ty x y t') a w v:=by
 split at h
 .rename_i ti hti;obtain ⟨hk0,h2⟩:=a0i h;rw [c0q] at hk0;obtain ⟨hk,hc⟩:=hk0;obtain ⟨d,hd,hkd⟩:=b0U (hT _ _ hti) hk;obtain ⟨ms,hd'⟩:∃ms,d= .interface ms:=by cases d<;>first|exact ⟨_,rfl⟩|(exact absurd hkd (by simp [a0N]))
  subst hd';have hq:∀w,(Op.equal ty .nilIface .nilIface).run P w= .ok true w:=fun w=>h0v 9999 hd w
  obtain ⟨e1,e2,⟨rfl,rfl⟩|⟨rfl,rfl⟩⟩:=c0Z h2
  .refine ⟨e1,e2,_,rvb,fun o ho=> ?_⟩;simp only [execOp,ho,ex,ey,e0M,h0w _ ty x y hc,binOp,hq,d0N,i0S]
  .refine ⟨e1,e2,_,rvb,fun o ho=> ?_⟩;simp only [execOp,ho,ex,ey,e0M,h0w _ ty x y hc,binOp,hq,d0N,i0S]
 .exact h.elim
theorem b1U {t:Nat} {s:SV} {v:Value} (r:Rv g (.iface t s) v):∃u,v= .iface t u:=by simp only [Rv] at r;obtain ⟨u,e,_⟩:=r;exact ⟨u,e⟩
theorem t0g {v:Value} (r:Rv g .nif v):v= .nilIface:=by simpa only [Rv] using r
theorem m0K {e:TypeId} (h:Nat.beq (a0J P e) 2=true):∃k,P.underlying e=some (.int k):=by
 have h2:=c0k h;unfold a0J at h2;split at h2<;>first|omega|(exact ⟨_,by assumption⟩)
theorem g0J (d:Nat) {e:TypeId} {k0 k:IntKind} (he:P.underlying e=some (.int k0)) {xs ys:Array Value} {x y:List Int} {n:Nat} (hx:∀j,j<n->xs[j]? =some (.int k (x.getD j 0))) (hy:∀j,j<n->ys[j]? =some (.int k (y.getD j 0))) (w:World):∀is:List Nat,(∀j∈is,j<n)->(Op.eqItems (d+1) e 1 xs ys is).run P w= .ok (is.all (fun j=>decide (x.getD j 0=y.getD j 0))) w
 | [],_=>by simp [Op.eqItems]
 |j::is,h=>by
  have ih:=g0J d he hx hy w is (fun z hz=>h z (by simp [hz]));have hj:=h j (by simp);have p1:∀(zs:Array Value) (v:Value),zs[j]? =some v->(part e zs (j*1)).run P w= .ok v w:=by
   intro zs v hv;simp [part,isAgg,run_underlying he,hv]
  have p2:(Op.equalIn (d+1) e (.int k (x.getD j 0)) (.int k (y.getD j 0))).run P w= .ok (decide (x.getD j 0=y.getD j 0)) w:=by
   generalize x.getD j 0=u;generalize y.getD j 0=v;simp [Op.equalIn,run_underlying he];by_cases q:u=v<;>simp [q]
  simp only [Op.eqItems,e0M,p1 xs _ (hx j hj),p1 ys _ (hy j hj),p2,d0N,List.all_cons];cases hd:decide (x.getD j 0=y.getD j 0) with
  |false=>simp
  |true=>simp only [Bool.not_true,u0l,if_false,z0b];exact ih
theorem q0z {x y:List Int} {n:Nat} (hx:x.length=n) (hy:y.length=n):(List.range n).all (fun j=>decide (x.getD j 0=y.getD j 0))=decide (x=y):=by
 by_cases e:x=y
 .subst e;simp
 .rw [decide_eq_false e,Bool.eq_false_iff];intro h;refine e (e1F (by omega) fun j h1 h2=> ?_);have:=z0e.1 h j (q0f.2 (by omega));simpa [List.getD,h1,h2] using this
theorem n0N (hT:a0U P T) {op:BinOp} {ty t':TypeId} {x y:Operand} {n m:Nat} {p q:IntKind} {l1 l2:List Int} (hx:Rv g (.arr n [.ints p l1]) (a.eval x)) (hy:Rv g (.arr m [.ints q l2]) (a.eval y))
  (h:(match a0B T ty with|some ti=>bif Nat.beq ti.kind 5&&Nat.beq n ti.len&&Nat.beq m ti.len&&d0p p q&&(match ti.flat with| [2]=>true|_=>false) then c0X op (decide (l1=l2)) else .no|none=> .no).is r U b t):U= []/\b=0/\∃v,Rv g r v/\c0C P (.binOp op ty x y t') a w v:=by
 split at h
 .rename_i ti hti;obtain ⟨hk,h2⟩:=a0i h;simp only [c0q] at hk;obtain ⟨⟨⟨⟨c1,c2⟩,c3⟩,c4⟩,c5⟩:=hk;have c2:=c0k c2;have c3:=c0k c3;have c4:=b0s c4;subst c4;subst c2;have hti':=hT _ _ hti;unfold g0H at hti';split at hti'
  .rename_i i d hi hd;simp only [Option.some.injEq] at hti';cases d with
   |array n0 e=>
    have hlen:n0=ti.len:=by rw [<-hti']
    subst hlen;have hfl:(bif !P.eqGuardType P.depth ty&&Nat.beq (a0J P e) 2&&Nat.beq (P.cellsOf e) 1 then [2] else [])=ti.flat:=by rw [<-hti']
    cases hc:(!P.eqGuardType P.depth ty&&Nat.beq (a0J P e) 2&&Nat.beq (P.cellsOf e) 1) with
    |false=>rw [hc] at hfl;simp only [cond_false] at hfl;rw [<-hfl] at c5;simp at c5
    |true=>
     simp only [c0q,i0o] at hc;obtain ⟨⟨hg1,hg2⟩,hg3⟩:=hc;obtain ⟨k0,he⟩:=m0K hg2;have hce:=c0k hg3;simp only [Rv] at hx hy;obtain ⟨xs,ex,ox1,ox2,ox3⟩:=hx;obtain ⟨ys,ey,oy1,oy2,oy3⟩:=hy;have vx:∀j,j<ti.len->xs[j]? =some (.int p (l1.getD j 0)):=fun j hj=>by simpa [Col.val] using ox3 j 0 _ hj rfl
     have vy:∀j,j<ti.len->ys[j]? =some (.int p (l2.getD j 0)):=fun j hj=>by have:=oy3 j 0 _ (by omega) rfl;simpa [Col.val] using this
     have lx:l1.length=ti.len:=ox2 (.ints p l1) (by simp);have ly:l2.length=ti.len:=(oy2 (.ints p l2) (by simp)).trans c3;obtain ⟨ie,hie⟩:∃ie,P.info? e=some ie:=by
      unfold Program.underlying at he;cases hi3:P.info? e with
      |none=>simp [hi3] at he
      |some z=>exact ⟨z,rfl⟩
     have hrun':∀w,(Op.equalIn 10000 ty (.agg xs) (.agg ys)).run P w= .ok (decide (l1=l2)) w:=by
      intro w;rw [run_equalIn_array w 9999 xs ys hd hie,hce,g0J 9998 he vx vy w _ (fun j hj=>q0f.1 hj),q0z lx ly]
     obtain ⟨e1,e2,⟨rfl,rfl⟩|⟨rfl,rfl⟩⟩:=c0Z h2
     .refine ⟨e1,e2,_,rvb,fun o ho=> ?_⟩;simp only [execOp,ho,ex,ey,e0M,run_eqGuard_agg w _ ty x y xs ys hg1,run_eql_struct,hrun',d0N,i0S]
     .refine ⟨e1,e2,_,rvb,fun o ho=> ?_⟩;simp only [execOp,ho,ex,ey,e0M,run_eqGuard_agg w _ ty x y xs ys hg1,run_neq_struct,hrun',d0N,i0S]
   |_=>rw [<-hti'] at c1;exact absurd c1 (by simp [a0N])
  .cases hti'
 .exact h.elim
theorem j0g {q:IntKind}:∀{l:List SV} {x:List Int} {vals:List Value},d0X q l=some x->Rvs g l vals->vals=x.map (Value.int q)
 | [],x,vals,h,hv=>by
   simp only [d0X,Option.some.injEq] at h;simp only [Rvs] at hv;subst h hv;rfl
 |s::l,x,vals,h,hv=>by
  cases s with
  |int p y=>
   simp only [d0X] at h;obtain ⟨v,vs',rfl,h1,h2⟩:=hv;cases hk:d0p p q with
   |false=>rw [hk] at h;simp at h
   |true=>
    rw [hk,cond_true] at h;have hp:=b0s hk;subst hp;cases hr:d0X p l with
    |none=>rw [hr] at h;simp at h
    |some r=>
     rw [hr] at h;simp only [Option.some.injEq] at h;subst h;have ih:=j0g hr h2;subst ih;simp only [Rv] at h1;subst h1;rfl
  |_=>simp [d0X] at h
theorem q0A (hT:a0U P T) {op:BinOp} {ty t':TypeId} {x y:Operand} {m:Nat} {q:IntKind} {l:List SV} {l2:List Int} (hx:Rv g (.agg l) (a.eval x)) (hy:Rv g (.arr m [.ints q l2]) (a.eval y))
  (h:(match d0X q l with|some l1=>(match a0B T ty with|some ti=>bif Nat.beq ti.kind 5&&Nat.beq l.length ti.len&&Nat.beq m ti.len&&d0p q q&&(match ti.flat with| [2]=>true|_=>false) then c0X op (decide (l1=l2)) else .no|none=> .no)|none=> .no).is r U b t):U= []/\b=0/\∃v,Rv g r v/\c0C P (.binOp op ty x y t') a w v:=by
 split at h
 .rename_i l1 hl;refine n0N (t':=t') hT (n:=l.length) (p:=q) (l1:=l1) ?_ hy h;simp only [Rv] at hx⊢;obtain ⟨vs,e,hv⟩:=hx;have hvs:=j0g hl hv;have hlen:l.length=l1.length:=by
   have h1:=Rvs.length _ _ hv;rw [hvs,m0k] at h1;omega
  refine ⟨vs,e,?_,?_,?_⟩
  .rw [<-o0w,hvs];simp [hlen]
  .intro c hc;simp only [i0p] at hc;subst hc;simp [Col.len,hlen]
  .intro i j c hi hj;cases j with
   |zero=>
    simp only [nth,Option.some.injEq] at hj;subst hj;have:vs[i]? =vs.toList[i]?:=by simp
    simp only [x0C,b1G,n0r];rw [this,hvs,f0l,d0L (by omega)];simp [Col.val,List.getD,d0L (show i<l1.length by omega)]
   |succ j=>simp [nth] at hj
 .exact h.elim
theorem d1Q {h q:Nat} {v:Value} (r:Rv g (.map h q) v):∃b,v= .map (some b):=by simp only [Rv] at r;obtain ⟨β,_,e⟩:=r;exact ⟨_,e⟩
theorem w0f {v:Value} (r:Rv g .nmap v):v= .map none:=by simpa only [Rv] using r
theorem q0B {v:Value} (r:Rv g .nsl v):v= .slice none 0 0:=by simpa only [Rv] using r
theorem b1V {h q i n:Nat} {v:Value} (r:Rv g (.sl h q i (n+1)) v):∃a j k,v= .slice (some a) j k:=by
 simp only [Rv] at r;obtain ⟨a,c,e,hn,hc|⟨β,_,ha,_⟩⟩:=r
 .omega
 .exact ⟨_,_,_,by rw [e,ha]⟩
theorem w0g (hT:a0U P T) {op:BinOp} {ty t':TypeId} {x y:Operand} {s u:SV} (hx:Rv g s (a.eval x)) (hy:Rv g u (a.eval y)) (h:(b1P T op ty (isC x||isC y) s u).is r U b t):
  U= []/\b=0/\∃v,Rv g r v/\c0C P (.binOp op ty x y t') a w v:=by
 unfold b1P at h;split at h
 .rename_i k m _ n;obtain ⟨h0,rfl,rfl,rfl,_⟩:=h;refine ⟨rfl,rfl,_,rvi,fun o ho=> ?_⟩;have:¬n<0:=by omega
  simp [execOp,ho,riv hx,riv hy,f0b,binOp,Op.shift,this,d1z]
 .rename_i k m _ n;obtain ⟨h0,rfl,rfl,rfl,_⟩:=h;refine ⟨rfl,rfl,_,rvi,fun o ho=> ?_⟩;have:¬n<0:=by omega
  simp [execOp,ho,riv hx,riv hy,f0b,binOp,Op.shift,this,h0d]
 .rename_i op' p m q n h1 h2;obtain ⟨hpq,h2'⟩:=a0i h;have:=b0s hpq;subst this;obtain ⟨e1,e2,v,hr,hrun⟩:=q0w (P:=P) (g:=g) ty ⟨fun e=>h1 e,fun e=>h2 e⟩ h2';refine ⟨e1,e2,v,hr,fun o ho=> ?_⟩;simp [execOp,ho,riv hx,riv hy,f0b,hrun]
 .obtain ⟨e1,e2,v,hr,hrun⟩:=q0x (P:=P) (g:=g) ty h;refine ⟨e1,e2,v,hr,fun o ho=> ?_⟩;simp [execOp,ho,rtv hx,rtv hy,m0I,hrun]
 .rename_i op' m n;split at h
  .rename_i ti hti;obtain ⟨hk,h2⟩:=a0i h;obtain ⟨d,hd,hkd⟩:=b0U (hT _ _ hti) hk;have hd':d= .bool:=by cases d<;>first|rfl|(exact absurd hkd (by simp [a0N]))
   subst hd';have hq:∀w,(Op.equal ty (.bool m) (.bool n)).run P w= .ok (m==n) w:=fun w=>run_equalIn_bool w 9999 ty m n hd
   obtain ⟨e1,e2,⟨rfl,rfl⟩|⟨rfl,rfl⟩⟩:=c0Z h2
   .refine ⟨e1,e2,_,rvb,fun o ho=> ?_⟩;simp [execOp,ho,rbv hx,rbv hy,g0I,binOp,hq]
   .refine ⟨e1,e2,_,rvb,fun o ho=> ?_⟩;simp [execOp,ho,rbv hx,rbv hy,g0I,binOp,hq]
  .exact h.elim
 all_goals first
  |exact h.elim
  |(rename_i l m
    split at h
    .rename_i ti hti;obtain ⟨hk0,h2⟩:=a0i h;simp only [c0q] at hk0;obtain ⟨hk4,hk⟩:=hk0;split at h2
     .rename_i r0 hr0;obtain ⟨xs,ex,rx⟩:=rav hx;obtain ⟨ys,ey,ry⟩:=rav hy;have hti':=hT _ _ hti;unfold g0H at hti';split at hti'
      .rename_i i d hi hd;simp only [Option.some.injEq] at hti';cases d with
       |struct fs=>
        have hfl:(bif !P.stoodInHeld ty&& !P.eqGuardType P.depth ty then (l0e P 0 fs.toList).getD [] else [])=ti.flat:=by rw [<-hti']
        cases hc:(!P.stoodInHeld ty&& !P.eqGuardType P.depth ty) with
        |false=>rw [hc] at hfl;simp only [cond_false] at hfl;rw [<-hfl] at hk;simp at hk
        |true=>
         rw [hc] at hfl;simp only [cond_true] at hfl;simp only [c0q,i0o] at hc;have hff:P.fieldsOf ty=fs:=by simp [Program.fieldsOf,hd]
         cases hfk:l0e P 0 fs.toList with
         |none=>rw [hfk] at hfl;simp only [Option.getD_none] at hfl;rw [<-hfl] at hk;simp at hk
         |some ks=>
          rw [hfk] at hfl;simp only [o0y] at hfl;rw [<-hfl] at hr0;have hrun:∀w,(Op.equalIn (9998+2) ty (.agg xs) (.agg ys)).run P w= .ok r0 w:=by
           intro w;rw [run_equalIn_struct w 9999 ty xs ys (by rw [hff];exact hd) hc.1,hff];exact l0i 9997 rfl xs ys w fs.toList 0 ks l m r0 hfk (by simpa using rx) (by simpa using ry) hr0
          have hrun':∀w,(Op.equalIn 10000 ty (.agg xs) (.agg ys)).run P w= .ok r0 w:=hrun;obtain ⟨e1,e2,⟨rfl,rfl⟩|⟨rfl,rfl⟩⟩:=c0Z h2
          .refine ⟨e1,e2,_,rvb,fun o ho=> ?_⟩;simp only [execOp,ho,ex,ey,e0M,run_eqGuard_agg w _ ty x y xs ys hc.2,run_eql_struct,hrun',d0N,i0S]
          .refine ⟨e1,e2,_,rvb,fun o ho=> ?_⟩;simp only [execOp,ho,ex,ey,e0M,run_eqGuard_agg w _ ty x y xs ys hc.2,run_neq_struct,hrun',d0N,i0S]
       |_=>rw [<-hti'] at hk4;exact absurd hk4 (by simp [a0N])
      .cases hti'
     .exact h2.elim
    .exact h.elim)
  |(obtain ⟨β,_,ex⟩:=rpv hx;exact j0W hT ex (rnv hy) (.inr rfl) h)
  |(obtain ⟨β,_,ey⟩:=rpv hy;exact j0W hT (rnv hx) ey (.inl rfl) h)
  |exact j0W hT (rnv hx) (rnv hy) (.inl rfl) h
  |(obtain ⟨_,ex⟩:=d1Q hx;exact n0M hT ex (w0f hy) h)
  |exact n0M hT (w0f hx) (w0f hy) h
  |(obtain ⟨_,_,_,ex⟩:=b1V hx;exact m0J hT ex (q0B hy) h)
  |exact m0J hT (q0B hx) (q0B hy) h
  |(obtain ⟨_,ex⟩:=b1U hx;exact w0e hT ex (t0g hy) h)
  |exact t0f hT (t0g hx) (t0g hy) h
  |exact n0N hT hx hy h
  |exact q0A hT hx hy h
end ops
end Go.Sy
namespace Go.Sy
open Go.RowKit
section ops
variable {P:Program} {T:Tab} {g:G} {vs:VS} {a:Act} {w:World} {r:SV} {U:a0g} {b:Nat} {t:List Nat}
theorem l0j {t:TypeId} {ti:TI} (h:g0H P t=some ti) (hk:Nat.beq ti.kind 4=true) {f o n:Nat} {ag:Bool} (hf:nth ti.fields f=some (o,n,ag)) (hn:Nat.beq n 0=false):
  ∃fs fld,P.underlying t=some (.struct fs)/\fs[f]? =some fld/\fld.offset=o/\(∀w,(sizeOf fld.type).run P w= .ok n w)/\(∀w,(isAgg fld.type).run P w= .ok ag w):=by
 unfold g0H at h;split at h
 .rename_i i d hi hd;simp only [Option.some.injEq] at h;cases d with
  |struct fs=>
   rw [<-h] at hf;rw [a0S] at hf;simp only [f0l,n0q,z0h] at hf;obtain ⟨fld,hfld,e⟩:=hf;simp only [Prod.mk.injEq] at e;obtain ⟨e1,e2,e3⟩:=e;refine ⟨fs,fld,hd,hfld,e1,?_,?_⟩
   .unfold fsz at e2;split at e2
    .unfold Program.cellsOf at e2;cases hx:P.info? fld.type with
     |none=>rw [hx] at e2;simp at e2;rw [<-e2] at hn;simp at hn
     |some x=>rw [hx] at e2;simp at e2;intro w;simp [sizeOf,typeInfo,hx,e2]
    .rw [<-e2] at hn;simp at hn
   .unfold fsz at e2;split at e2
    .rename_i d' hd';intro w;rw [<-e3];unfold o0Z isAgg;simp only [e0M,run_underlying hd',d0N,hd'];cases d'<;>rfl
    .rw [<-e2] at hn;simp at hn
  |_=>rw [<-h] at hk;simp [a0N] at hk
 .cases h
theorem n0O:∀(n:Nat) (l:List SV) (vals:List Value) (r:List SV),Rvs g l vals->o0V n l=some r->Rvs g r (vals.take n)/\r.length=n
 |0,l,vals,r,_,h=>by simp only [o0V,Option.some.injEq] at h;subst h;simp [Rvs]
 |n+1,[],vals,r,_,h=>by simp [o0V] at h
 |n+1,s::l,vals,r,hr,h=>by
  simp only [o0V] at h;split at h
  .rename_i r' hr';simp only [Option.some.injEq] at h;subst h;simp only [Rvs] at hr;obtain ⟨v,vs',e,h1,h2⟩:=hr;subst e;obtain ⟨k1,k2⟩:=n0O n l vs' r' h2 hr';refine ⟨?_,by simp [k2]⟩;simp only [Rvs,e1N];exact ⟨v,_,rfl,h1,k1⟩
  .cases h
theorem n0P:∀(n:Nat) (l:List SV) (vals:List Value),Rvs g l vals->Rvs g (o0W n l) (vals.drop n)
 |0,l,vals,h=>by simpa [o0W] using h
 |n+1,[],vals,h=>by simp only [Rvs] at h;subst h;simp [o0W,Rvs]
 |n+1,s::l,vals,h=>by
  simp only [Rvs] at h;obtain ⟨v,vs',e,h1,h2⟩:=h;subst e;simpa [o0W] using n0P n l vs' h2
theorem n0Q {β:Base} {ro:Bool} {bl:Blk} (hB:BlkAt g β ro bl w) {i:Nat} (hi:bl.has i):∀(n j:Nat) (l:List SV),o0X bl i j n=some l->
  ∃vals:List Value,vals.length=n/\Rvs g l vals/\∀k v,vals[k]? =some v->w.cell? ((β.addr i j).add k)=some v
 |0,j,l,h=>by simp only [o0X,Option.some.injEq] at h;subst h;exact ⟨[],rfl,by simp [Rvs],by simp⟩
 |n+1,j,l,h=>by
  simp only [o0X] at h;split at h
  .rename_i s hs;split at h
   .rename_i l' hl';simp only [Option.some.injEq] at h;subst h;obtain ⟨vals,h1,h2,h3⟩:=n0Q hB hi n (j+1) l' hl';obtain ⟨v,hv,rv⟩:=hB.cell i j s hi hs;refine ⟨v::vals,by simp [h1],by simp only [Rvs];exact ⟨v,vals,rfl,rv,h2⟩,?_⟩;intro k u hu;cases k with
    |zero=>simp at hu;subst hu;rw [c0n];simpa using hv
    |succ k=>
     have:=h3 k u (by simpa using hu);rw [c0n] at this⊢;rw [show j+(k+1)=j+1+k from by omega];exact this
   .cases h
  .cases h
theorem l0k {s:SV} {v:Value} (hv:Rv g s v):∀(l:List SV) (vals:List Value) (j:Nat),Rvs g l vals->Rvs g (c0a l j s) (vals.set j v)
 | [],vals,j,h=>by simp only [Rvs] at h;subst h;simp [c0a,Rvs]
 |x::l,vals,0,h=>by
  simp only [Rvs] at h;obtain ⟨u,us,e,h1,h2⟩:=h;subst e;simp only [c0a,Rvs,List.set_cons_zero];exact ⟨v,us,rfl,hv,h2⟩
 |x::l,vals,j+1,h=>by
  simp only [Rvs] at h;obtain ⟨u,us,e,h1,h2⟩:=h;subst e;simp only [c0a,Rvs,List.set_cons_succ];exact ⟨u,_,rfl,h1,l0k hv l us j h2⟩
theorem c0E {α:Type}:∀(l:List α) (j:Nat) (v:α),(c0a l j v).length=l.length
 | [],_,_=>rfl
 |_::_,0,_=>rfl
 |_::l,j+1,v=>by simp [c0a,c0E l j v]
theorem e0S {α:Type}:∀(m:List α) (l:List α) (j:Nat),(c0c l j m).length=l.length
 | [],_,_=>rfl
 |v::m,l,j=>by rw [c0c,e0S m,c0E]
def f0c:List Value->Nat->List Value->List Value
 |l,_,[]=>l
 |l,j,v::r=>f0c (l.set j v) (j+1) r
theorem j0h:∀(m:List SV) (ms:List Value) (l:List SV) (vals:List Value) (j:Nat),Rvs g m ms->Rvs g l vals->Rvs g (c0c l j m) (f0c vals j ms)
 | [],ms,l,vals,j,hm,hl=>by simp only [Rvs] at hm;subst hm;simpa [c0c,f0c] using hl
 |s::m,ms,l,vals,j,hm,hl=>by
  simp only [Rvs] at hm;obtain ⟨u,us,e,h1,h2⟩:=hm;subst e;simp only [c0c,f0c];exact j0h m us _ _ _ h2 (l0k h1 l vals j hl)
theorem g0K:∀(ms:List Value) (off k:Nat) (cs:Array Value),((ms.zipIdx k).foldl (fun (cs:Array Value) (x:Value×Nat)=>cs.setIfInBounds (off+x.2) x.1) cs).toList=f0c cs.toList (off+k) ms
 | [],off,k,cs=>by simp [f0c]
 |v::ms,off,k,cs=>by
  simp only [List.zipIdx_cons,List.foldl_cons,f0c];rw [g0K ms off (k+1)];simp [Nat.add_assoc]
theorem SV.one_ok {s:SV} {v:Value} (h:s.one=true) (hv:Rv g s v):v.oneCell'=true/\v.cells= #[v]:=by
 cases s<;>simp [SV.one] at h<;>simp only [Rv] at hv
 case bool=>subst hv;exact ⟨rfl,rfl⟩
 case int=>subst hv;exact ⟨rfl,rfl⟩
 case str=>subst hv;exact ⟨rfl,rfl⟩
 case ptr=>obtain ⟨_,_,e⟩:=hv;subst e;exact ⟨rfl,rfl⟩
 case nptr=>subst hv;exact ⟨rfl,rfl⟩
 case sl=>obtain ⟨_,_,e,_⟩:=hv;subst e;exact ⟨rfl,rfl⟩
 case nsl=>subst hv;exact ⟨rfl,rfl⟩
 case zsl=>obtain ⟨_,e⟩:=hv;subst e;exact ⟨rfl,rfl⟩
 case map=>obtain ⟨_,_,e⟩:=hv;subst e;exact ⟨rfl,rfl⟩
 case nmap=>subst hv;exact ⟨rfl,rfl⟩
 case fn=>obtain ⟨_,e,_⟩:=hv;subst e;unfold fnV;cases Nat.blt _ 1048576<;>exact ⟨rfl,rfl⟩
 case iface=>obtain ⟨_,e,_⟩:=hv;subst e;exact ⟨rfl,rfl⟩
 case nif=>subst hv;exact ⟨rfl,rfl⟩
 case raw x=>subst hv;cases v<;>first|exact ⟨rfl,rfl⟩|simp at h
theorem b0V:∀(m:List SV) (ms:List Value),c0D m=true->Rvs g m ms->∀v∈ms,v.oneCell'=true
 | [],ms,_,h=>by simp only [Rvs] at h;subst h;simp
 |s::m,ms,ho,h=>by
  simp only [c0D,c0q] at ho;simp only [Rvs] at h;obtain ⟨v,vs',e,h1,h2⟩:=h;subst e;intro x hx;cases hx with
  |head=>exact (SV.one_ok ho.1 h1).1
  |tail _ hm=>exact b0V m vs' ho.2 h2 x hm
theorem SV.cells_ok {s:SV} {m:List SV} {v:Value} (h:s.cells=some m) (hv:Rv g s v):Rvs g m v.cells.toList:=by
 by_cases ho:s.one=true
 .have hc:=(SV.one_ok ho hv).2;have hm:m= [s]:=by
   cases s<;>simp [SV.one] at ho<;>first|(simp only [SV.cells,Option.some.injEq] at h;exact h.symm)|(rename_i x;cases x<;>first|(simp at ho;done)|(simp only [SV.cells,Option.some.injEq] at h;exact h.symm))
  subst hm;rw [hc];simp only [Rvs];exact ⟨v,[],rfl,hv,rfl⟩
 .cases s<;>simp [SV.one] at ho
  case agg l=>
   simp only [SV.cells,Option.some.injEq] at h;subst h;obtain ⟨xs,e,k⟩:=rav hv;subst e;exact k
  case raw x=>cases x<;>first|(simp [SV.cells] at h;done)|simp at ho
  all_goals simp [SV.cells] at h
theorem f0d {α:Type}:∀(m l:List α) (j x:Nat),j+m.length<=l.length->nth (c0c l j m) x=if j<=x/\x<j+m.length then nth m (x-j) else nth l x
 | [],l,j,x,_=>by simp only [c0c];rw [if_neg (by simp only [s0f];omega)]
 |v::m,l,j,x,h=>by
  simp only [m0j] at h;have hs:nth (c0a l j v) x=if x=j then some v else nth l x:=by
   have:∀(l:List α) (j x:Nat),j<l.length->nth (c0a l j v) x=if x=j then some v else nth l x:=by
    intro l;induction l with
    |nil=>intro j x hj;simp at hj
    |cons y l ih=>
     intro j x hj;cases j with
     |zero=>cases x<;>simp [c0a,nth]
     |succ j=>cases x with
      |zero=>simp [c0a,nth]
      |succ x=>simp only [c0a,nth];rw [ih j x (by simpa using hj)];simp
   exact this l j x (by omega)
  simp only [c0c];rw [f0d m (c0a l j v) (j+1) x (by rw [c0E];omega),hs];by_cases h1:x=j
  .subst h1;rw [if_neg (by omega),if_pos rfl,if_pos (by simp)];simp [nth]
  .rw [if_neg h1];by_cases h2:j+1<=x/\x<j+1+m.length
   .rw [if_pos h2,if_pos (by simp;omega),show x-j=(x-(j+1))+1 from by omega];simp [nth]
   .rw [if_neg h2,if_neg (by simp;omega)]
theorem f0z (P:Program) (b o:Nat):∀(vals:List Value) (i:Nat) (w:World),(∀v∈vals,v.oneCell'=true)->(∀j,j<vals.length->(∃u,w.cell? ⟨b,o+i+j,none⟩=some u)/\w.frozen? ⟨b,o+i+j,none⟩=false)->
  ∃w',(storeCells ⟨b,o,none⟩ vals i).run P w= .ok () w'/\w'.heap.size=w.heap.size/\w'.os=w.os/\w'.tape=w.tape/\w'.output=w.output/\(∀k,k≠b->w'.heap[k]? =w.heap[k]?)/\
   (∀x,w'.frozen? ⟨b,x,none⟩=w.frozen? ⟨b,x,none⟩)/\(∀x,w'.cell? ⟨b,x,none⟩=if o+i<=x/\x<o+i+vals.length then vals[x-(o+i)]? else w.cell? ⟨b,x,none⟩)
 | [],i,w,_,_=>⟨w,by simp [storeCells],rfl,rfl,rfl,rfl,fun _ _=>rfl,fun _=>rfl,fun x=>by rw [if_neg (by simp only [s0f];omega)]⟩
 |v::vals,i,w,hone,hc=>by
  obtain ⟨⟨u,hu⟩,hf⟩:=hc 0 (by simp);simp only [n0r] at hu hf;have hadd:(⟨b,o,none⟩:Addr).add i=⟨b,o+i,none⟩:=by
   unfold Addr.add;split
   .rename_i h;subst h;rfl
   .rfl
  have hrun:(store ((⟨b,o,none⟩:Addr).add i) v).run P w= .ok () (w.setCell ⟨b,o+i,none⟩ v):=by
   rw [run_store P w _ v _ (hone v (by simp)),hadd,hu,hf];simp
  have hblk:∃c t f,w.heap[b]? =some (.cells c t f)/\c[o+i]? =some u:=by
   unfold World.cell? at hu;split at hu
   .rename_i c t f hcs;exact ⟨c,t,f,hcs,by simpa using hu⟩
   .cases hu
  obtain ⟨c,t,f,hcs,hcu⟩:=hblk;have hnew:(w.setCell ⟨b,o+i,none⟩ v).heap[b]? =some (.cells (c.setIfInBounds (o+i) v) t f):=by
   simp [World.setCell,i0l,hcs]
  have hcell:∀x,(w.setCell ⟨b,o+i,none⟩ v).cell? ⟨b,x,none⟩=if x=o+i then some v else w.cell? ⟨b,x,none⟩:=by
   intro x;simp only [World.cell?,hnew,hcs];have hlt:o+i<c.size:=by
    rcases f0m (o+i) c.size with h|h
    .exact h
    .rw [w0B h] at hcu;cases hcu
   by_cases hx:x=o+i
   .subst hx;simp [hlt]
   .rw [if_neg hx];simp [b1O (Ne.symm hx)]
  have hfz:∀x,(w.setCell ⟨b,o+i,none⟩ v).frozen? ⟨b,x,none⟩=w.frozen? ⟨b,x,none⟩:=by
   intro x;simp only [World.frozen?,hnew,hcs]
  obtain ⟨w',h1,h2,h3,h4,h5,h6,h7,h8⟩:=f0z P b o vals (i+1) (w.setCell ⟨b,o+i,none⟩ v) (fun x hx=>hone x (by simp [hx])) (by
   intro j hj;obtain ⟨⟨u',hu'⟩,hf'⟩:=hc (j+1) (by simpa using hj);rw [show o+i+(j+1)=o+(i+1)+j from by omega] at hu' hf';refine ⟨?_,by rw [hfz];exact hf'⟩;rw [hcell];split
   .exact ⟨v,rfl⟩
   .exact ⟨u',hu'⟩)
  refine ⟨w',?_,?_,?_,?_,?_,?_,fun x=>(h7 x).trans (hfz x),?_⟩
  .simp only [storeCells,e0M,hrun,d0N];exact h1
  .rw [h2];simp [World.setCell]
  .rw [h3];rfl
  .rw [h4];rfl
  .rw [h5];rfl
  .intro k hk;rw [h6 k hk];exact Below.heap_setCell w ⟨b,o+i,none⟩ v k hk
  .intro x;rw [h8 x,hcell];by_cases h9:x=o+i
   .subst h9;rw [if_neg (by omega),if_pos rfl,if_pos (by simp)];simp
   .rw [if_neg h9];by_cases h10:o+(i+1)<=x/\x<o+(i+1)+vals.length
    .rw [if_pos h10,if_pos (by simp;omega)];rw [show x-(o+i)=(x-(o+(i+1)))+1 from by omega];simp
    .rw [if_neg h10,if_neg (by simp;omega)]
theorem j0X (hg:g.glob) (he:b0r g vs a) {pl place:Nat->Option (Nat×Nat)} (hpl:∀i o n,pl i=some (o,n)->place i=some (o,n)):
  ∀(ps:List (Nat×Operand)) (l l':List SV) (cs:Array Value),Rvs g l cs.toList->f0r vs pl ps l=some l'->
   ∃cs',Instr.fill place cs (ps.map fun p=>(p.1,a.eval p.2))=some cs'/\Rvs g l' cs'.toList
 | [],l,l',cs,hl,h=>by simp only [f0r,Option.some.injEq] at h;subst h;exact ⟨cs,rfl,hl⟩
 |(i,x)::ps,l,l',cs,hl,h=>by
  simp only [f0r] at h;split at h
  .rename_i o n s hp hx;split at h
   .rename_i m hm;cases hc:(Nat.beq m.length n&&Nat.ble (o+n) l.length) with
    |false=>rw [hc] at h;simp at h
    |true=>
     rw [hc] at h;simp only [cond_true,c0K] at h;simp only [c0q] at hc;have e1:=c0k hc.1;have e2:=k0S hc.2;have rc:=SV.cells_ok hm (a0w hg he hx);have lc:=Rvs.length _ _ rc;have ll:=Rvs.length _ _ hl;simp only [o0w] at lc ll;have hl2:=j0h m _ l cs.toList o rc hl;have hfold:=g0K (a.eval x).cells.toList o 0 cs;simp only [n0r] at hfold;rw [<-hfold] at hl2;obtain ⟨cs',h1,h2⟩:=j0X hg he hpl ps _ l' _ hl2 h;refine ⟨cs',?_,h2⟩;simp only [k0N,Instr.fill,hpl i o n hp];rw [if_neg (by simp;omega)];rw [<-h1];congr 1;rw [<-Array.foldl_toList];simp
   .cases h
  .cases h
theorem j0i (P:Program) (w:World):∀fs:List Field,(fs.all (fun f=>(P.info? f.type).isSome&&(P.underlying f.type).isSome))=true->
  (fs.mapM (m:=Sem) (fun f=>do pure (f.offset,<-sizeOf f.type))).run P w= .ok (fs.map fun f=>(f.offset,fsz P f.type)) w
 | [],_=>by simp
 |f::fs,h=>by
  simp only [List.all_cons,c0q,u0k] at h;obtain ⟨⟨⟨i,hi⟩,⟨d,hd⟩⟩,h2⟩:=h;have ih:=j0i P w fs h2;have hs:(sizeOf f.type).run P w= .ok i.size w:=by simp [sizeOf,typeInfo,hi]
  simp only [List.mapM_cons,e0M,k0N,hs,d0N,i0S,ih];simp [fsz,hd,Program.cellsOf,hi]
theorem e0d {α:Type} (es:Nat) (h0:0<es):∀(l:List α) (k i:Nat),(every es k l)[i]? =l[k+i*es]?
 | [],k,i=>by simp [every]
 |x::l,0,i=>by
  cases i with
  |zero=>simp [every]
  |succ i=>
   simp only [every,z0c,e0d es h0 l (es-1) i,i0s];rw [show (i+1)*es=(es-1+i*es)+1 from by rw [Nat.add_mul];omega];simp
 |x::l,k+1,i=>by
  simp only [every,e0d es h0 l k i];rw [show k+1+i*es=(k+i*es)+1 from by omega];simp
theorem j0j (k:IntKind):∀(l:List SV) (m:List Int),b0a k l=some m->m.length=l.length/\∀(i:Nat) (s:SV),l[i]? =some s->s= .int k (m.getD i 0)
 | [],m,h=>by simp only [b0a,Option.some.injEq] at h;subst h;simp
 | .int p x::l,m,h=>by
   simp only [b0a] at h;cases hp:d0p p k with
   |false=>rw [hp] at h;simp at h
   |true=>
    rw [hp] at h;have:=b0s hp;subst this;simp only [cond_true] at h;split at h
    .rename_i l' hl';simp only [Option.some.injEq] at h;subst h;obtain ⟨h1,h2⟩:=j0j p l l' hl';refine ⟨by simp [h1],?_⟩;intro i s hs;cases i with
     |zero=>simp at hs;subst hs;simp
     |succ i=>simp at hs;simpa using h2 i s hs
    .cases h
 | .bool _::_,m,h=>by simp [b0a] at h
 | .str _::_,m,h=>by simp [b0a] at h
 | .ptr _ _ _ _::_,m,h=>by simp [b0a] at h
 | .nptr::_,m,h=>by simp [b0a] at h
 | .sl _ _ _ _::_,m,h=>by simp [b0a] at h
 | .nsl::_,m,h=>by simp [b0a] at h
 | .zsl::_,m,h=>by simp [b0a] at h
 | .map _ _::_,m,h=>by simp [b0a] at h
 | .nmap::_,m,h=>by simp [b0a] at h
 | .fn _ _::_,m,h=>by simp [b0a] at h
 | .iface _ _::_,m,h=>by simp [b0a] at h
 | .nif::_,m,h=>by simp [b0a] at h
 | .agg _::_,m,h=>by simp [b0a] at h
 | .arr _ _::_,m,h=>by simp [b0a] at h
 | .tup _::_,m,h=>by simp [b0a] at h
 | .raw _::_,m,h=>by simp [b0a] at h
 | .unk::_,m,h=>by simp [b0a] at h
theorem p0h:∀(l:List SV) (m:List ByteArray),h0e l=some m->m.length=l.length/\∀(i:Nat) (s:SV),l[i]? =some s->s= .str (m.getD i ⟨#[]⟩):=by
 intro l;induction l with
 |nil=>intro m h;simp only [h0e,Option.some.injEq] at h;subst h;simp
 |cons v l ih=>
  intro m h;cases v<;>simp only [h0e] at h<;>try (cases h;done)
  split at h
  .rename_i l' hl';simp only [Option.some.injEq] at h;subst h;obtain ⟨h1,h2⟩:=ih l' hl';refine ⟨by simp [h1],?_⟩;intro i s hs;cases i with
   |zero=>simp at hs;subst hs;simp
   |succ i=>simp at hs;simpa using h2 i s hs
  .cases h
theorem m0L:∀(l:List SV) (m:List Bool),f0s l=some m->m.length=l.length/\∀(i:Nat) (s:SV),l[i]? =some s->s= .bool (m.getD i false):=by
 intro l;induction l with
 |nil=>intro m h;simp only [f0s,Option.some.injEq] at h;subst h;simp
 |cons v l ih=>
  intro m h;cases v<;>simp only [f0s] at h<;>try (cases h;done)
  split at h
  .rename_i l' hl';simp only [Option.some.injEq] at h;subst h;obtain ⟨h1,h2⟩:=ih l' hl';refine ⟨by simp [h1],?_⟩;intro i s hs;cases i with
   |zero=>simp at hs;subst hs;simp
   |succ i=>simp at hs;simpa using h2 i s hs
  .cases h
theorem j0Y {l:List SV} {c:Col} (h:q0m l=some c):c.len=l.length/\∀(i:Nat) (s:SV),l[i]? =some s->s=c.at i:=by
 unfold q0m at h;split at h
 .split at h
  .rename_i m hm;simp only [Option.some.injEq] at h;subst h;exact j0j _ _ m hm
  .cases h
 .split at h
  .rename_i m hm;simp only [Option.some.injEq] at h;subst h;exact p0h _ m hm
  .cases h
 .split at h
  .rename_i m hm;simp only [Option.some.injEq] at h;subst h;exact m0L _ m hm
  .cases h
 .cases h
theorem g0L {α:Type} {es n j:Nat} {l:List α} (hj:j<es) (hn:l.length=n*es):(every es j l).length=n:=by
 have key:∀i,i<(every es j l).length↔i<n:=by
  intro i;have h:=e0d es (by omega) l j i;constructor
  .intro hi;rw [d0L hi] at h;have:j+i*es<l.length:=by
    rcases f0m (j+i*es) l.length with h'|h'
    .exact h'
    .rw [f0k h'] at h;cases h
   rcases f0m i n with h'|h'
   .exact h'
   .have:=j0c es h';omega
  .intro hi;have hlt:j+i*es<l.length:=by
    have:(i+1)*es<=n*es:=j0c _ hi;rw [Nat.add_mul] at this;omega
   rw [d0L hlt] at h;rcases f0m i (every es j l).length with h'|h'
   .exact h'
   .rw [f0k h'] at h;cases h
 rcases v0n (every es j l).length n with h|h|h
 .exact absurd ((key _).2 h) (w0z _)
 .exact h
 .exact absurd ((key _).1 h) (w0z _)
theorem Col.at_val {c:Col} {i:Nat} {v:Value} (h:Rv g (c.at i) v):v=c.val i:=by cases c<;>simpa [Col.at,Col.val,Rv] using h
theorem h0x (es:Nat) (l:List SV):∀(n j:Nat) (cs:List Col),f0t es l j n=some cs->cs.length=n/\∀x c,nth cs x=some c->q0m (every es (j+x) l)=some c
 |0,j,cs,h=>by simp only [f0t,Option.some.injEq] at h;subst h;simp [nth]
 |n+1,j,cs,h=>by
  simp only [f0t] at h;split at h
  .rename_i c r hc hr;simp only [Option.some.injEq] at h;subst h;obtain ⟨h1,h2⟩:=h0x es l n (j+1) r hr;refine ⟨by simp [h1],?_⟩;intro x c' hx;cases x with
   |zero=>simp only [nth,Option.some.injEq] at hx;subst hx;exact hc
   |succ x=>simp only [nth] at hx;have:=h2 x c' hx;rwa [show j+1+x=j+(x+1) from by omega] at this
  .cases h
theorem b0y {α:Type} {l:List α} {i:Nat} {x:α} (h:nth l i=some x):i<l.length:=by
 rw [a0S] at h;rcases f0m i l.length with h1|h1
 .exact h1
 .rw [f0k h1] at h;cases h
theorem g0j {es n:Nat} {l:List SV} {cs:List Col} {vals:List Value} (h:i0V es l=some cs) (hn:l.length=n*es) (hv:Rvs g l vals):cs.length=es/\o0U n cs vals.toArray:=by
 obtain ⟨h1,h2⟩:=h0x es l es 0 cs h;refine ⟨h1,?_,?_,?_⟩
 .simp [Rvs.length _ _ hv,hn,h1]
 .intro c hc;obtain ⟨j,hj,e⟩:=t0H hc;have:=h2 j c (by rw [a0S,d0L hj,e]);rw [(j0Y this).1];exact g0L (by omega) hn
 .intro i j c hi hj;have hjl:=b0y hj;rw [h1] at hjl⊢;have hc:=h2 j c hj;rw [i0s] at hc;have hlt:j+i*es<l.length:=by
   rw [hn];have:(i+1)*es<=n*es:=j0c _ hi;rw [Nat.add_mul] at this;omega
  have he:=e0d es (by omega) l j i;rw [d0L hlt] at he;have hs:=(j0Y hc).2 i _ he;obtain ⟨v,hv1,hv2⟩:=Rvs.nth l vals (j+i*es) l[j+i*es] hv (by rw [a0S];exact d0L hlt);rw [hs] at hv2;rw [show i*es+j=j+i*es from by omega];simp only [x0D,hv1,Col.at_val hv2]
theorem v0f:∀(l:List BCol) (cs:List Col),scs l=some cs->cs.length=l.length/\∀j,nth l j=(nth cs j).map .sc
 | [],cs,h=>by simp only [scs,Option.some.injEq] at h;subst h;simp [nth]
 | .sc c::l,cs,h=>by
   simp only [scs] at h;split at h
   .rename_i r hr;simp only [Option.some.injEq] at h;subst h;obtain ⟨h1,h2⟩:=v0f l r hr;refine ⟨by simp [h1],?_⟩;intro j;cases j with
    |zero=>simp [nth]
    |succ j=>simp [nth,h2 j]
   .cases h
 | .svs _::l,cs,h=>by simp [scs] at h
theorem c0N:∀(cs:List Col),(a0W cs).length=cs.length/\∀j,nth (a0W cs) j=(nth cs j).map .sc
 | []=>by simp [a0W,nth]
 |c::cs=>by
  obtain ⟨h1,h2⟩:=c0N cs;refine ⟨by simp [a0W,h1],?_⟩;intro j;cases j with
  |zero=>simp [a0W,nth]
  |succ j=>simp [a0W,nth,h2 j]
end ops
end Go.Sy
namespace Go.Sy
open Go.RowKit
def Ran (P:Program) (a:Act) (o:Oper) (w:World) (v:Value) (w':World):Prop:=(execOp a.eval o).run P w= .ok (.value v) w'\/((execOp a.eval o).run P w= .ok .skip w'/\v=undef)
def b0h (P:Program) (a:Act) (o:Oper) (w:World) (g:G) (H:a0g) (nx:Nat) (r:SV) (U:a0g) (b:Nat):Prop:=∃v w' g',Ran P a o w v w'/\After g H nx w r U b g' v w'
section ops
variable {P:Program} {T:Tab} {g:G} {vs:VS} {a:Act} {w:World} {r:SV} {U:a0g} {b:Nat} {t:List Nat} {H:a0g} {nx:Nat}
theorem b0l {o:Oper} {v:Value} (hH:Holds g H w) (hv:Rv g r v) (hy:c0C P o.op a w v):b0h P a o w g H nx r [] 0:=
 ⟨v,w,g,.inl (hy o rfl),d0t hH hv⟩
theorem j0k {i i' j j' es:Nat} (h:i<i') (hj:j<es):i*es+j<i'*es+j':=by
 have:(i+1)*es<=i'*es:=j0c _ h;rw [Nat.add_mul] at this;omega
theorem d0a {i j es n:Nat} (hi:i<n) (hj:j<es):i*es+j<n*es:=by
 have:(i+1)*es<=n*es:=j0c _ hi;rw [Nat.add_mul] at this;omega
theorem q0C {cs:Array Value} {ty:TypeId} {bl:Blk} {cap:Nat} {w':World} {fz:Nat×Nat} (hw:w'.heap=w.heap.push (.cells cs ty fz)) (hfz:fz=(0,0)\/fz=(cs.size,cs.size+1)) (hn:g nx 0=none) (hlen:bl.lenOk) (hone:∀v∈cs.toList,v.oneCell'=true) (hsz:cap*bl.es<=cs.size) (hhas:∀i,bl.has i->i<cap)
  (hcell:∀i j sv,bl.has i->bl.at i j=some sv->∃v,cs[i*bl.es+j]? =some v/\Rv g sv v) (hpl:bl.plain:=by exact trivial):BlkAt (g.add nx ⟨w.heap.size,0,bl.es,cap⟩) ⟨w.heap.size,0,bl.es,cap⟩ false bl w':=by
 have a0x:w'.heap[w.heap.size]? =some (.cells cs ty fz):=by rw [hw];simp
 have hc:∀x,w'.cell? ⟨w.heap.size,x,none⟩=cs[x]?:=by intro x;simp [World.cell?,a0x]
 have hf:∀x,x<cs.size->w'.frozen? ⟨w.heap.size,x,none⟩=false:=by
  intro x hx;rcases hfz with rfl|rfl
  .simp [World.frozen?,a0x]
  .simp [World.frozen?,a0x];omega
 have ha:∀i j,(⟨w.heap.size,0,bl.es,cap⟩:Base).addr i j=⟨w.heap.size,i*bl.es+j,none⟩:=by intro i j;simp [Base.addr]
 refine ⟨fun _=>by rw [hw];simp,rfl,hlen,hhas,?_,?_,?_,n0L hpl⟩
 .intro i j sv hi hj;obtain ⟨v,h1,h2⟩:=hcell i j sv hi hj;exact ⟨v,by rw [ha,hc];exact h1,Rv.mono (G.le_add _ hn) _ _ h2⟩
 .intro i j v _ _ hv;rw [ha,hc] at hv;exact hone v (by have:=Array.mem_of_getElem? hv;simpa using this)
 .intro _ i j hi hj;have:i*bl.es+j<cs.size:=r0k (d0a hi hj) hsz;refine ⟨by rw [ha];exact hf _ this,?_⟩;exact ⟨cs[i*bl.es+j],by rw [ha,hc];exact d0k this⟩
theorem e0e {cs:Array Value} {ty:TypeId} {bl:Blk} {cap:Nat} {v:Value} {w':World} {fz:Nat×Nat} (hfz:fz=(0,0)\/fz=(cs.size,cs.size+1)) (hH:Holds g H w) (hw:w'.heap=w.heap.push (.cells cs ty fz)) (hos:w'.os=w.os) (htp:w'.tape=w.tape) (hout:w'.output=w.output) (hn:∀q,g nx q=none) (hlen:bl.lenOk) (hone:∀v∈cs.toList,v.oneCell'=true) (hsz:cap*bl.es<=cs.size) (hhas:∀i,bl.has i->i<cap)
  (hcell:∀i j sv,bl.has i->bl.at i j=some sv->∃v,cs[i*bl.es+j]? =some v/\Rv g sv v) (hrv:Rv (g.add nx ⟨w.heap.size,0,bl.es,cap⟩) r v) (hpl:bl.plain:=by exact trivial):
  After g H nx w r [(nx,some (.one false bl))] 1 (g.add nx ⟨w.heap.size,0,bl.es,cap⟩) v w':=
 h0m hH hn hrv (q0C hw hfz (hn 0) hlen hone hsz hhas hcell hpl) (fun _=>d0M _) hos htp hout (by rw [hw];simp) (fun k hk=>by rw [hw,w0C hk];exact (d0k hk).symm)
theorem w0h {bl:Blk} {cap:Nat}:Rv (g.add nx ⟨w.heap.size,0,bl.es,cap⟩) (.ptr nx 0 0 0) (.pointer (some ⟨w.heap.size,0,none⟩)):=by
 simp only [Rv];exact ⟨⟨w.heap.size,0,bl.es,cap⟩,by simp only [G.add,and_self,if_true],by simp [Base.addr]⟩
theorem l0l {bl:Blk} {n cap:Nat} (h:n<=cap):Rv (g.add nx ⟨w.heap.size,0,bl.es,cap⟩) (.sl nx 0 0 n) (.slice (some ⟨w.heap.size,0,none⟩) n cap):=by
 simp only [Rv];exact ⟨_,_,rfl,h,.inr ⟨⟨w.heap.size,0,bl.es,cap⟩,by simp only [G.add,and_self,if_true],by simp [Base.addr],by simp⟩⟩
theorem f0A {β:Base} {bl:Blk} (hB:BlkAt g β false bl w) {p:Nat} {ms:List Value} (hone:∀v∈ms,v.oneCell'=true) (hp:p+ms.length<=β.cap*β.es):
  ∃w',(storeCells ⟨β.blk,β.off+p,none⟩ ms).run P w= .ok () w'/\w'.heap.size=w.heap.size/\w'.os=w.os/\w'.tape=w.tape/\w'.output=w.output/\(∀k,k≠β.blk->w'.heap[k]? =w.heap[k]?)/\
   (∀x,w'.frozen? ⟨β.blk,x,none⟩=w.frozen? ⟨β.blk,x,none⟩)/\∀x,w'.cell? ⟨β.blk,β.off+x,none⟩=if p<=x/\x<p+ms.length then ms[x-p]? else w.cell? ⟨β.blk,β.off+x,none⟩:=by
 obtain ⟨w',h1,h2,h3,h4,h5,h6,h7,h8⟩:=f0z P β.blk (β.off+p) ms 0 w hone (by
  intro j hj;have hx:p+j<β.cap*β.es:=by omega
  have he:0<β.es:=by rcases i0m β.es with e|e;rw [e] at hx;omega;exact e
  have hi:(p+j)/β.es<β.cap:=(y0L he).2 hx;have hj':(p+j)%β.es<β.es:=b1W _ he;have hd:(p+j)/β.es*β.es+(p+j)%β.es=p+j:=by rw [d1H];exact e1I _ _
  obtain ⟨hf,hc⟩:=hB.rw rfl _ _ hi hj';have ea:β.addr ((p+j)/β.es) ((p+j)%β.es)=⟨β.blk,β.off+p+0+j,none⟩:=by unfold Base.addr;congr 1;omega
  rw [ea] at hf hc;exact ⟨hc,hf⟩)
 refine ⟨w',h1,h2,h3,h4,h5,h6,h7,?_⟩;intro x;rw [h8];by_cases hx:p<=x/\x<p+ms.length
 .rw [if_pos (by omega),if_pos hx];congr 1;omega
 .rw [if_neg (by omega),if_neg hx]
theorem h0y {β:Base} {bl b1:Blk} {p m:Nat} {ms:List Value} {w':World} (hB:BlkAt g β false bl w) (hlen:ms.length=m) (hsz:w'.heap.size=w.heap.size) (hfz:∀x,w'.frozen? ⟨β.blk,x,none⟩=w.frozen? ⟨β.blk,x,none⟩)
  (hcl:∀x,w'.cell? ⟨β.blk,β.off+x,none⟩=if p<=x/\x<p+m then ms[x-p]? else w.cell? ⟨β.blk,β.off+x,none⟩)
  (hone:∀v∈ms,v.oneCell'=true) (hold:∀i,b1.has i->bl.has i\/∀j,j<β.es->p<=i*β.es+j/\i*β.es+j<p+m) (hes:b1.es=bl.es) (hln:b1.lenOk) (hhas:∀i,b1.has i->i<β.cap) (hat:∀i j sv,b1.has i->b1.at i j=some sv->(p<=i*β.es+j/\i*β.es+j<p+m/\∃v,ms[i*β.es+j-p]? =some v/\Rv g sv v)\/(¬(p<=i*β.es+j/\i*β.es+j<p+m)/\bl.has i/\bl.at i j=some sv)) (hpl:b1.plain:=by exact trivial):BlkAt g β false b1 w':=by
 have ea:∀i j,β.addr i j=⟨β.blk,β.off+(i*β.es+j),none⟩:=by intro i j;unfold Base.addr;congr 1;omega
 refine ⟨fun hc=>by rw [hsz];exact hB.lt hc,hB.es.trans hes.symm,hln,hhas,?_,?_,?_,n0L hpl⟩
 .intro i j sv hi hj;rw [ea,hcl];rcases hat i j sv hi hj with ⟨h1,h2,v,h3,h4⟩|⟨h1,h2,h3⟩
  .rw [if_pos ⟨h1,h2⟩];exact ⟨v,h3,h4⟩
  .rw [if_neg h1,<-ea];exact hB.cell i j sv h2 h3
 .intro i j v hi hj hv;rw [ea,hcl] at hv;split at hv
  .exact hone v (s0h hv)
  .rename_i hx;rcases hold i hi with h1|h1
   .rw [<-ea] at hv;exact hB.one i j v h1 hj hv
   .exact absurd (h1 j hj) hx
 .intro _ i j hi hj;obtain ⟨h1,v,h2⟩:=hB.rw rfl i j hi hj;rw [ea] at h1 h2⊢;refine ⟨by rw [hfz];exact h1,?_⟩;rw [hcl];split
  .rename_i hx;exact ⟨ms[i*β.es+j-p]'(by omega),d0L _⟩
  .exact ⟨v,h2⟩
theorem l0m (i:Nat):∀(m:List SV) (l r:List BCol),i0W i l m=some r->r.length=l.length/\∀x,nth r x=match nth l x with|none=>none|some c=>(match nth m x with|some v=>c0m c i v|none=>some c)
 | [],l,r,h=>by simp only [i0W,Option.some.injEq] at h;subst h;refine ⟨rfl,fun x=> ?_⟩;simp only [nth];cases nth l x<;>rfl
 |v::m,[],r,h=>by simp [i0W] at h
 |v::m,c::l,r,h=>by
  simp only [i0W] at h;split at h
  .rename_i d r' hd hr';simp only [Option.some.injEq] at h;subst h;obtain ⟨h1,h2⟩:=l0m i m l r' hr';refine ⟨by simp [h1],?_⟩;intro x;cases x with
   |zero=>simp [nth,hd]
   |succ x=>simp only [nth];exact h2 x
  .cases h
theorem g0k (i:Nat):∀(j:Nat) (l r:List BCol) (m:List SV),e0Z i j l m=some r->r.length=l.length/\∀x,nth r x=match nth l x with|none=>none|some c=>(if j<=x then (match nth m (x-j) with|some v=>c0m c i v|none=>some c) else some c)
 |0,l,r,m,h=>by
  simp only [e0Z] at h;obtain ⟨h1,h2⟩:=l0m i m l r h;refine ⟨h1,fun x=> ?_⟩;rw [h2 x];simp
 |j+1,[],r,m,h=>by simp [e0Z] at h
 |j+1,c::l,r,m,h=>by
  simp only [e0Z] at h;split at h
  .rename_i r' hr';simp only [Option.some.injEq] at h;subst h;obtain ⟨h1,h2⟩:=g0k i j l r' m hr';refine ⟨by simp [h1],?_⟩;intro x;cases x with
   |zero=>simp [nth]
   |succ x=>simp only [nth];rw [h2 x];simp
  .cases h
theorem b0M {α:Type} (l:List α) (i x:Nat) (v d:α):(l.set i v).getD x d=if x=i/\i<l.length then v else l.getD x d:=by
 simp only [List.getD,e1B];by_cases h:i=x
 .subst h;by_cases hl:i<l.length
  .simp [hl]
  .simp [hl]
 .rw [if_neg h,if_neg (by intro e;exact h e.1.symm)]
theorem m0M {c d:BCol} {i:Nat} {v:SV} (h:c0m c i v=some d) (x:Nat) (u:Value) (hv:x=i->Rv g v u) (hu:x≠i->Rv g (c.at x) u) (hlen:x=i->i<c.len):Rv g (d.at x) u:=by
 unfold c0m at h;split at h
 .rename_i k l p y;cases hp:d0p p k with
  |false=>rw [hp] at h;simp at h
  |true=>
   rw [hp] at h;have:=b0s hp;subst this;simp only [cond_true,Option.some.injEq] at h;subst h;simp only [BCol.at,Col.at,b0M];by_cases e:x=i
   .rw [if_pos ⟨e,hlen e⟩];exact hv e
   .rw [if_neg (fun h=>e h.1)];exact hu e
 .rename_i l y;simp only [Option.some.injEq] at h;subst h;simp only [BCol.at,Col.at,b0M];by_cases e:x=i
  .rw [if_pos ⟨e,hlen e⟩];exact hv e
  .rw [if_neg (fun h=>e h.1)];exact hu e
 .rename_i l y;simp only [Option.some.injEq] at h;subst h;simp only [BCol.at,Col.at,b0M];by_cases e:x=i
  .rw [if_pos ⟨e,hlen e⟩];exact hv e
  .rw [if_neg (fun h=>e h.1)];exact hu e
 .rename_i l y;simp only [Option.some.injEq] at h;subst h;simp only [BCol.at,b0M];by_cases e:x=i
  .rw [if_pos ⟨e,hlen e⟩];exact hv e
  .rw [if_neg (fun h=>e h.1)];exact hu e
 .rename_i hh ns;simp only [Option.some.injEq] at h;subst h;simp only [BCol.at,b0M];by_cases e:x=i
  .rw [if_pos ⟨e,by rw [b0t];exact hlen e⟩];exact hv e
  .rw [if_neg (fun h=>e h.1)];by_cases hx:x<ns.length
   .rw [d0d hx];exact hu e
   .rw [List.getD,f0k (by rw [b0t];omega)];trivial
 .rename_i hh n0;simp only [Option.some.injEq] at h;subst h;simp only [BCol.at,b0M];by_cases e:x=i
  .rw [if_pos ⟨e,by rw [b0j];exact hlen e⟩];exact hv e
  .rw [if_neg (fun h=>e h.1)];by_cases hx:x<n0
   .rw [d0W hx];exact hu e
   .rw [List.getD,f0k (by rw [b0j];omega)];trivial
 .cases h
theorem m0N {c d:BCol} {i x:Nat} {v:SV} (h:c0m c i v=some d) (hx:x≠i) (hxl:x<c.len):d.at x=c.at x:=by
 unfold c0m at h;split at h
 .rename_i k l p y;cases hp:d0p p k with
  |false=>rw [hp] at h;simp at h
  |true=>rw [hp] at h;simp only [cond_true,Option.some.injEq] at h;subst h;simp only [BCol.at,Col.at,b0M];rw [if_neg (fun h=>hx h.1)]
 .simp only [Option.some.injEq] at h;subst h;simp only [BCol.at,Col.at,b0M];rw [if_neg (fun h=>hx h.1)]
 .simp only [Option.some.injEq] at h;subst h;simp only [BCol.at,Col.at,b0M];rw [if_neg (fun h=>hx h.1)]
 .simp only [Option.some.injEq] at h;subst h;simp only [BCol.at,b0M];rw [if_neg (fun h=>hx h.1)]
 .simp only [Option.some.injEq] at h;subst h;simp only [BCol.at,b0M];rw [if_neg (fun h=>hx h.1)];exact d0d hxl
 .simp only [Option.some.injEq] at h;subst h;simp only [BCol.at,b0M];rw [if_neg (fun h=>hx h.1)];exact d0W hxl
 .cases h
theorem Col.val_one (c:Col) (i:Nat):(c.val i).oneCell'=true:=by cases c<;>rfl
theorem q0D {n:Nat} {cs:List Col} {xs:Array Value} (h:o0U n cs xs):∀v∈xs.toList,v.oneCell'=true:=by
 intro v hv;obtain ⟨x,hx,e⟩:=t0H hv;have hx':x<n*cs.length:=by rw [<-h.1];simpa using hx
 have hpos:0<cs.length:=by rcases i0m cs.length with e|e;rw [e] at hx';omega;exact e
 have hi:x/cs.length<n:=(y0L hpos).2 hx';have hj:x%cs.length<cs.length:=b1W _ hpos;have hd:x/cs.length*cs.length+x%cs.length=x:=by rw [d1H];exact e1I _ _
 have:=h.2.2 _ _ _ hi (show nth cs (x%cs.length)=some cs[x%cs.length] by rw [a0S];exact d0L hj);rw [hd] at this;have hv':xs[x]? =some v:=by
  have:xs.toList[x]? =some v:=by rw [d0L hx,e]
  simpa using this
 rw [this] at hv';simp only [Option.some.injEq] at hv';rw [<-hv'];exact Col.val_one _ _
theorem l0n {c d:BCol} {i:Nat} {v:SV} (h:c0m c i v=some d):d.len=c.len:=by
 unfold c0m at h;split at h
 .rename_i k l p y;cases hp:d0p p k with
  |false=>rw [hp] at h;simp at h
  |true=>rw [hp] at h;simp only [cond_true,Option.some.injEq] at h;subst h;simp [BCol.len,Col.len]
 .simp only [Option.some.injEq] at h;subst h;simp [BCol.len,Col.len]
 .simp only [Option.some.injEq] at h;subst h;simp [BCol.len,Col.len]
 .simp only [Option.some.injEq] at h;subst h;simp [BCol.len]
 .simp only [Option.some.injEq] at h;subst h;simp [BCol.len,b0t]
 .simp only [Option.some.injEq] at h;subst h;simp [BCol.len,b0j]
 .cases h
theorem c0h {α:Type} {l:List α} {c:α} (h:c∈l):∃j,nth l j=some c:=by
 obtain ⟨j,hj,e⟩:=t0H h;exact ⟨j,by rw [a0S,d0L hj,e]⟩
theorem b0d {α:Type} {l:List α} {c:α} {j:Nat} (h:nth l j=some c):c∈l:=by
 rw [a0S] at h;exact s0h h
theorem m0O {i j n:Nat} {l r:List BCol} {m:List SV} (h:e0Z i j l m=some r) (hl:∀c∈l,c.len=n):∀c∈r,c.len=n:=by
 intro c hc;obtain ⟨x,hx⟩:=c0h hc;obtain ⟨_,h2⟩:=g0k i j l r m h;rw [h2 x] at hx;split at hx
 .cases hx
 .rename_i c0 hc0;have h0:=hl c0 (b0d hc0);split at hx
  .split at hx
   .rw [l0n hx];exact h0
   .cases hx;exact h0
  .cases hx;exact h0
end ops
end Go.Sy
namespace Go.Sy
open Go.RowKit
section ops
variable {P:Program} {T:Tab} {g:G} {vs:VS} {a:Act} {w:World} {r:SV} {U:a0g} {b:Nat} {t:List Nat} {H:a0g} {nx:Nat}
def n0R (P:Program) (a:Act) (op:Op) (w:World) (g:G) (r:SV) (U:a0g) (b:Nat):Prop:=U= []/\b=0/\∃v,Rv g r v/\c0C P op a w v
theorem l0o (hT:a0U P T) (hg:g.glob) (he:b0r g vs a) (hH:Holds g vs.heap w) {ty:TypeId} {x:Operand} (h:(eff T vs nx (.load ty x)).is r U b t):n0R P a (.load ty x) w g r U b:=by
 simp only [eff] at h;split at h
 .rename_i hd q i j ti hx hti;replace h:=a0A h;obtain ⟨ro,bl,hent,h⟩:=h;obtain ⟨β,hβ,hB⟩:=hH.blk _ _ _ _ hent;obtain ⟨β',hβ',hv⟩:=rpv (a0w hg he hx);rw [hβ] at hβ';cases hβ';have hag:=p0g (hT _ _ hti);have hsz:=h0o (hT _ _ hti);have scal:∀v u,ti.agg=false->w.cell? (β.addr i j)=some v->Rv g u v->n0R P a (.load ty x) w g u [] 0:=by
   intro v u hagg hc hr;refine ⟨rfl,rfl,_,hr,fun o' ho'=> ?_⟩;simp [execOp,ho',Instr.loadAt,hv,Instr.sureAddr,loadVar,hag,hagg,hc]
  have agg:∀(vals:List Value) u,ti.agg=true->vals.length=ti.size->(∀k v,vals[k]? =some v->w.cell? ((β.addr i j).add k)=some v)->Rv g u (.agg vals.toArray)->n0R P a (.load ty x) w g u [] 0:=by
   intro vals u hagg hl hc hr;have hld:=run_loadCells_list (P:=P) (w:=w) (β.addr i j) vals hc;rw [hl] at hld;refine ⟨rfl,rfl,_,hr,fun o' ho'=> ?_⟩;simp only [execOp,ho',Instr.loadAt,hv,Instr.sureAddr,e0M,i0S,d0N,loadVar,hag,hagg,if_true,hsz,hld]
  have rest:(bif ti.agg then bl.elt i (match o0X bl i j ti.size with|some l=> .ok (.agg l) [] 0 [hd]|none=> .no) else bl.elt i (match bl.at i j with|some v=> .ok v [] 0 [hd]|none=> .no)).is r U b t->n0R P a (.load ty x) w g r U b:=by
   intro h;cases hagg:ti.agg with
   |true=>
    rw [hagg] at h;simp only [cond_true] at h;replace h:=l0h h;obtain ⟨hi,h⟩:=h;split at h
    .rename_i l hl;obtain ⟨rfl,rfl,rfl,_⟩:=h;obtain ⟨vals,e1,e2,e3⟩:=n0Q hB hi ti.size j l hl;exact agg vals _ hagg e1 e3 (by simp only [Rv];exact ⟨_,rfl,by simpa using e2⟩)
    .exact h.elim
   |false=>
    rw [hagg] at h;simp only [cond_false] at h;replace h:=l0h h;obtain ⟨hi,h⟩:=h;split at h
    .rename_i sv hs;obtain ⟨v,hc,rv⟩:=hB.cell i j sv hi hs;obtain ⟨rfl,rfl,rfl,_⟩:=h;exact scal v _ hagg hc rv
    .exact h.elim
  unfold q0n at h;split at h
  .rename_i n l hk;replace h:=a0i h;obtain ⟨hc,h⟩:=h;simp only [c0q] at hc;obtain ⟨⟨⟨⟨c1,c2⟩,c3⟩,c4⟩,c5⟩:=hc;have e1:=c0k c1;have e2:=c0k c2;have e3:=c0k c3;have e4:=c0k c4;have e5:=c0k c5;split at h
   .rename_i cs hcs;obtain ⟨rfl,rfl,rfl,_⟩:=h;obtain ⟨s1,s2⟩:=v0f l cs hcs;have hes:β.es=l.length:=hB.es;have hcell:∀i j c,i<n->nth cs j=some c->w.cell? (β.addr i j)=some (c.val i):=by
     intro i j c hi hj;obtain ⟨v,h1,h2⟩:=hB.cell i j (c.at i) hi (by simp only [Blk.at,s2 j,hj,g0w];rfl);rw [h1,Col.at_val h2]
    have hall:∀x,x<n*l.length->∃v,w.cell? ⟨β.blk,β.off+x,none⟩=some v:=by
     intro x hx;have hpos:0<l.length:=by rcases i0m l.length with e|e;rw [e] at hx;omega;exact e
     have hi:x/l.length<n:=(y0L hpos).2 hx;have hj:x%l.length<l.length:=b1W _ hpos;have hd:x/l.length*l.length+x%l.length=x:=by rw [d1H];exact e1I _ _
     have hj':x%l.length<cs.length:=by rw [s1];exact hj
     have hc:=hcell _ _ _ hi (show nth cs (x%l.length)=some cs[x%l.length] by rw [a0S];exact d0L hj');refine ⟨cs[x%l.length].val (x/l.length),?_⟩;rw [<-hc];unfold Base.addr;rw [hes];congr 2;omega
    let val:Nat->Value:=fun x=>(w.cell? ⟨β.blk,β.off+x,none⟩).getD undef
    refine agg ((List.range (n*l.length)).map val) _ (by unfold TI.agg;rw [hk];simp) (by simp [e5,e1,e2]) ?_ ?_
    .intro k v hk';simp only [f0l] at hk';have hlt:k<n*l.length:=by
      rcases f0m k (n*l.length) with h|h
      .exact h
      .rw [f0k (by simpa using h)] at hk';cases hk'
     rw [v0p hlt] at hk';simp only [g0w,Option.some.injEq] at hk';subst hk';obtain ⟨v,hv'⟩:=hall k hlt;rw [c0n];have:β.addr i (j+k)=⟨β.blk,β.off+k,none⟩:=by unfold Base.addr;rw [e3,e4];congr 1;omega
     rw [this];simp only [val,hv',o0y]
    .simp only [Rv];refine ⟨_,rfl,by simp [s1],?_,?_⟩
     .intro c hc;obtain ⟨j,hj⟩:=c0h hc;exact hB.len (.sc c) (b0d (j:=j) (by rw [s2 j,hj];rfl))
     intro i' j' c hi hj;have hj2:=b0y hj;rw [s1] at hj2⊢;have hlt:=d0a hi hj2;have hc:=hcell i' j' c hi hj;have ea:β.addr i' j'=⟨β.blk,β.off+(i'*l.length+j'),none⟩:=by unfold Base.addr;rw [hes];congr 1;omega
     rw [ea] at hc;simp only [x0D,f0l,v0p hlt,g0w,val,hc,o0y]
   .exact h.elim
  .exact rest h
 .exact h.elim
theorem w0i (hT:a0U P T) (hg:g.glob) (he:b0r g vs a) (hH:Holds g vs.heap w) {o:Oper} {ty:TypeId} {x:Operand} (ho:o.op= .load ty x) (h:(eff T vs nx (.load ty x)).is r U b t):b0h P a o w g vs.heap nx r U b:=by
 obtain ⟨rfl,rfl,v,hr,hy⟩:=l0o hT hg he hH h;exact b0l hH hr (by rw [ho];exact hy)
theorem t0h (hT:a0U P T) (hg:g.glob) (he:b0r g vs a) (hH:Holds g vs.heap w) {o:Oper} {ty:TypeId} {x y:Operand} (ho:o.op= .store ty x y) (h:(eff T vs nx (.store ty x y)).is r U b t):b0h P a o w g vs.heap nx r U b:=by
 simp only [eff] at h;split at h
 .rename_i hd q i j v ti hx hy hti;replace h:=a0A h;obtain ⟨ro,bl,hent,h⟩:=h;replace h:=c0g h;obtain ⟨hro,h⟩:=h;subst hro;obtain ⟨β,hβ,hB⟩:=hH.blk _ _ _ _ hent;obtain ⟨β',hβ',hpv⟩:=rpv (a0w hg he hx);rw [hβ] at hβ';cases hβ';have hyv:=a0w hg he hy;have hsz:=h0o (hT _ _ hti);have es:=hB.es;have fin:∀(ms:List Value) (b1:Blk),(a.eval y).cells=ms.toArray->ms.length=ti.size->(∀v∈ms,v.oneCell'=true)->0<β.cap->i*β.es+j+ms.length<=β.cap*β.es->b1.plain->b1.es=bl.es->b1.lenOk->(∀i,b1.has i->bl.has i)->
    (∀i' j' sv,b1.has i'->b1.at i' j'=some sv->(i*β.es+j<=i'*β.es+j'/\i'*β.es+j'<i*β.es+j+ms.length/\∃v,ms[i'*β.es+j'-(i*β.es+j)]? =some v/\Rv g sv v)\/(¬(i*β.es+j<=i'*β.es+j'/\i'*β.es+j'<i*β.es+j+ms.length)/\bl.has i'/\bl.at i' j'=some sv))->
    b0h P a o w g vs.heap nx (.raw undef) (a0L vs.heap hd q b1) 0:=by
   intro ms b1 hms hl hone hcap hp hpl hes hlen hhas hat;obtain ⟨w',k1,k2,k3,k4,k5,k6,k7,k8⟩:=f0A (P:=P) hB hone hp;have ea:β.addr i j=⟨β.blk,β.off+(i*β.es+j),none⟩:=by unfold Base.addr;congr 1;omega
   refine ⟨undef,w',g,.inr ⟨?_,rfl⟩,c0u hH hent hβ hcap (by simp only [Rv]) (h0y hB rfl k2 k7 k8 hone (fun i hi=> .inl (hhas i hi)) hes hlen (fun i hi=>hB.cap i (hhas i hi)) hat hpl) k3 k4 k5 (by omega) (fun k _ hk=>k6 k hk)⟩;have e1:(a.eval y).cells.size=ti.size:=by rw [hms];simp [hl]
   simp only [execOp,ho,Instr.storeAt,hpv,Instr.sureAddr,storeVar,e0M,i0S,d0N,hsz,e1,ne_eq,not_true_eq_false,if_false];rw [hms,ea];simp [k1]
  unfold h0h at h;split at h
  .rename_i n l m cs;replace h:=a0i h;obtain ⟨hc,h⟩:=h;simp only [c0q] at hc;obtain ⟨⟨⟨⟨⟨c0,c1⟩,c2⟩,c3⟩,c4⟩,c5⟩:=hc;have e1:=c0k c1;have e2:=c0k c2;have e3:=c0k c3;have e4:=c0k c4;have e5:=c0k c5;have hn0:n≠0:=by intro e;rw [e] at c0;simp at c0
   obtain ⟨rfl,rfl,rfl,_⟩:=h;obtain ⟨xs,ex,hx1,hx2,hx3⟩:=b1y hyv;obtain ⟨u1,u2⟩:=c0N cs;have hes:β.es=l.length:=es;have hcl:∀c∈a0W cs,c.len=n:=by
    intro c hc;obtain ⟨k,hk⟩:=c0h hc;rw [u2 k] at hk;cases hk':nth cs k with
    |none=>rw [hk'] at hk;cases hk
    |some c'=>rw [hk'] at hk;cases hk;exact (hx2 c' (b0d hk')).trans e1.symm
   have hxs:xs.size=n*β.es:=by rw [hx1,hes,e2,e1]
   have hcapn:n<=β.cap:=by have:=hB.cap (n-1) (by simp only [Blk.has];omega);omega
   refine fin xs.toList (.cols n (a0W cs)) (by rw [ex];simp [Value.cells]) (by simp [hxs,e5,hes]) ?_ (by omega) ?_ trivial (by simp [Blk.es,u1,e2]) hcl (fun i hi=>hi) ?_
   .exact q0D ⟨hx1,hx2,hx3⟩
   .rw [e3,e4];simp only [o0w,hxs,b1H,i0s];exact j0c _ hcapn
   .intro i' j' sv hi hj;simp only [Blk.has] at hi;simp only [Blk.at,u2 j'] at hj;cases hc':nth cs j' with
    |none=>rw [hc'] at hj;simp at hj
    |some c=>
     rw [hc'] at hj;simp only [g0w,Option.some.injEq] at hj;subst hj;have hj2:=b0y hc';have hlt:i'*β.es+j'<n*β.es:=d0a hi (by omega);left;rw [e3,e4];refine ⟨by omega,by simp only [o0w,hxs];omega,c.val i',?_,Col.at_ok g c i'⟩;have:=hx3 i' j' c (by omega) hc';rw [e2,<-hes] at this;simpa using this
  .rename_i v n l hv;split at h
   .rename_i m hm;replace h:=a0i h;obtain ⟨hc,h⟩:=h;simp only [c0q] at hc;obtain ⟨⟨c1,c2⟩,c3⟩:=hc;have e2:=c0k c2;have e3:=k0S c3;split at h
    .rename_i l2 hl2;obtain ⟨hin,rfl,rfl,rfl,_⟩:=h;have rc:=SV.cells_ok hm hyv;have lc:=Rvs.length _ _ rc;obtain ⟨s1,s2⟩:=g0k i j l l2 m hl2;have hes:β.es=l.length:=es;have hicap:=hB.cap i hin;refine fin (a.eval y).cells.toList (.cols n l2) (by simp) (by rw [lc,e2]) (b0V m _ c1 rc) (by omega) ?_ trivial (by simp [Blk.es,s1]) (m0O hl2 hB.len) (fun i hi=>hi) ?_
     .rw [lc];have:(i+1)*β.es<=β.cap*β.es:=j0c _ hicap;rw [Nat.add_mul] at this;omega
     .intro i' j' sv hi hj;simp only [Blk.has] at hi;simp only [Blk.at] at hj;rw [s2 j'] at hj;cases hc':nth l j' with
      |none=>rw [hc'] at hj;simp at hj
      |some c=>
       rw [hc'] at hj;have hj2:=b0y hc';simp only at hj;rw [lc];have old:(Blk.cols n l).at i' j'=some (c.at i'):=by simp [Blk.at,hc']
       by_cases hjj:j<=j'
       .rw [if_pos hjj] at hj;cases hmv:nth m (j'-j) with
        |none=>
         rw [hmv] at hj;simp only [Option.some.injEq] at hj;subst hj;right;refine ⟨?_,hi,old⟩;have:m.length<=j'-j:=by
          rcases f0m (j'-j) m.length with h|h
          .rw [a0S,d0L h] at hmv;cases hmv
          .exact h
         rcases v0n i' i with h|h|h
         .have:=j0k (j:=j') (j':=j) h (show j'<β.es by omega);omega
         .subst h;omega
         .have:=j0k (j:=j+m.length-1) (j':=j') h (show j+m.length-1<β.es by omega);omega
        |some mv=>
         rw [hmv] at hj;simp only at hj;have hjm:=b0y hmv;cases hsc:c0m c i mv with
         |none=>rw [hsc] at hj;simp at hj
         |some d=>
          rw [hsc] at hj;simp only [Option.some.injEq] at hj;subst hj;obtain ⟨u,hu1,hu2⟩:=Rvs.nth m _ (j'-j) mv rc hmv;by_cases hii:i'=i
          .subst hii;left;refine ⟨by omega,by omega,u,?_,m0M hsc i' u (fun _=>hu2) (fun h=>absurd rfl h) (fun _=>by rw [hB.len c (b0d hc')];exact hi)⟩;rw [<-hu1];congr 1;omega
          .right;refine ⟨?_,hi,?_⟩
           .rcases v0n i' i with h|h|h
            .have:=j0k (j:=j') (j':=j) h (show j'<β.es by omega);omega
            .exact absurd h hii
            .have:=j0k (j:=j+m.length-1) (j':=j') h (show j+m.length-1<β.es by omega);omega
           .rw [old,m0N hsc hii (by rw [hB.len c (b0d hc')];exact hi)]
       .rw [if_neg hjj] at hj;simp only [Option.some.injEq] at hj;subst hj;right;refine ⟨?_,hi,old⟩;rcases v0n i' i with h|h|h
        .have:=j0k (j:=j') (j':=j) h (show j'<β.es by omega);omega
        .subst h;omega
        .rcases i0m m.length with h0|h0
         .omega
         .have:=j0k (j:=j+m.length-1) (j':=j') h (show j+m.length-1<β.es by omega);omega
    .exact h.elim
   .exact h.elim
  .rename_i v l;split at h
   .rename_i m hm;replace h:=a0i h;obtain ⟨hc,h⟩:=h;rw [c0K] at h;simp only [c0q] at hc;obtain ⟨⟨c1,c2⟩,c3⟩:=hc;have e2:=c0k c2;have e3:=k0S c3;obtain ⟨rfl,rfl,rfl,_⟩:=h;have rc:=SV.cells_ok hm hyv;have lc:=Rvs.length _ _ rc;have hes:β.es=l.length:=es;have hcap:=hB.cap 0 rfl;refine fin (a.eval y).cells.toList (.cells (c0c l j m)) (by simp) (by rw [lc,e2]) (b0V m _ c1 rc) hcap ?_ trivial (by simp [Blk.es,e0S]) trivial (fun i hi=>hi) ?_
    .rw [lc];have:1*β.es<=β.cap*β.es:=j0c _ hcap;omega
    .intro i' j' sv hi hj;simp only [Blk.has] at hi;simp only [Blk.at] at hj;rw [f0d m l j j' e3] at hj;rw [lc,hi];simp only [b1H,i0s];split at hj
     .rename_i hc;obtain ⟨u,hu1,hu2⟩:=Rvs.nth m _ (j'-j) sv rc hj;exact .inl ⟨hc.1,hc.2,u,hu1,hu2⟩
     .rename_i hc;exact .inr ⟨hc,rfl,hj⟩
   .exact h.elim
  .exact h.elim
 .exact h.elim
end ops
end Go.Sy
namespace Go.Sy
open Go.RowKit
section ops
variable {P:Program} {T:Tab} {g:G} {vs:VS} {a:Act} {w:World} {r:SV} {U:a0g} {b:Nat} {t:List Nat} {H:a0g} {nx:Nat}
theorem j0Z {o:Oper} {cs:Array Value} {ty:TypeId} {bl:Blk} {cap:Nat} (hH:Holds g H w) (hn:b=1->∀q,g nx q=none) (hlen:bl.lenOk) (hone:∀v∈cs.toList,v.oneCell'=true) (hsz:cap*bl.es<=cs.size) (hhas:∀i,bl.has i->i<cap)
  (hcell:∀i j sv,bl.has i->bl.at i j=some sv->∃v,cs[i*bl.es+j]? =some v/\Rv g sv v) (hrun:(execOp a.eval o).run P w= .ok (.value (.pointer (some ⟨w.heap.size,0,none⟩))) (w.alloc (.cells cs ty)))
  (h:(q0o nx bl).is r U b t) (hpl:bl.plain:=by exact trivial):b0h P a o w g H nx r U b:=by
 obtain ⟨rfl,rfl,rfl,_⟩:=h;exact ⟨_,_,_,.inl hrun,e0e (w':=w.alloc (.cells cs ty)) (.inl rfl) hH rfl rfl rfl rfl (hn rfl) hlen hone hsz hhas hcell w0h hpl⟩
theorem l0p {l:List SV} {cs:Array Value} (hl:Rvs g l cs.toList):∀i j sv,(Blk.cells l).has i->(Blk.cells l).at i j=some sv->∃v,cs[i*(Blk.cells l).es+j]? =some v/\Rv g sv v:=by
 intro i j sv hi hj;simp only [Blk.has] at hi;subst hi;obtain ⟨v,h1,h2⟩:=Rvs.nth l cs.toList j sv hl hj;exact ⟨v,by simpa using h1,h2⟩
theorem n0S {n:Nat} {cs:List Col} {xs:Array Value} (h:o0U n cs xs):(∀i j sv,(Blk.cols n (a0W cs)).has i->(Blk.cols n (a0W cs)).at i j=some sv->∃v,xs[i*(Blk.cols n (a0W cs)).es+j]? =some v/\Rv g sv v)/\(Blk.cols n (a0W cs)).lenOk/\n*(Blk.cols n (a0W cs)).es<=xs.size:=by
 obtain ⟨u1,u2⟩:=c0N cs;refine ⟨?_,?_,by simp [Blk.es,u1,h.1]⟩
 .intro i j sv hi hj;simp only [Blk.has] at hi;simp only [Blk.at,u2 j] at hj;cases hc:nth cs j with
  |none=>rw [hc] at hj;simp at hj
  |some c=>
   rw [hc] at hj;simp only [g0w,Option.some.injEq] at hj;subst hj;exact ⟨c.val i,by simp only [Blk.es,u1];exact h.2.2 i j c hi hc,Col.at_ok g c i⟩
 .intro c hc;obtain ⟨k,hk⟩:=c0h hc;rw [u2 k] at hk;cases hk':nth cs k with
  |none=>rw [hk'] at hk;cases hk
  |some c'=>rw [hk'] at hk;cases hk;exact h.2.1 c' (b0d hk')
theorem b0O (o:Obj):(newObj o).run P w= .ok w.heap.size (w.alloc o):=rfl
theorem t0i (hT:a0U P T) (hH:Holds g H w) (hn:b=1->∀q,g nx q=none) {o:Oper} {ty:TypeId} (ho:o.op= .alloc ty) {ti:TI} (hti:a0B T ty=some ti) (h:(q0p nx ti).is r U b t):b0h P a o w g H nx r U b:=by
 unfold q0p at h
 .replace h:=c0g h;obtain ⟨hne,h⟩:=h;simp only [Bool.or_eq_false_iff,Bool.not_eq_false'] at hne;have hti':=hT _ _ hti;unfold g0H at hti';split at hti'
  .rename_i i d hi hd;simp only [Option.some.injEq] at hti';have hz0:ti.zero=b0N P ty:=by rw [<-hti']
   cases hz:i.zero with
   |none=>rw [hz0] at hne;simp [b0N,hi,hz] at hne
   |some z=>
    have hzc:Rvs g ti.zero z.cells.toList:=by rw [hz0];simp only [b0N,hi,hz];exact f0y g _
    have hone:=b0V _ _ hne.2 hzc;have hzr:(zeroValue ty).run P w= .ok z w:=by simp [zeroValue,typeInfo,hi,hz]
    have hrun:(execOp a.eval o).run P w= .ok (.value (.pointer (some ⟨w.heap.size,0,none⟩))) (w.alloc (.cells z.cells ty)):=by
     simp only [execOp,ho,Instr.alloc,e0M,hzr,d0N,newVar,newRow,b0O,i0S]
    have plain:(q0o nx (.cells ti.zero)).is r U b t->b0h P a o w g H nx r U b:=fun h=>
     j0Z (bl:= .cells ti.zero) (cap:=1) hH hn trivial hone (by simp [Blk.es,<-Rvs.length _ _ hzc]) (fun i hi=>by simp only [Blk.has] at hi;omega) (l0p hzc) hrun h
    cases hc:(Nat.beq ti.kind 5&& !ti.zc.isEmpty&&Nat.beq ti.zero.length (ti.len*ti.el)) with
    |false=>rw [hc] at h;exact plain h
    |true=>
     rw [hc] at h;simp only [cond_true] at h;simp only [c0q] at hc;obtain ⟨⟨c1,c2⟩,c3⟩:=hc;have hk:=c0k c1;have hkd:a0N d=5:=by rw [<-hti'] at hk;exact hk
     obtain ⟨n,e,rfl⟩:∃n e,d= .array n e:=by cases d<;>first|exact ⟨_,_,rfl⟩|(exact absurd hkd (by simp [a0N]))
     have hel:ti.el=P.cellsOf e:=by rw [<-hti']
     have hzcq:ti.zc=(match i0V (P.cellsOf e) (b0N P ty) with|some cs=>cs|none=> []):=(congrArg TI.zc hti').symm;rw [<-hel,<-hz0] at hzcq;cases hco:i0V ti.el ti.zero with
     |none=>rw [hco] at hzcq;rw [hzcq] at c2;simp at c2
     |some cs=>
      rw [hco] at hzcq;simp only at hzcq;rw [hzcq] at h;obtain ⟨k1,k2⟩:=g0j hco (c0k c3) hzc;obtain ⟨m1,m2,m3⟩:=n0S (g:=g) k2;exact j0Z (cap:=ti.len) (cs:=z.cells) hH hn m2 hone (by simpa using m3) (fun i hi=>hi) (by simpa using m1) hrun h
  .cases hti'
theorem z0p (hg:g.glob) (he:b0r g vs a) (hH:Holds g H w) (hn:b=1->∀q,g nx q=none) {o:Oper} {ty:TypeId} {x:Operand} (ho:o.op= .box ty x) (h:(eff T vs nx (.box ty x)).is r U b t):b0h P a o w g H nx r U b:=by
 simp only [eff] at h;split at h
 .rename_i v ti hx hti;have hv:=a0w hg he hx;have hrun:(execOp a.eval o).run P w= .ok (.value (.pointer (some ⟨w.heap.size,0,none⟩))) (w.alloc (.cells (a.eval x).cells ty)):=by
   simp only [execOp,ho,Instr.box,e0M,d0N,newVar,newRow,b0O,i0S]
  have plain:∀l:List SV,Rvs g l (a.eval x).cells.toList->c0D l=true->(q0o nx (.cells l)).is r U b t->b0h P a o w g H nx r U b:=fun l hl hone h=>
   j0Z (bl:= .cells l) (cap:=1) hH hn trivial (b0V _ _ hone hl) (by simp [Blk.es,<-Rvs.length _ _ hl]) (fun i hi=>by simp only [Blk.has] at hi;omega) (l0p hl) hrun h
  have arr:∀n cs,o0U n cs (a.eval x).cells->(q0o nx (.cols n (a0W cs))).is r U b t->b0h P a o w g H nx r U b:=by
   intro n cs k2 h;obtain ⟨m1,m2,m3⟩:=n0S (g:=g) k2;exact j0Z (cap:=n) hH hn m2 (q0D k2) m3 (fun i hi=>hi) m1 hrun h
  unfold d1A at h;split at h
  .rename_i n cs;obtain ⟨xs,ex,hx1⟩:=b1y hv;exact arr n cs (by rw [ex];exact hx1) h
  .rename_i l;replace h:=c0g h;obtain ⟨hone,h⟩:=h;simp only [Bool.not_eq_false'] at hone;obtain ⟨xs,ex,rx⟩:=rav hv;have rx':Rvs g l (a.eval x).cells.toList:=by rw [ex];exact rx
   cases hk:Nat.beq ti.kind 5 with
   |false=>rw [hk] at h;exact plain l rx' hone h
   |true=>
    rw [hk] at h;simp only [cond_true] at h;split at h
    .rename_i cs hcs;replace h:=a0i h;obtain ⟨hl,h⟩:=h;obtain ⟨_,k2⟩:=g0j hcs (c0k hl).symm rx';exact arr _ cs (by simpa using k2) h
    .exact plain l rx' hone h
  .rename_i v' h1 h2;replace h:=a0i h;obtain ⟨hone,h⟩:=h;refine plain [v] ?_ (by simp [c0D,hone]) h;rw [(SV.one_ok hone hv).2];simp only [Rvs];exact ⟨_,_,rfl,hv,rfl⟩
 .exact h.elim
theorem t0j (hT:a0U P T) (hg:g.glob) (he:b0r g vs a) (hH:Holds g H w) {o:Oper} {ty:TypeId} {parts:Array (Nat×Operand)} (ho:o.op= .build ty parts) (h:(eff T vs nx (.build ty parts)).is r U b t):b0h P a o w g H nx r U b:=by
 simp only [eff] at h;split at h
 .rename_i ti hti;replace h:=a0i h;obtain ⟨hk,h⟩:=h;simp only [c0q,i0o] at hk;obtain ⟨hk,hn8⟩:=hk;split at h
  .rename_i l hl;rw [c0K] at h;have hti':=hT _ _ hti;unfold g0H at hti';split at hti'
   .rename_i inf d hinf hdd;simp only [Option.some.injEq] at hti';have hb:(inf.zero.isSome&&e0y P d)=true:=by rw [<-hti'] at hk;exact hk
    simp only [c0q,u0k] at hb;obtain ⟨⟨z,hz⟩,hb⟩:=hb;have hzero:ti.zero=z.cells.toList.map cv:=by rw [<-hti'];simp [b0N,hinf,hz]
    have hz0:Rvs g ti.zero z.cells.toList:=by rw [hzero];exact f0y g _
    have hzrun:(zeroValue ty).run P w= .ok z w:=by simp [zeroValue,typeInfo,hinf,hz]
    have hkind:ti.kind=a0N d:=by rw [<-hti']
    have fin:∀cs':Array Value,Rvs g l cs'.toList->(execOp a.eval o).run P w= .ok (.value (.agg cs')) w->b0h P a o w g H nx r U b:=by
     intro cs' h2 hrun;have agg:(Res.one (.agg l)).is r U b t->b0h P a o w g H nx r U b:=by
      rintro ⟨rfl,rfl,rfl,_⟩;exact ⟨_,w,g,.inl hrun,d0t hH (by simp only [Rv];exact ⟨_,rfl,h2⟩)⟩
     cases hk5:Nat.beq ti.kind 5 with
     |false=>rw [hk5] at h;exact agg h
     |true=>
      rw [hk5] at h;simp only [cond_true] at h;split at h
      .rename_i cs hcs;replace h:=a0i h;obtain ⟨hl',h⟩:=h;obtain ⟨rfl,rfl,rfl,_⟩:=h;obtain ⟨_,k2⟩:=g0j hcs (c0k hl').symm h2;exact ⟨_,w,g,.inl hrun,d0t hH (by simp only [Rv];exact ⟨_,rfl,by simpa using k2⟩)⟩
      .exact agg h
    cases d with
    |struct fs=>
     simp only [e0y] at hb;have hms:(fs.mapM (m:=Sem) (fun f=>do pure (f.offset,<-sizeOf f.type))).run P w= .ok (fs.map fun f=>(f.offset,fsz P f.type)) w:=by
      rw [Array.mapM_eq_mapM_toList,Sem.run_map,j0i P w fs.toList hb];simp [<-Array.toList_map]
     obtain ⟨cs',h1,h2⟩:=j0X (place:=fun i=>(fs.map fun f=>(f.offset,fsz P f.type))[i]?) hg he (by
      intro i o n hp;unfold TI.place at hp;rw [<-hti'] at hp;simp only [a0N] at hp;simp only [a0S] at hp;cases hf:fs.toList[i]? with
      |none=>rw [f0l,hf] at hp;simp at hp
      |some f=>
       rw [f0l,hf] at hp;simp at hp;have:fs[i]? =some f:=by simpa using hf
       simp [this,hp.1,hp.2]) parts.toList ti.zero l z.cells hz0 hl
     refine fin cs' h2 ?_;have h1':Instr.fill (fun i=>(fs.map fun f=>(f.offset,fsz P f.type))[i]?) z.cells ((parts.map fun p=>(p.1,a.eval p.2)).toList)=some cs':=by
      rw [Array.toList_map];exact h1
     simp only [execOp,ho,Instr.build,e0M,hzrun,d0N,run_underlying hdd,hms,h1',i0S]
    |array n e=>
     simp only [e0y,u0k] at hb;obtain ⟨ie,hie⟩:=hb;have hel:ti.el=ie.size:=by rw [<-hti'];simp [Program.cellsOf,hie]
     have hsz:(sizeOf e).run P w= .ok ti.el w:=by simp [sizeOf,typeInfo,hie,hel]
     obtain ⟨cs',h1,h2⟩:=j0X (place:=fun i=>some (i*ti.el,ti.el)) hg he (by
      intro i o n hp;unfold TI.place at hp;have:Nat.beq ti.kind 4=false:=by rw [<-hti'];rfl
      rw [this] at hp;simpa using hp) parts.toList ti.zero l z.cells hz0 hl
     refine fin cs' h2 ?_;have h1':Instr.fill (fun i=>some (i*ti.el,ti.el)) z.cells ((parts.map fun p=>(p.1,a.eval p.2)).toList)=some cs':=by
      rw [Array.toList_map];exact h1
     simp only [execOp,ho,Instr.build,e0M,hzrun,d0N,run_underlying hdd,hsz,h1',i0S]
    |map k e=>rw [hkind] at hn8;cases hn8
    |_=>simp [e0y] at hb
   .cases hti'
  .exact h.elim
 .exact h.elim
theorem f0B {ty:TypeId} {ti:TI} (h:g0H P ty=some ti) (hk:Nat.beq ti.kind 6=true) (_hone:c0D ti.ez=true\/True) (hl:Nat.beq ti.ez.length ti.el=true) (h0:Nat.beq ti.el 0=false):
  ∃e i z,P.underlying ty=some (.slice e)/\P.info? e=some i/\i.zero=some z/\i.size=ti.el/\i.bytes=ti.eb/\z.cells.size=ti.el/\(∀g,Rvs g ti.ez z.cells.toList)/\(ti.u8=true->P.underlying e=some (.int .u8)):=by
 unfold g0H at h;split at h
 .rename_i i d hi hd;simp only [Option.some.injEq] at h;have hkd:a0N d=6:=by rw [<-h] at hk;exact c0k hk
  obtain ⟨e,rfl⟩:∃e,d= .slice e:=by cases d<;>first|exact ⟨_,rfl⟩|(exact absurd hkd (by simp [a0N]))
  have hel:ti.el=P.cellsOf e:=by rw [<-h]
  have hez:ti.ez=b0N P e:=by rw [<-h]
  have heb:ti.eb=(match P.info? e with|some x=>x.bytes|none=>0):=(congrArg TI.eb h).symm;have hu8:ti.u8=(match P.underlying e with|some (.int .u8)=>true|_=>false):=(congrArg TI.u8 h).symm;have hll:=c0k hl;have hn0:ti.el≠0:=by intro e';rw [e'] at h0;simp at h0
  cases hie:P.info? e with
  |none=>rw [hez] at hll;simp [b0N,hie] at hll;omega
  |some ie=>
   cases hz:ie.zero with
   |none=>rw [hez] at hll;simp [b0N,hie,hz] at hll;omega
   |some z=>
    have hezz:ti.ez=z.cells.toList.map cv:=by rw [hez];simp [b0N,hie,hz]
    refine ⟨e,ie,z,hd,hie,hz,by rw [hel];simp [Program.cellsOf,hie],by rw [heb,hie],?_,fun g=>by rw [hezz];exact f0y g _,?_⟩
    .rw [<-hll,hezz];simp
    .intro hu;rw [hu8] at hu;split at hu
     .rename_i hh;exact hh
     .cases hu
 .cases h
theorem e0z (n:Nat):∀(l:List SV),(d0C n l).length=l.length/\(∀c∈d0C n l,c.len=n)/\∀j sv,nth l j=some sv->∃c,nth (d0C n l) j=some c/\∀i,i<n->c.at i=sv
 | []=>by simp [d0C,nth]
 |s::l=>by
  obtain ⟨h1,h2,h3⟩:=e0z n l;have hz:(y0P n s).len=n/\∀i,i<n->(y0P n s).at i=s:=by
   cases s<;>refine ⟨by simp [y0P,BCol.len,Col.len],fun i hi=> ?_⟩<;>simp [y0P,BCol.at,Col.at,List.getD,hi]
  refine ⟨by simp [d0C,h1],?_,?_⟩
  .intro c hc;simp only [d0C,d0z] at hc;rcases hc with rfl|hc
   .exact hz.1
   .exact h2 c hc
  .intro j sv hj;cases j with
   |zero=>simp only [nth,Option.some.injEq] at hj;subst hj;exact ⟨_,rfl,hz.2⟩
   |succ j=>simp only [nth] at hj;simpa [d0C,nth] using h3 j sv hj
theorem q0E {n:Nat} {l:List SV} {j:Nat} {c:BCol} (h:nth (d0C n l) j=some c):∃sv,nth l j=some sv/\∀i,i<n->c.at i=sv:=by
 obtain ⟨h1,h2,h3⟩:=e0z n l;have hj:=b0y h;rw [h1] at hj;obtain ⟨c',k1,k2⟩:=h3 j l[j] (by rw [a0S];exact d0L hj);rw [h] at k1;cases k1;exact ⟨_,by rw [a0S];exact d0L hj,k2⟩
theorem j0l {z:Array Value} {es n x:Nat} (hz:z.size=es) (hx:x<n*es):((Array.range (n*es)).map (z[·%z.size]!))[x]? =z[x%es]?:=by
 have hpos:0<es:=by rcases i0m es with e|e;rw [e] at hx;omega;exact e
 have hm:x%es<z.size:=by rw [hz];exact b1W _ hpos
 simp only [Array.getElem?_map];rw [Array.getElem?_range];simp only [hx,if_true,g0w,hz];rw [d0k hm,getElem!_pos z (x%es) hm]
theorem q0F {i j es:Nat} (hj:j<es):(i*es+j)%es=j:=by
 rw [d1H,Nat.mul_add_mod];exact Nat.mod_eq_of_lt hj
theorem l0q (hT:a0U P T) (hg:g.glob) (he:b0r g vs a) (hH:Holds g H w) (hn:b=1->∀q,g nx q=none) {o:Oper} {ty:TypeId} {x y:Operand} (ho:o.op= .makeSlice ty x y) (h:(eff T vs nx (.makeSlice ty x y)).is r U b t):b0h P a o w g H nx r U b:=by
 simp only [eff] at h;split at h
 .rename_i k1 l k2 c ti hx hy hti;replace h:=a0i h;obtain ⟨hc,h⟩:=h;simp only [c0q,i0o] at hc;obtain ⟨⟨⟨c1,c2⟩,c3⟩,c4⟩:=hc;obtain ⟨hb,rfl,rfl,rfl,_⟩:=h;obtain ⟨hl0,hlc,hcb⟩:=hb;obtain ⟨e,i,z,hd,hi,hz,hsz,hby,hzs,hrz,_⟩:=f0B (hT _ _ hti) c1 (.inr trivial) c3 c4;have hc0:0<=c:=by omega
  have hcm:c<=281474976710656:=by
   have:c*1<=c*((ti.eb:Int)+1):=Int.mul_le_mul_of_nonneg_left (by omega) hc0;omega
  have hbc:(ti.eb:Int)*c<=281474976710656:=by
   have:c*(ti.eb:Int)<=c*((ti.eb:Int)+1):=Int.mul_le_mul_of_nonneg_left (by omega) hc0;rw [Int.mul_comm];omega
  have wl:IntKind.i64.wrap l=l:=IntWalk.i64_in l ⟨by omega,by omega⟩;have wc:IntKind.i64.wrap c=c:=IntWalk.i64_in c ⟨by omega,by omega⟩;have hxv:=riv (a0w hg he hx);have hyv:=riv (a0w hg he hy);let n:=c.toNat*ti.el
  let cs:Array Value:=(Array.range n).map (z.cells[·%z.cells.size]!)
  have hcells:∀x,x<n->cs[x]? =z.cells[x%ti.el]?:=fun x hx=>j0l hzs hx
  have hrun:(execOp a.eval o).run P w= .ok (.value (.slice (some ⟨w.heap.size,0,none⟩) l.toNat c.toNat)) (w.alloc (.cells cs e)):=by
   have hti':∀w,(typeInfo e).run P w= .ok i w:=fun w=>by simp [typeInfo,hi]
   have hszr:∀w,(sizeOf e).run P w= .ok ti.el w:=fun w=>by simp [sizeOf,hti',hsz]
   have hzr:∀w,(zeroValue e).run P w= .ok z w:=fun w=>by simp [zeroValue,hti',hz]
   have h1:¬(c<0):=by omega
   have h2:¬((i.bytes:Int)*c>2^48):=by rw [hby];omega
   have h3:¬(l<0):=by omega
   have h4:¬(l>c):=by omega
   have hroom:∀w,(askRoom (c.toNat*i.bytes)).run P w= .ok () w:=fun w=>by unfold askRoom;split<;>rfl
   have hif:(decide (c<0)||decide ((i.bytes:Int)*c>2^48)||decide (l<0)||decide (l>c))=false:=by simp only [h1,h2,h3,h4,decide_false,Bool.or_self]
   simp only [execOp,ho,Instr.makeSlice,e0M,run_underlying hd,d0N,hxv,hyv,asInt,asIntOf,i0S,hti',wl,wc,hif,hroom,hszr,u0l,if_false];rcases i0m (c.toNat*ti.el) with hn0|hn0
   .have e0:cs=(Array.range (c.toNat*ti.el)).map (fun x=>(#[]:Array Value)[x%(#[]:Array Value).size]!):=by
     simp only [cs,n,hn0];apply Array.ext (by simp);intro x h1;simp at h1
    rw [if_pos hn0,e0];simp only [i0S,d0N,newRow,b0O,e0M]
   .rw [if_neg (by omega)];simp only [e0M,hzr,d0N,i0S,newRow,b0O];rfl
  have hlen:l.toNat<=c.toNat:=by omega
  obtain ⟨z1,z2,z3⟩:=e0z l.toNat ti.ez;have hll:=c0k c3;refine ⟨_,_,_,.inl hrun,e0e (bl:= .cols l.toNat (d0C l.toNat ti.ez)) (cap:=c.toNat) (w':=w.alloc (.cells cs e)) (.inl rfl) hH rfl rfl rfl rfl (hn rfl) z2 ?_ ?_ ?_ ?_ (l0l hlen)⟩
  .intro v hv;obtain ⟨x,hx,ev⟩:=t0H hv;have hx':x<n:=by simpa [cs] using hx
   have h1:=hcells x hx';have h2:cs[x]? =some v:=by
    have:cs.toList[x]? =some v:=by rw [d0L hx,ev]
    simpa using this
   rw [h2] at h1;exact b0V _ _ c2 (hrz g) v (by have:=Array.mem_of_getElem? h1.symm;simpa using this)
  .simp [Blk.es,z1,hll,cs,n]
  .intro i hi;simp only [Blk.has] at hi;omega
  .intro i' j sv hi' hj;simp only [Blk.has] at hi';simp only [Blk.at] at hj;split at hj
   .rename_i c' hc';simp only [Option.some.injEq] at hj;subst hj;obtain ⟨s,hs1,hs2⟩:=q0E hc';have hjl:=b0y hs1;rw [hs2 i' hi'];simp only [Blk.es,z1,hll];rw [hll] at hjl;have hlt:i'*ti.el+j<n:=d0a (by omega) hjl;rw [hcells _ hlt,q0F hjl];obtain ⟨v,h1,h2⟩:=Rvs.nth _ _ j s (hrz g) hs1;exact ⟨v,by simpa using h1,h2⟩
   .cases hj
 .exact h.elim
end ops
end Go.Sy
namespace Go.Sy
open Go.RowKit
section ops
variable {P:Program} {T:Tab} {g:G} {vs:VS} {a:Act} {w:World} {r:SV} {U:a0g} {b:Nat} {t:List Nat} {H:a0g} {nx:Nat}
theorem Rvs.of_nth {g:G}:∀(l:List SV) (vals:List Value),vals.length=l.length->(∀(i:Nat) (sv:SV),Sy.nth l i=some sv->∃v,vals[i]? =some v/\Rv g sv v)->Rvs g l vals
 | [],vals,h,_=>by simp only [Rvs];exact e1A.1 (by simpa using h)
 |s::l,[],h,_=>by simp at h
 |s::l,v::vals,h,hn=>by
  simp only [Rvs];obtain ⟨u,h1,h2⟩:=hn 0 s rfl;simp at h1;subst h1;exact ⟨v,vals,rfl,h2,Rvs.of_nth l vals (by simpa using h) (fun i sv hi=>by simpa using hn (i+1) sv hi)⟩
theorem n0T {α:Type} (l:List α) (h0:0<l.length):∀(n x:Nat),x<n*l.length->(List.replicate n l).flatten[x]? =l[x%l.length]?
 |0,x,h=>by simp at h
 |n+1,x,h=>by
  rw [b1N,List.flatten_cons];rcases f0m x l.length with h1|h1
  .rw [o0x h1,Nat.mod_eq_of_lt h1]
  .rw [m0m h1,n0T l h0 n (x-l.length) (by rw [Nat.add_mul] at h;omega)];congr 1;exact (Nat.mod_eq_sub_mod h1).symm
theorem m0P {α:Type} (l:List α) (n:Nat):(List.replicate n l).flatten.length=n*l.length:=by
 induction n with
 |zero=>simp
 |succ n ih=>rw [b1N,List.flatten_cons,u0m,ih,Nat.add_mul];omega
theorem q0G {z:Array Value} {ez:List SV} {es n:Nat} (hz:z.size=es) (h0:0<es) (hr:Rvs g ez z.toList):Rvs g (List.replicate n ez).flatten ((Array.range (n*es)).map (z[·%z.size]!)).toList:=by
 have hl:ez.length=es:=by have:=Rvs.length _ _ hr;simp at this;omega
 refine Rvs.of_nth _ _ (by simp [hl]) ?_;intro i sv hi;have hlt:=b0y hi;rw [m0P,hl] at hlt;rw [a0S,n0T ez (by omega) n i (by rw [hl];exact hlt),hl] at hi;obtain ⟨v,h1,h2⟩:=Rvs.nth ez z.toList (i%es) sv hr (by rw [a0S];exact hi);refine ⟨v,?_,h2⟩;have:=j0l (n:=n) hz hlt;rw [n0q,this];simpa using h1
theorem l0r (l:List SV):(l0b l).len=l.length/\∀(i:Nat) (s:SV),l[i]? =some s->(l0b l).at i=s:=by
 unfold l0b;split
 .rename_i c hc;obtain ⟨h1,h2⟩:=j0Y hc;exact ⟨h1,fun i s hs=>(h2 i s hs).symm⟩
 .exact ⟨rfl,fun i s hs=>by simp [BCol.at,List.getD,hs]⟩
theorem g0M (es:Nat) (l:List SV):∀(n j:Nat),(b0S es l j n).length=n/\∀x,x<n->nth (b0S es l j n) x=some (l0b (every es (j+x) l))
 |0,j=>by simp [b0S]
 |n+1,j=>by
  obtain ⟨h1,h2⟩:=g0M es l n (j+1);refine ⟨by simp [b0S,h1],?_⟩;intro x hx;cases x with
  |zero=>simp [b0S,nth]
  |succ x=>simp only [b0S,nth];rw [h2 x (by omega),show j+1+x=j+(x+1) from by omega]
theorem k0a (hT:a0U P T) (hg:g.glob) (he:b0r g vs a) (hH:Holds g H w) (hn:b=1->∀q,g nx q=none) {o:Oper} {ty:TypeId} {len:Nat} {parts:Array (Nat×Operand)} (ho:o.op= .buildSlice ty len parts) (h:(eff T vs nx (.buildSlice ty len parts)).is r U b t):b0h P a o w g H nx r U b:=by
 simp only [eff] at h;split at h
 .rename_i ti hti;replace h:=a0i h;obtain ⟨hc,h⟩:=h;simp only [c0q,i0o] at hc;obtain ⟨⟨⟨c1,c3⟩,c4⟩,c5⟩:=hc;split at h
  .rename_i l hl;rw [c0K] at h;replace h:=a0i h;obtain ⟨hc,h⟩:=h;simp only [c0q] at hc;obtain ⟨c6,c7⟩:=hc;obtain ⟨rfl,rfl,rfl,_⟩:=h;obtain ⟨e,i,z,hd,hi,hz,hsz,hby,hzs,hrz,_⟩:=f0B (hT _ _ hti) c1 (.inr trivial) c3 c4;have hel:0<ti.el:=by rcases i0m ti.el with e|e;rw [e] at c4;simp at c4;exact e
   have hll:=c0k c3;have hl7:=c0k c7;have h5:=k0S c5;have hz0:=q0G (n:=len) hzs hel (hrz g);obtain ⟨cs',h1,h2⟩:=j0X (place:=fun i=>some (i*ti.el,ti.el)) hg he (fun i o n hp=>hp) parts.toList _ l _ hz0 hl;have h1':Instr.fill (fun i=>some (i*ti.el,ti.el)) ((Array.range (len*ti.el)).map (z.cells[·%z.cells.size]!)) ((parts.map fun p=>(p.1,a.eval p.2)).toList)=some cs':=by
    rw [Array.toList_map];exact h1
   have hcl:=Rvs.length _ _ h2;have hti':∀w,(typeInfo e).run P w= .ok i w:=fun w=>by simp [typeInfo,hi]
   have hszr:∀w,(sizeOf e).run P w= .ok ti.el w:=fun w=>by simp [sizeOf,hti',hsz]
   have hzr:∀w,(zeroValue e).run P w= .ok z w:=fun w=>by simp [zeroValue,hti',hz]
   have hrun:(execOp a.eval o).run P w= .ok (.value (.slice (some ⟨w.heap.size,0,none⟩) len len)) (w.alloc (.cells cs' e)):=by
    simp only [execOp,ho,Instr.buildSlice,e0M,run_underlying hd,d0N,hszr];rw [if_neg (by omega)];rcases i0m (len*ti.el) with hn0|hn0
    .have e0:(Array.range (len*ti.el)).map (fun x=>(#[]:Array Value)[x%(#[]:Array Value).size]!)=(Array.range (len*ti.el)).map (z.cells[·%z.cells.size]!):=by
      rw [hn0];apply Array.ext (by simp);intro x h1;simp at h1
     simp only [e0M,i0S,d0N,if_pos hn0,e0,h1',newRow,b0O]
    .simp only [e0M,i0S,d0N,if_neg (show¬len*ti.el=0 by omega),hzr,h1',newRow,b0O]
   have hone:=b0V _ _ c6 h2;obtain ⟨B,hBdef⟩:∃B,B=(bif Nat.beq len 0 then d0C 0 ti.ez else b0S ti.el l 0 ti.el):=⟨_,rfl⟩;rw [<-hBdef];have hB1:B.length=ti.el/\(∀c∈B,c.len=len)/\∀i j c,i<len->nth B j=some c->nth l (j+i*ti.el)=some (c.at i):=by
    cases h0:Nat.beq len 0 with
    |true=>
     rw [h0] at hBdef;simp only [cond_true] at hBdef;have:=c0k h0;obtain ⟨z1,z2,_⟩:=e0z 0 ti.ez;subst hBdef;exact ⟨by rw [z1,hll],fun c hc=>by rw [z2 c hc,this],fun i j c hi=>by omega⟩
    |false=>
     rw [h0] at hBdef;simp only [cond_false] at hBdef;obtain ⟨b1,b2⟩:=g0M ti.el l ti.el 0;subst hBdef;refine ⟨b1,?_,?_⟩
     .intro c hc;obtain ⟨j,hj⟩:=c0h hc;have hjl:=b0y hj;rw [b1] at hjl;rw [b2 j hjl] at hj;cases hj;rw [(l0r _).1];exact g0L (by omega) hl7
     .intro i j c hi hj;have hjl:=b0y hj;rw [b1] at hjl;rw [b2 j hjl,i0s] at hj;cases hj;have hlt:j+i*ti.el<l.length:=by rw [hl7];have:=d0a hi hjl;omega
      have hev:=e0d ti.el hel l j i;rw [d0L hlt] at hev;rw [(l0r _).2 i _ hev,a0S];exact d0L hlt
   obtain ⟨k1,k2,k3⟩:=hB1;refine ⟨_,_,_,.inl hrun,e0e (bl:= .cols len B) (cap:=len) (w':=w.alloc (.cells cs' e)) (.inl rfl) hH rfl rfl rfl rfl (hn rfl) k2 hone ?_ (fun i hi=>hi) ?_ (l0l (d0M _))⟩
   .simp only [Blk.es,k1];simp at hcl;omega
   .intro i' j sv hi' hj;simp only [Blk.has] at hi';simp only [Blk.at] at hj;split at hj
    .rename_i c' hc';simp only [Option.some.injEq] at hj;subst hj;have hnt:=k3 i' j c' hi' hc';obtain ⟨v,h1,h2'⟩:=Rvs.nth l cs'.toList _ _ h2 hnt;refine ⟨v,?_,h2'⟩;simp only [Blk.es,k1];rw [show i'*ti.el+j=j+i'*ti.el from by omega];simpa using h1
    .cases hj
  .exact h.elim
 .exact h.elim
theorem f0C {α:Type} (l:List α) (i n x:Nat) (d:α) (hx:x<n):(seg i n l).getD x d=l.getD (i+x) d:=by
 simp only [seg,List.getD,p0N,hx,if_true,a1k]
theorem BCol.seg_at (c:BCol) (i n x:Nat) (hx:x<n) (hl:i+n<=c.len):(c.seg i n).at x=c.at (i+x):=by
 cases c with
 |sc c=>cases c<;>simp only [BCol.seg,Col.seg,BCol.at,Col.at,f0C _ _ _ _ _ hx]
 |svs l=>simp only [BCol.seg,BCol.at,f0C _ _ _ _ _ hx]
 |own h ns=>simp only [BCol.seg,BCol.at,f0C _ _ _ _ _ hx];exact d0d (by simp only [BCol.len] at hl;omega)
 |arrs m k rows=>simp only [BCol.seg,BCol.at,f0C _ _ _ _ _ hx];exact w0b (by simp only [BCol.len] at hl;omega)
 |ptrs h m=>simp only [BCol.seg,BCol.at,f0C _ _ _ _ _ hx];exact d0W (by simp only [BCol.len] at hl;omega)
theorem BCol.seg_len (c:BCol) (i n m:Nat) (hc:c.len=m) (h:i+n<=m):(c.seg i n).len=n:=by
 cases c with
 |sc c=>cases c<;>simp only [BCol.seg,Col.seg,BCol.len,Col.len,Sy.seg,m0z,x0A] at hc⊢<;>omega
 |svs l=>simp only [BCol.seg,BCol.len,Sy.seg,m0z,x0A] at hc⊢;omega
 |own h ns=>simp only [BCol.seg,BCol.len,Sy.seg,m0z,x0A,b0t] at hc⊢;omega
 |arrs m k rows=>simp only [BCol.seg,BCol.len,Sy.seg,m0z,x0A,s0S] at hc⊢;omega
 |ptrs h m=>simp only [BCol.seg,BCol.len,Sy.seg,m0z,x0A,b0j] at hc⊢;omega
theorem g0l (i n:Nat):∀(l:List BCol),(m0D i n l).length=l.length/\∀j,nth (m0D i n l) j=(nth l j).map (·.seg i n)
 | []=>by simp [m0D,nth]
 |c::l=>by
  obtain ⟨h1,h2⟩:=g0l i n l;refine ⟨by simp [m0D,h1],?_⟩;intro j;cases j with
  |zero=>simp [m0D,nth]
  |succ j=>simp [m0D,nth,h2 j]
structure SrcOk (P:Program) (g:G) (w:World) (el:Nat) (v:Value) (n:Nat) (l:List BCol):Prop where
 len:(Builtin.lenOf v).run P w= .ok n w
 cols:l.length=el
 lens:∀c∈l,c.len=n
 first:∀k,k<=n->∃cs:Array Value,(∀w1:World,w1.heap=w.heap->(Builtin.firstCells el k v).run P w1= .ok cs w1)/\cs.size=k*el/\(∀u∈cs.toList,u.oneCell'=true)/\∀i j c,i<k->nth l j=some c->∃u,cs[i*el+j]? =some u/\Rv g (c.at i) u
theorem f0D {hd q i n m:Nat} {ro:Bool} {l:List BCol} {v:Value} (hH:Holds g H w) (hent:Ent H hd q ro (.cols m l)) (hv:Rv g (.sl hd q i n) v) (hle:i+n<=m) (el:Nat) (hel:l.length=el):SrcOk P g w el v n (m0D i n l):=by
 obtain ⟨β,hβ,hB⟩:=hH.blk _ _ _ _ hent;obtain ⟨ad,c,rfl,hnc,hz⟩:=rsv hv;obtain ⟨s1,s2⟩:=g0l i n l;have hes:β.es=el:=hB.es.trans hel;refine ⟨by simp [Builtin.lenOf],by rw [s1,hel],?_,?_⟩
 .intro x hx;obtain ⟨j,hj⟩:=c0h hx;rw [s2 j] at hj;cases hc:nth l j with
  |none=>rw [hc] at hj;cases hj
  |some y=>rw [hc] at hj;cases hj;exact BCol.seg_len y i n m (hB.len y (b0d hc)) hle
 .intro k hk;rcases hz with hz|⟨β',hβ',ha,hcap⟩
  .have hk0:k=0:=by omega
   subst hk0;refine ⟨#[],fun w1 _=> ?_,by simp,by simp,fun i j c hi=>by omega⟩;cases ad with
   |none=>simp [Builtin.firstCells]
   |some ad=>simp [Builtin.firstCells,loadCells,loadCellsFrom]
  .rw [hβ] at hβ';cases hβ';subst ha;have cell:∀x,x<k*el->∃u,w.cell? ((β.addr i 0).add x)=some u/\u.oneCell'=true/\∀i' j c,x=i'*el+j->i'<k->j<el->nth (m0D i n l) j=some c->Rv g (c.at i') u:=by
    intro x hx;have hpos:0<el:=by rcases i0m el with e|e;rw [e] at hx;omega;exact e
    have hi:x/el<k:=(y0L hpos).2 hx;have hj:x%el<el:=b1W _ hpos;have hd':x/el*el+x%el=x:=by rw [d1H];exact e1I _ _
    have hjl:x%el<l.length:=by rw [hel];exact hj
    have hhas:(Blk.cols m l).has (i+x/el):=by simp only [Blk.has];omega
    have hnt:nth l (x%el)=some l[x%el]:=by rw [a0S];exact d0L hjl
    obtain ⟨u,h1,h2⟩:=hB.cell (i+x/el) (x%el) (l[x%el].at (i+x/el)) hhas (by simp [Blk.at,hnt]);have ea:(β.addr i 0).add x=β.addr (i+x/el) (x%el):=by
     rw [c0n];unfold Base.addr;rw [hes,Nat.add_mul];congr 1;omega
    refine ⟨u,by rw [ea];exact h1,hB.one _ _ u hhas (by rw [hes];exact hj) h1,?_⟩;intro i' j c hx' hi' hj' hc;have e1:x%el=j:=by rw [hx'];exact q0F hj'
    have e2:x/el=i':=by
     rw [hx',d1H,Nat.mul_add_div hpos,Nat.div_eq_of_lt hj',n0r]
    rw [s2 j,<-e1,hnt] at hc;simp only [g0w,Option.some.injEq] at hc;subst hc;rw [BCol.seg_at _ _ _ _ (by omega) (by rw [hB.len _ (b0d hnt)];omega),<-e2];exact h2
   let val:Nat->Value:=fun x=>(w.cell? ((β.addr i 0).add x)).getD undef
   have a0x:∀x,x<k*el->((List.range (k*el)).map val)[x]? =w.cell? ((β.addr i 0).add x):=by
    intro x hx;obtain ⟨u,h1,_⟩:=cell x hx;rw [f0l,v0p hx];simp only [g0w,val,h1,o0y]
   have hld:∀w1:World,w1.heap=w.heap->_:=fun w1 hw=>run_loadCells_list (P:=P) (w:=w1) (β.addr i 0) ((List.range (k*el)).map val) (by
    intro x u hx;have hcc:∀ad,w1.cell? ad=w.cell? ad:=fun ad=>by unfold World.cell?;rw [hw]
    rw [hcc];have hlt:x<k*el:=by
     rcases f0m x (k*el) with h|h
     .exact h
     .rw [f0k (by simpa using h)] at hx;cases hx
    rw [a0x x hlt] at hx;exact hx)
   refine ⟨((List.range (k*el)).map val).toArray,fun w1 hw=> ?_,by simp,?_,?_⟩
   .simp only [Builtin.firstCells];simpa using hld w1 hw
   .intro u hu;simp only [m0l,q0f] at hu;obtain ⟨x,hx,rfl⟩:=hu;obtain ⟨u,h1,h2,_⟩:=cell x hx;simp only [val,h1,o0y];exact h2
   .intro i' j c hi' hj;have hjl:=b0y hj;rw [s1,hel] at hjl;have hlt:=d0a hi' hjl;obtain ⟨u,h1,_,h3⟩:=cell _ hlt;refine ⟨u,?_,h3 i' j c rfl hi' hjl hj⟩;rw [x0D,a0x _ hlt];exact h1
theorem k0b (hg:g.glob) (he:b0r g vs a) (hH:Holds g vs.heap w) {ti:TI} {y:Operand} {x:SV} (hx:gv vs y=some x) {ty:TypeId} (_hti:g0H P ty=some ti) (_c1:Nat.beq ti.kind 6=true) (c3:Nat.beq ti.ez.length ti.el=true) (_c4:Nat.beq ti.el 0=false) {F:Nat->List BCol->List Nat->Res} (h:(g0T vs ti x F).is r U b t):
  ∃n l tt,(F n l tt).is r U b t/\SrcOk P g w ti.el (a.eval y) n l:=by
 have hv:=a0w hg he hx;obtain ⟨z1,z2,z3⟩:=e0z 0 ti.ez;have hll:=c0k c3;unfold g0T at h;split at h
 .rename_i hd q i n;replace h:=a0A h;obtain ⟨ro,bl,hent,h⟩:=h;split at h
  .rename_i m l;replace h:=a0i h;obtain ⟨hel,h⟩:=h;rw [Res.is_guard] at h;exact ⟨n,_,_,h.2,f0D hH hent hv h.1 _ (c0k hel)⟩
  .exact h.elim
 .refine ⟨0,_,_,h,?_⟩;have e:a.eval y= .slice none 0 0:=by simpa only [Rv] using hv
  rw [e];refine ⟨by simp [Builtin.lenOf],by rw [z1,hll],z2,fun k hk=> ?_⟩;have hk0:k=0:=by omega
  subst hk0;exact ⟨#[],fun w1 _=>by simp [Builtin.firstCells],by simp,by simp,fun i j c hi=>by omega⟩
 .refine ⟨0,_,_,h,?_⟩;obtain ⟨ad,e⟩:∃ad,a.eval y= .slice ad 0 0:=by simpa only [Rv] using hv
  rw [e];refine ⟨by simp [Builtin.lenOf],by rw [z1,hll],z2,fun k hk=> ?_⟩;have hk0:k=0:=by omega
  subst hk0;refine ⟨#[],fun w1 _=> ?_,by simp,by simp,fun i j c hi=>by omega⟩;cases ad with
  |none=>simp [Builtin.firstCells]
  |some ad=>simp [Builtin.firstCells,loadCells,loadCellsFrom]
 .rename_i s;replace h:=a0i h;obtain ⟨hu,h⟩:=h;refine ⟨_,_,_,h,?_⟩;simp only [c0q] at hu;have e:=rtv hv;have e1:=c0k hu.2;rw [e,e1];refine ⟨by simp [Builtin.lenOf],rfl,by simp [BCol.len,Col.len,h0g],fun k hk=> ?_⟩;have hk':k<=s.data.size:=hk;refine ⟨(s.extract 0 k).data.map fun b=> .int .u8 b.toNat,fun w1 _=>by simp [Builtin.firstCells],?_,?_,?_⟩
  .simp [b1X];omega
  .intro u hu;simp only [Array.toList_map,m0l] at hu;obtain ⟨b,_,rfl⟩:=hu;rfl
  .intro i j c hi hj;cases j with
   |zero=>
    simp only [nth,Option.some.injEq] at hj;subst hj;have hlt:i<s.data.size:=by omega
    refine ⟨.int .u8 (s.data[i].toNat:Int),?_,?_⟩
    .simp only [b1G,n0r,Array.getElem?_map,b1X];rw [Array.getElem?_extract,if_pos (by omega),i0s,d0k hlt];rfl
    .simp only [BCol.at,Col.at,h0g,Rv];congr 1;rw [List.getD,f0l,n0q,d0k hlt];rfl
   |succ j=>simp [nth] at hj
 .exact h.elim
end ops
end Go.Sy
namespace Go.Sy
open Go.RowKit
section ops
variable {P:Program} {T:Tab} {g:G} {vs:VS} {a:Act} {w:World} {r:SV} {U:a0g} {b:Nat} {t:List Nat} {H:a0g} {nx:Nat}
theorem p0i {w1:World} (hH:Holds g H w) (h:w1.heap=w.heap):Holds g H w1:=
 ⟨fun h' q ro b he=>let ⟨β,hβ,hB⟩:=hH.blk h' q ro b he;⟨β,hβ,b0o hB (G.le.refl g) (by rw [h];exact d0M _) (fun _=>by rw [h])⟩,hH.sep⟩
theorem l0s (newLen:Nat):∀(rounds c:Nat),c<=newLen+(newLen+768)/4->Builtin.growBy newLen rounds c<=newLen+(newLen+768)/4
 |0,c,h=>h
 |rounds+1,c,h=>by
  simp only [Builtin.growBy];split
  .exact h
  .exact l0s newLen rounds _ (by omega)
theorem h0z {need old:Nat} (h:old<need):Builtin.nextslicecap need old<=2*need+1000:=by
 unfold Builtin.nextslicecap;split
 .omega
 .split
  .omega
  .have:=l0s need 4 old (by omega);omega
theorem l0t {need old eb:Nat} (h:old<need) (hb:(need+500)*(eb+1)<=70368744177664):Builtin.nextslicecap need old*eb<=281474976710656/\need<=70368744177664:=by
 have h1:=h0z h;have h2:Builtin.nextslicecap need old*eb<=(2*need+1000)*eb:=j0c _ h1;have h3:(2*need+1000)*eb=2*((need+500)*eb):=by rw [show 2*need+1000=2*(need+500) from by omega,Nat.mul_assoc]
 have h4:(need+500)*eb<=(need+500)*(eb+1):=Nat.mul_le_mul_left _ (by omega);have h5:(need+500)*1<=(need+500)*(eb+1):=Nat.mul_le_mul_left _ (by omega);exact ⟨by omega,by omega⟩
def m0E (P:Program) (w w':World) (k:Nat) (cs:Array Value):Option Addr->Prop
 |some ad=>(storeCells (ad.add k) cs.toList).run P w= .ok () w'
 |none=>w'=w
theorem b0W {t t2 ty e:TypeId} {el:Nat} {d2:TypeDesc} (ht:P.underlying t=some (.slice e)) (ht2:P.underlying t2=some d2) (hk2:(∃e2,d2= .slice e2)\/d2= .string) (hsz:∀w,(sizeOf e).run P w= .ok el w)
  {base:Option Addr} {n c n2:Nat} {x:Value} {cs:Array Value} (hlen:(Builtin.lenOf x).run P w= .ok n2 w) (hcs:(Builtin.firstCells el n2 x).run P w= .ok cs w) (hfit:n+n2<=c) {w':World}
  (hst:m0E P w w' (n*el) cs base):(Builtin.append_ #[t,t2] ty #[.slice base n c,x]).run P w= .ok (.slice base (n+n2) c) w':=by
 rcases hk2 with ⟨e2,rfl⟩|rfl
 all_goals
  cases base with
  |none=>
   simp only [m0E] at hst;subst hst;simp [Builtin.append_,run_underlying ht,run_underlying ht2,hsz,hlen,hfit,hcs]
  |some ad=>
   simp only [m0E] at hst;simp [Builtin.append_,run_underlying ht,run_underlying ht2,hsz,hlen,hfit,hcs,hst]
theorem d0T {t t2 ty e:TypeId} {el:Nat} {d2:TypeDesc} {i:TypeInfo} {z:Value} (ht:P.underlying t=some (.slice e)) (ht2:P.underlying t2=some d2) (hk2:(∃e2,d2= .slice e2)\/d2= .string) (hi:P.info? e=some i) (hel:i.size=el) (hz:i.zero=some z)
  {base:Option Addr} {n c n2:Nat} {x:Value} {old cs:Array Value} (hlen:(Builtin.lenOf x).run P w= .ok n2 w) (hcs:∀w1:World,w1.heap=w.heap->(Builtin.firstCells el n2 x).run P w1= .ok cs w1) (hold:∀w1:World,w1.heap=w.heap->(Builtin.firstCells el n (.slice base n c)).run P w1= .ok old w1) (hfit:c<n+n2)
  (h63:n+n2<=70368744177664) (h48:Builtin.nextslicecap (n+n2) c*i.bytes<=281474976710656):
  ∃cap w',n+n2<=cap/\(Builtin.append_ #[t,t2] ty #[.slice base n c,x]).run P w= .ok (.slice (some ⟨w.heap.size,0,none⟩) (n+n2) cap) w'/\w'.heap=w.heap.push (.cells (old++cs++Builtin.zeroCells z.cells (cap-(n+n2))) e (0,0))/\w'.os=w.os/\w'.tape=w.tape/\w'.output=w.output:=by
 have hti':∀w,(typeInfo e).run P w= .ok i w:=fun w=>by simp [typeInfo,hi]
 have hszr:∀w,(sizeOf e).run P w= .ok el w:=fun w=>by simp [sizeOf,hti',hel]
 have hzr:∀w,(zeroValue e).run P w= .ok z w:=fun w=>by simp [zeroValue,hti',hz]
 have hn:¬(n+n2<=c):=by omega
 have h63':¬(9223372036854775807<((n:Int)+(n2:Int))):=by omega
 have h48':¬(281474976710656<Builtin.nextslicecap (n+n2) c*i.bytes):=by omega
 have hq:(Question.appendCap (n+n2) c e).forced=false:=rfl;have hroom:∀k w,(askRoom k).run P w= .ok () w:=fun k w=>by unfold askRoom;split<;>rfl
 let w1:World:=w.drew
 let cap:=(Question.appendCap (n+n2) c e).cut (w.tape w.drawn (Question.appendCap (n+n2) c e))
 have hcap:n+n2<=cap:=by simp only [cap,Question.cut];omega
 refine ⟨cap,w1.alloc (.cells (old++cs++Builtin.zeroCells z.cells (cap-(n+n2))) e),hcap,?_,rfl,rfl,rfl,rfl⟩;have h1:=hcs w1 rfl;have h2:=hold w1 rfl;rcases hk2 with ⟨e2,rfl⟩|rfl
 all_goals simp [Builtin.append_,run_underlying ht,run_underlying ht2,hszr,hti',hlen,hn,h63',h48',hroom,hzr,newRow]
 all_goals
  rw [if_neg (by rw [hq];simp)];have h1':(Builtin.firstCells el n2 x).run P w.drew= .ok cs w.drew:=h1;have h2':(Builtin.firstCells el n (.slice base n c)).run P w.drew= .ok old w.drew:=h2;simp only [h1',h2',d0N];rfl
theorem l0u {c d e:BCol} (h:f0u c d=some e):e.len=c.len+d.len/\(∀i,i<c.len->e.at i=c.at i)/\∀i,e.at (c.len+i)=d.at i:=by
 have gl:∀{α:Type} (l m:List α) (x:Nat) (dd:α),x<l.length->(l++m).getD x dd=l.getD x dd:=by
  intro α l m x dd hx;simp only [List.getD,o0x hx]
 have gr:∀{α:Type} (l m:List α) (x:Nat) (dd:α),(l++m).getD (l.length+x) dd=m.getD x dd:=by
  intro α l m x dd;simp only [List.getD];rw [m0m (by omega)];congr 2;omega
 unfold f0u at h;split at h
 .rename_i k l p m;cases hp:d0p p k with
  |false=>rw [hp] at h;simp at h
  |true=>
   rw [hp] at h;have:=b0s hp;subst this;simp only [cond_true,Option.some.injEq] at h;subst h;refine ⟨by simp [BCol.len,Col.len],?_,?_⟩
   .intro i hi;simp only [BCol.at,Col.at];rw [gl _ _ _ _ hi]
   .intro i;simp only [BCol.at,Col.at,BCol.len,Col.len];rw [gr]
 .simp only [Option.some.injEq] at h;subst h;refine ⟨by simp [BCol.len,Col.len],?_,?_⟩
  .intro i hi;simp only [BCol.at,Col.at];rw [gl _ _ _ _ hi]
  .intro i;simp only [BCol.at,Col.at,BCol.len,Col.len];rw [gr]
 .simp only [Option.some.injEq] at h;subst h;refine ⟨by simp [BCol.len,Col.len],?_,?_⟩
  .intro i hi;simp only [BCol.at,Col.at];rw [gl _ _ _ _ hi]
  .intro i;simp only [BCol.at,Col.at,BCol.len,Col.len];rw [gr]
 .simp only [Option.some.injEq] at h;subst h;refine ⟨by simp [BCol.len],?_,?_⟩
  .intro i hi;simp only [BCol.at];rw [gl _ _ _ _ hi]
  .intro i;simp only [BCol.at,BCol.len];rw [gr]
 .rename_i hh ns m;simp only [Option.some.injEq] at h;subst h;refine ⟨by simp [BCol.len,b0t],?_,?_⟩
  .intro i hi;simp only [BCol.at];rw [gl _ _ _ _ (by rw [b0t];exact hi)];exact d0d hi
  .intro i;simp only [BCol.at,BCol.len];rw [<-b0t hh ns,gr]
 .rename_i hh n0 m;simp only [Option.some.injEq] at h;subst h;refine ⟨by simp [BCol.len,b0j],?_,?_⟩
  .intro i hi;simp only [BCol.at];rw [gl _ _ _ _ (by rw [b0j];exact hi)];exact d0W hi
  .intro i;simp only [BCol.at,BCol.len];have:=gr (g0c hh n0) m i .unk;rw [b0j] at this;exact this
 .simp only [Option.some.injEq] at h;subst h;refine ⟨by simp [BCol.len],fun i hi=>by simp [BCol.len] at hi,fun i=>by simp [BCol.len]⟩
 .simp only [Option.some.injEq] at h;subst h;refine ⟨by simp [BCol.len],fun i hi=>by simp [BCol.len] at hi,fun i=>by simp [BCol.len]⟩
 .simp only [Option.some.injEq] at h;subst h;refine ⟨by simp [BCol.len],fun i hi=>by simp [BCol.len] at hi,fun i=>by simp [BCol.len]⟩
 .cases h
theorem j0m:∀(l m r:List BCol),d0e l m=some r->r.length=l.length/\m.length=l.length/\∀j e,nth r j=some e->∃c d,nth l j=some c/\nth m j=some d/\f0u c d=some e
 | [],[],r,h=>by simp only [d0e,Option.some.injEq] at h;subst h;simp [nth]
 | [],_::_,r,h=>by simp [d0e] at h
 |_::_,[],r,h=>by simp [d0e] at h
 |c::l,d::m,r,h=>by
  simp only [d0e] at h;split at h
  .rename_i e r' he hr;simp only [Option.some.injEq] at h;subst h;obtain ⟨h1,h2,h3⟩:=j0m l m r' hr;refine ⟨by simp [h1],by simp [h2],?_⟩;intro j e' hj;cases j with
   |zero=>simp only [nth,Option.some.injEq] at hj;subst hj;exact ⟨c,d,rfl,rfl,he⟩
   |succ j=>simp only [nth] at hj⊢;exact h3 j e' hj
  .cases h
end ops
end Go.Sy
namespace Go.Sy
open Go.RowKit
section ops
theorem q0H (k:IntKind):d0p k k=true:=by cases k<;>rfl
variable {P:Program} {T:Tab} {g:G} {vs:VS} {a:Act} {w:World} {r:SV} {U:a0g} {b:Nat} {t:List Nat} {H:a0g} {nx:Nat}
theorem l0v:∀l2:List BCol,d0e (m0D 0 0 l2) l2=some l2
 | []=>rfl
 |c::l=>by
  simp only [m0D,d0e];rw [l0v l];cases c with
  |sc c=>cases c<;>simp [BCol.seg,Col.seg,f0u,seg,q0H]
  |svs l=>simp [BCol.seg,f0u,seg]
  |own h ns=>simp [BCol.seg,f0u,seg]
  |ptrs h n=>simp [BCol.seg,f0u,seg]
  |arrs n k r=>simp [BCol.seg,f0u,seg]
theorem m0Q (hg:g.glob) (hH:Holds g vs.heap w) (hn:∀q,g nx q=none) {o:Oper} {ty ty2 e:TypeId} {x y:Operand} {ti:TI} {d2:TypeDesc} {i:TypeInfo} {z:Value} {hd' q i' n m n2:Nat} {l l2:List BCol} (ho:o.op= .call ⟨.builtin .append,#[x,y],#[ty,ty2]⟩)
  (hd:P.underlying ty=some (.slice e)) (hd2:P.underlying ty2=some d2) (hk2:(∃e2,d2= .slice e2)\/d2= .string) (hi:P.info? e=some i) (hz:i.zero=some z) (hsz:i.size=ti.el) (hby:i.bytes=ti.eb) (hel:0<ti.el)
  (hxv:Rv g (.sl hd' q i' n) (a.eval x)) (hent:Ent vs.heap hd' q false (.cols m l)) (hle:l.length=ti.el) (hm:i'+n=m) (hsrc:SrcOk P g w ti.el (a.eval y) n2 l2) (hbd:(n+n2+500)*(ti.eb+1)<=70368744177664):b0h P a o w g vs.heap nx (.sl nx 0 0 (n+n2)) (a0L vs.heap hd' q (.cols m l)) 1:=by
 have hszr:∀w,(sizeOf e).run P w= .ok ti.el w:=fun w=>by simp [sizeOf,typeInfo,hi,hsz]
 have hexec:∀{v':Value} {w':World},(Builtin.append_ #[ty,ty2] o.type #[a.eval x,a.eval y]).run P w= .ok v' w'->(execOp a.eval o).run P w= .ok (.value v') w':=by
  intro v' w' hr;simp [execOp,ho,resolve,invoke,builtin,hr]
 obtain ⟨base,c,hxe,hnc,hz'⟩:=rsv hxv;have hso:=f0D (P:=P) hH hent hxv (by omega) ti.el hle;obtain ⟨old,o1,o2,o3,o4⟩:=hso.first n (d0M _)
 rw [hxe] at o1;obtain ⟨cs,k1,k2,k3,k4⟩:=hsrc.first n2 (d0M _)
 obtain ⟨β,hβ,hB⟩:=hH.blk _ _ _ _ hent;have hes:β.es=ti.el:=hB.es.trans hle;obtain ⟨hb,e1,e2,e3,e4,e5⟩:=m0H (b':= .cols m l) hent;have ent:∀h' q' ro' b',Ent (a0L vs.heap hd' q (.cols m l)++vs.heap) h' q' ro' b'->(h'=hd'/\q'=q/\ro'=false/\b'= .cols m l)\/(¬(h'=hd'/\q'=q)/\Ent vs.heap h' q' ro' b'):=by
  intro h' q' ro' b' hx;rw [e2] at hx;simp only [i0k,y0V] at hx;rcases a0l.1 hx with ⟨e,hb',k1,k2,k3⟩|⟨e,hx⟩
  .cases k1;subst e;rcases (e5 q' b').1 k2 with ⟨rfl,rfl⟩|⟨hne,hi⟩
   .exact .inl ⟨rfl,rfl,k3.symm.trans e4,rfl⟩
   .exact .inr ⟨fun x=>hne x.2,hb,e1,hi,e3.trans (e4.symm.trans k3)⟩
  .exact .inr ⟨fun x=>e x.1.symm,hx⟩
 have org:0<β.cap->w.heap.size<=β.blk\/∃h0 q0 b0 β0,Ent vs.heap h0 q0 false b0/\g h0 q0=some β0/\0<β0.cap/\β0.blk=β.blk/\∀h q' ro b,Ent (a0L vs.heap hd' q (.cols m l)++vs.heap) h q' ro b->¬(h=hd'/\q'=q)->¬(h=h0/\q'=q0):=
  fun hc=> .inr ⟨hd',q,_,β,hent,hβ,hc,rfl,fun _ _ _ _ _ h=>h⟩
 have born:∀β1:Base,∀h q,g h q=none->¬(nx<=h/\h<nx+1)->(g.add nx β1) h q=none:=by
  intro β1 h q hh hnn;unfold G.add;split
  .rename_i e;exact absurd ⟨Nat.le_of_eq e.1.symm,by omega⟩ hnn
  .exact hh
 have p0j:∀β1:Base,(g.add nx β1) nx 0=some β1:=fun β1=>by simp [G.add]
 have hle':∀β1:Base,G.le g (g.add nx β1):=fun β1=>G.le_add _ (hn 0)
 rcases f0m c (n+n2) with hgrow|hfit
 .obtain ⟨hb1,hb2⟩:=l0t hgrow hbd;obtain ⟨cap,w',hcap,hrun,hheap,hos,htp,hout⟩:=d0T (P:=P) (w:=w) (ty:=o.type) hd hd2 hk2 hi hsz hz (base:=base) (x:=a.eval y) hsrc.len k1 o1 hgrow hb2 (by rw [hby];exact hb1);rw [<-hxe] at hrun;have hkeep:∀k,k<w.heap.size->w'.heap[k]? =w.heap[k]?:=fun k hk=>by rw [hheap,w0C hk];exact (d0k hk).symm
  refine ⟨_,w',g.add nx ⟨w.heap.size,0,ti.el,cap⟩,.inl (hexec hrun),b0T (h1:=hd') (q1:=q) (b1:= .cols m l) (β1:=β) hH (hle' _) (born _) ?_ ent (hle' _ _ _ _ hβ) (b0o hB (hle' _) (by rw [hheap];simp) (fun hc=>hkeep _ (hB.lt hc))) org hos htp hout (by rw [hheap];simp) (fun k hk _=>hkeep k hk)⟩;simp only [Rv];exact ⟨_,_,rfl,hcap,.inr ⟨_,p0j _,by simp [Base.addr],by simp⟩⟩
 .rcases i0m c with hc0|hc0
  .have hcs0:cs= #[]:=s0R (by rw [k2,show n2=0 from by omega];simp);have hst:m0E P w w (n*ti.el) cs base:=by
    cases base with
    |none=>rfl
    |some ad=>simp [m0E,hcs0,storeCells]
   have hrun:=b0W (P:=P) (ty:=o.type) hd hd2 hk2 hszr (base:=base) (x:=a.eval y) hsrc.len (k1 w rfl) hfit hst;rw [<-hxe] at hrun;refine ⟨_,w,g.add nx ⟨0,0,ti.el,0⟩,.inl (hexec hrun),b0T (h1:=hd') (q1:=q) (b1:= .cols m l) (β1:=β) hH (hle' _) (born _) ?_ ent (hle' _ _ _ _ hβ) (b0o hB (hle' _) (d0M _) (fun _=>rfl)) org rfl rfl rfl (d0M _) (fun _ _ _=>rfl)⟩;simp only [Rv];exact ⟨base,c,rfl,hfit,.inl hc0⟩
  .rcases hz' with hz'|⟨β',hβ',hba,hicap⟩
   .omega
   rw [hβ] at hβ';cases hβ';have hsum:(i'+n)*ti.el+n2*ti.el=(i'+n+n2)*ti.el:=by rw [<-Nat.add_mul]
   obtain ⟨w',p1,p2,p3,p4,p5,p6,p7,p8⟩:=f0A (P:=P) hB (p:=(i'+n)*ti.el) (ms:=cs.toList) k3 (by
    simp only [o0w,k2,hes,hsum];exact j0c _ (by omega))
   have hadd:(β.addr i' 0).add (n*ti.el)=⟨β.blk,β.off+(i'+n)*ti.el,none⟩:=by
    rw [c0n];unfold Base.addr;rw [hes,Nat.add_mul];congr 1;omega
   have hst:m0E P w w' (n*ti.el) cs base:=by
    rw [hba];simp only [m0E];rw [hadd];exact p1
   have hrun:=b0W (P:=P) (ty:=o.type) hd hd2 hk2 hszr (base:=base) (x:=a.eval y) hsrc.len (k1 w rfl) hfit hst;rw [<-hxe] at hrun;have ea:∀x j,β.addr x j=⟨β.blk,β.off+(x*ti.el+j),none⟩:=by
    intro x j;unfold Base.addr;rw [hes];congr 1;omega
   have nin:∀x j,j<ti.el->x<m->¬((i'+n)*ti.el<=x*ti.el+j/\x*ti.el+j<(i'+n)*ti.el+cs.toList.length):=by
    intro x j hj h1;have:=d0a (show x<i'+n by omega) hj;omega
   have same:∀x j,j<ti.el->x<m->w'.cell? (β.addr x j)=w.cell? (β.addr x j):=by
    intro x j hj hx;rw [ea,p8,if_neg (nin x j hj hx)]
   refine ⟨_,w',g.add nx ⟨β.blk,β.off+i'*ti.el,ti.el,c⟩,.inl (hexec hrun),b0T (h1:=hd') (q1:=q) (b1:= .cols m l) (β1:=β) hH (hle' _) (born _) ?_ ent (hle' _ _ _ _ hβ) ?_ org p3 p4 p5 (by omega) (fun k _ hk=>p6 k (fun e=>hk ⟨by omega,e⟩))⟩
   .simp only [Rv];refine ⟨base,c,rfl,hfit,.inr ⟨_,p0j _,?_,by simp⟩⟩;rw [hba];simp only [Base.addr];congr 2;rw [hes];omega
   .refine ⟨fun hc=>by rw [p2];exact hB.lt hc,hB.es,hB.len,hB.cap,?_,?_,?_,trivial⟩
    .intro x j sv hx hj;have hx':x<m:=hx;have hj':j<ti.el:=by
      simp only [Blk.at] at hj;split at hj
      .rename_i e' he';have:=b0y he';omega
      .cases hj
     obtain ⟨u,u1,u2⟩:=hB.cell x j sv hx hj;exact ⟨u,by rw [same x j hj' hx'];exact u1,Rv.mono (hle' _) _ _ u2⟩
    .intro x j v hx hj hv;have hx':x<m:=hx;rw [same x j (by rw [<-hes];exact hj) hx'] at hv;exact hB.one x j v hx hj hv
    .intro _ x j hx hj;obtain ⟨f1,u,f2⟩:=hB.rw rfl x j hx hj;rw [ea] at f1 f2⊢;refine ⟨by rw [p7];exact f1,?_⟩;rw [p8];split
     .rename_i hr;exact ⟨_,d0L (by omega)⟩
     .exact ⟨u,f2⟩
theorem q0I (hT:a0U P T) (hg:g.glob) (he:b0r g vs a) (hH:Holds g vs.heap w) (hn:b=1->∀q,g nx q=none) {o:Oper} {ty ty2:TypeId} {x y:Operand} {s v:SV} {ti ti2:TI} (ho:o.op= .call ⟨.builtin .append,#[x,y],#[ty,ty2]⟩) (hx:gv vs x=some s) (hy:gv vs y=some v) (hti:a0B T ty=some ti) (hti2:a0B T ty2=some ti2)
  (hc:(Nat.beq ti.kind 6&&c0D ti.ez&&Nat.beq ti.ez.length ti.el&& !Nat.beq ti.el 0&&(Nat.beq ti2.kind 6||Nat.beq ti2.kind 3))=true) (h:(j0R vs nx ti s v).is r U b t):b0h P a o w g vs.heap nx r U b:=by
 simp only [c0q,i0o,r0b] at hc;obtain ⟨⟨⟨⟨c1,c2⟩,c3⟩,c4⟩,c5⟩:=hc;obtain ⟨e,i,z,hd,hi,hz,hsz,hby,hzs,hrz,_⟩:=f0B (hT _ _ hti) c1 (.inr trivial) c3 c4;have hk2:∃d2,P.underlying ty2=some d2/\((∃e2,d2= .slice e2)\/d2= .string):=by
  rcases c5 with c5|c5
  .obtain ⟨d,h1,h2⟩:=b0U (hT _ _ hti2) c5;exact ⟨d,h1,.inl (by cases d<;>first|exact ⟨_,rfl⟩|(exact absurd h2 (by simp [a0N])))⟩
  .obtain ⟨d,h1,h2⟩:=b0U (hT _ _ hti2) c5;exact ⟨d,h1,.inr (by cases d<;>first|rfl|(exact absurd h2 (by simp [a0N])))⟩
 obtain ⟨d2,hd2,hk2⟩:=hk2;have hel:0<ti.el:=by rcases i0m ti.el with e|e;rw [e] at c4;simp at c4;exact e
 have hszr:∀w,(sizeOf e).run P w= .ok ti.el w:=fun w=>by simp [sizeOf,typeInfo,hi,hsz]
 have hxv:=a0w hg he hx;have hexec:∀{v':Value} {w':World},(Builtin.append_ #[ty,ty2] o.type #[a.eval x,a.eval y]).run P w= .ok v' w'->(execOp a.eval o).run P w= .ok (.value v') w':=by
  intro v' w' hr;simp [execOp,ho,resolve,invoke,builtin,hr]
 have fin:(∀q,g nx q=none)->∀(base:Option Addr) (n c n2:Nat) (L l2 R:List BCol) (old:Array Value) (D:a0g),a.eval x= .slice base n c->n<=c->SrcOk P g w ti.el (a.eval y) n2 l2->
   (∀w1:World,w1.heap=w.heap->(Builtin.firstCells ti.el n (.slice base n c)).run P w1= .ok old w1)->old.size=n*ti.el->(∀u∈old.toList,u.oneCell'=true)->L.length=ti.el->(∀c∈L,c.len=n)->(∀i j c,i<n->nth L j=some c->∃u,old[i*ti.el+j]? =some u/\Rv g (c.at i) u)->
   d0e L l2=some R->(n+n2+500)*(ti.eb+1)<=70368744177664->(∀h q ro b,Ent (D++vs.heap) h q ro b->Ent vs.heap h q ro b)->
   (0<c->n+n2<=c->∃hd q b0 β i,Ent vs.heap hd q false b0/\g hd q=some β/\base=some (β.addr i 0)/\i+c<=β.cap/\β.es=ti.el/\(∀x j cc,x<n->nth L j=some cc->∃u,w.cell? (β.addr (i+x) j)=some u/\Rv g (cc.at x) u/\u.oneCell'=true)/\∀h' q' ro' b',Ent (D++vs.heap) h' q' ro' b'->¬(h'=hd/\q'=q))->
   b0h P a o w g vs.heap nx (.sl nx 0 0 (n+n2)) ((nx,some (.one false (.cols (n+n2) R)))::D) 1:=by
  intro hn base n c n2 L l2 R old D hxe hnc hsrc hold hosz hoone hL hLl hLc hcat hbd hD hin;obtain ⟨q1,q2,q3⟩:=j0m L l2 R hcat;obtain ⟨cs,k1,k2,k3,k4⟩:=hsrc.first n2 (d0M _)
  have hRl:R.length=ti.el:=by rw [q1,hL]
  have hRlen:∀c∈R,c.len=n+n2:=by
   intro e' he';obtain ⟨j,hj⟩:=c0h he';obtain ⟨c',d',h1,h2,h3⟩:=q3 j e' hj;rw [(l0u h3).1,hLl c' (b0d h1),hsrc.lens d' (b0d h2)]
  have atR:∀j e' x,nth R j=some e'->x<n+n2->(x<n/\∃c',nth L j=some c'/\e'.at x=c'.at x)\/(n<=x/\∃d',nth l2 j=some d'/\e'.at x=d'.at (x-n)):=by
   intro j e' x hj hx;obtain ⟨c',d',h1,h2,h3⟩:=q3 j e' hj;obtain ⟨m1,m2,m3⟩:=l0u h3;have hcl:=hLl c' (b0d h1);rcases f0m x n with hxn|hxn
   .exact .inl ⟨hxn,c',h1,m2 x (by omega)⟩
   .refine .inr ⟨hxn,d',h2,?_⟩;have:=m3 (x-n);rw [hcl,show n+(x-n)=x from by omega] at this;exact this
  have ent:∀h q ro b,Ent ((nx,some (.one false (.cols (n+n2) R)))::D++vs.heap) h q ro b->(h=nx/\q=0/\ro=false/\b= .cols (n+n2) R)\/(¬(h=nx/\q=0)/\Ent vs.heap h q ro b):=by
   intro h q ro b he';rw [i0k] at he';rcases a0l.1 he' with ⟨e,hb,e1,e2,e3⟩|⟨e,he'⟩
   .cases e1;simp only [HB.is] at e2;exact .inl ⟨e.symm,e2.1,e3.symm,e2.2⟩
   .exact .inr ⟨fun x=>e x.1.symm,hD h q ro b he'⟩
  have born:∀β1:Base,∀h q,g h q=none->¬(nx<=h/\h<nx+1)->(g.add nx β1) h q=none:=by
   intro β1 h q hh hnn;unfold G.add;split
   .rename_i e;exact absurd ⟨Nat.le_of_eq e.1.symm,by omega⟩ hnn
   .exact hh
  have p0j:∀β1:Base,(g.add nx β1) nx 0=some β1:=fun β1=>by simp [G.add]
  rcases f0m c (n+n2) with hgrow|hfit
  .
   obtain ⟨hb1,hb2⟩:=l0t hgrow hbd;obtain ⟨cap,w',hcap,hrun,hheap,hos,htp,hout⟩:=d0T (P:=P) (w:=w) (ty:=o.type) hd hd2 hk2 hi hsz hz (base:=base) (x:=a.eval y) hsrc.len k1 hold hgrow hb2 (by rw [hby];exact hb1);rw [<-hxe] at hrun;have hzc:(Builtin.zeroCells z.cells (cap-(n+n2))).size=(cap-(n+n2))*ti.el:=by simp [Builtin.zeroCells,hzs]
   have hall:∀x,x<n*ti.el->(old++cs++Builtin.zeroCells z.cells (cap-(n+n2)))[x]? =old[x]?:=by
    intro x hx;rw [r0f (by simp only [b1B];omega),r0f (by omega)]
   have hall2:∀x,x<n2*ti.el->(old++cs++Builtin.zeroCells z.cells (cap-(n+n2)))[n*ti.el+x]? =cs[x]?:=by
    intro x hx;rw [r0f (by simp only [b1B];omega),Array.getElem?_append_right (by omega)];congr 1;omega
   have hB:=q0C (g:=g) (nx:=nx) (bl:= .cols (n+n2) R) (cap:=cap) hheap (.inl rfl) (hn 0) hRlen (by
     intro u hu;simp only [u0Y,k0Q] at hu;rcases hu with (hu|hu)|hu
     .exact hoone u hu
     .exact k3 u hu
     .simp only [Builtin.zeroCells,Array.toList_map,m0l] at hu;obtain ⟨x,hx,rfl⟩:=hu;have hm:x%z.cells.size<z.cells.size:=b1W _ (by omega);rw [getElem!_pos z.cells _ hm];exact b0V _ _ c2 (hrz g) _ (by simp)) (by
     simp only [Blk.es,hRl,b1B,hosz,k2,hzc,<-Nat.add_mul];exact j0c _ (by omega)) (fun x hx=>by simp only [Blk.has] at hx;omega) (by
     intro x j sv hx hj;simp only [Blk.has] at hx;simp only [Blk.at] at hj;split at hj
     .rename_i e' he';simp only [Option.some.injEq] at hj;subst hj;have hjl:=b0y he';rw [hRl] at hjl;simp only [Blk.es,hRl];rcases atR j e' x he' hx with ⟨hxn,c',h1,h2⟩|⟨hxn,d',h1,h2⟩
      .obtain ⟨u,u1,u2⟩:=hLc x j c' hxn h1;rw [hall _ (d0a hxn hjl),h2];exact ⟨u,u1,u2⟩
      .obtain ⟨u,u1,u2⟩:=k4 (x-n) j d' (by omega) h1;refine ⟨u,?_,by rw [h2];exact u2⟩;have:=hall2 ((x-n)*ti.el+j) (d0a (by omega) hjl);rw [<-u1,<-this];congr 1;have:x*ti.el=n*ti.el+(x-n)*ti.el:=by rw [<-Nat.add_mul];congr 1;omega
       omega
     .cases hj)
   refine ⟨_,w',_,.inl (hexec hrun),b0T (h1:=nx) (q1:=0) (b1:= .cols (n+n2) R) hH (G.le_add _ (hn 0)) (born _) (l0l hcap) ent (p0j _) hB (fun _=> .inl (d0M _)) hos htp hout (by rw [hheap];simp) ?_⟩;intro k hk _;rw [hheap,w0C hk];exact (d0k hk).symm
  .rcases i0m c with hc0|hc0
   .
    have hcs0:cs= #[]:=s0R (by rw [k2,show n2=0 from by omega];simp);have hst:m0E P w w (n*ti.el) cs base:=by
     cases base with
     |none=>rfl
     |some ad=>simp [m0E,hcs0,storeCells]
    have hrun:=b0W (P:=P) (ty:=o.type) hd hd2 hk2 hszr (base:=base) (x:=a.eval y) hsrc.len (k1 w rfl) hfit hst;rw [<-hxe] at hrun;have hz0:n+n2=0:=by omega
    refine ⟨_,w,g.add nx ⟨0,0,ti.el,0⟩,.inl (hexec hrun),b0T (h1:=nx) (q1:=0) (b1:= .cols (n+n2) R) (β1:=⟨0,0,ti.el,0⟩) hH (G.le_add _ (hn 0)) (born _) ?_ ent (p0j _) ?_ (fun hc=>by simp at hc) rfl rfl rfl (d0M _) (fun _ _ _=>rfl)⟩
    .simp only [Rv];exact ⟨base,c,rfl,hfit,.inl hc0⟩
    .refine ⟨fun hc=>by simp at hc,by simp [Blk.es,hRl],hRlen,fun x hx=>by simp only [Blk.has] at hx;omega,?_,?_,?_,trivial⟩
     .intro x j sv hx;simp only [Blk.has] at hx;omega
     .intro x j v hx;simp only [Blk.has] at hx;omega
     .intro _ x j hx;simp at hx
   .
    obtain ⟨hd',q,b0,β,i',hent,hβ,hbase,hicap,hes,hLw,hnot⟩:=hin hc0 hfit;obtain ⟨β',hβ',hB⟩:=hH.blk _ _ _ _ hent;rw [hβ] at hβ';cases hβ';have hsum:(i'+n)*ti.el+n2*ti.el=(i'+n+n2)*ti.el:=by rw [<-Nat.add_mul]
    obtain ⟨w',p1,p2,p3,p4,p5,p6,p7,p8⟩:=f0A (P:=P) hB (p:=(i'+n)*ti.el) (ms:=cs.toList) k3 (by
     simp only [o0w,k2,hes,hsum];exact j0c _ (by omega))
    have hadd:(β.addr i' 0).add (n*ti.el)=⟨β.blk,β.off+(i'+n)*ti.el,none⟩:=by
     rw [c0n];unfold Base.addr;rw [hes,Nat.add_mul];congr 1;omega
    have hst:m0E P w w' (n*ti.el) cs base:=by
     rw [hbase];simp only [m0E];rw [hadd];exact p1
    have hrun:=b0W (P:=P) (ty:=o.type) hd hd2 hk2 hszr (base:=base) (x:=a.eval y) hsrc.len (k1 w rfl) hfit hst;rw [<-hxe] at hrun;let β1:Base:=⟨β.blk,β.off+i'*ti.el,ti.el,c⟩
    have ea:∀x j,β1.addr x j=⟨β.blk,β.off+((i'+x)*ti.el+j),none⟩:=by
     intro x j;simp only [β1,Base.addr];congr 1;rw [Nat.add_mul];omega
    have eb:∀x j,β.addr (i'+x) j=⟨β.blk,β.off+((i'+x)*ti.el+j),none⟩:=by
     intro x j;unfold Base.addr;rw [hes];congr 1;omega
    have inr:∀x j,j<ti.el->n<=x->x<n+n2->((i'+n)*ti.el<=(i'+x)*ti.el+j/\(i'+x)*ti.el+j<(i'+n)*ti.el+cs.toList.length/\(i'+x)*ti.el+j-(i'+n)*ti.el=(x-n)*ti.el+j):=by
     intro x j hj h1 h2;have e1:(i'+x)*ti.el=(i'+n)*ti.el+(x-n)*ti.el:=by rw [<-Nat.add_mul];congr 1;omega
     have e2:=d0a (show x-n<n2 by omega) hj;simp only [o0w,k2];omega
    have nin:∀x j,j<ti.el->x<n->¬((i'+n)*ti.el<=(i'+x)*ti.el+j/\(i'+x)*ti.el+j<(i'+n)*ti.el+cs.toList.length):=by
     intro x j hj h1;have:=d0a (show i'+x<i'+n by omega) hj;omega
    have cellN:∀x j e',x<n+n2->nth R j=some e'->∃u,w'.cell? (β1.addr x j)=some u/\Rv g (e'.at x) u/\u.oneCell'=true:=by
     intro x j e' hx he';have hjl:=b0y he';rw [hRl] at hjl;rw [ea,p8];rcases atR j e' x he' hx with ⟨hxn,c',h1,h2⟩|⟨hxn,d',h1,h2⟩
     .rw [if_neg (nin x j hjl hxn),<-eb,h2];exact hLw x j c' hxn h1
     .obtain ⟨r1,r2,r3⟩:=inr x j hjl hxn hx;obtain ⟨u,u1,u2⟩:=k4 (x-n) j d' (by omega) h1;rw [if_pos ⟨r1,r2⟩,r3,h2];have u1':cs.toList[(x-n)*ti.el+j]? =some u:=by simpa using u1
      exact ⟨u,u1',u2,k3 u (s0h u1')⟩
    refine ⟨_,w',g.add nx β1,.inl (hexec hrun),b0T (h1:=nx) (q1:=0) (b1:= .cols (n+n2) R) (β1:=β1) hH (G.le_add _ (hn 0)) (born _) ?_ ent (p0j _) ?_ (fun _=> .inr ⟨hd',q,b0,β,hent,hβ,by omega,rfl,?_⟩) p3 p4 p5 (by omega) (fun k _ hk=>p6 k (fun e=>hk ⟨hc0,e⟩))⟩
    .simp only [Rv];refine ⟨base,c,rfl,hfit,.inr ⟨β1,p0j _,?_,by simp [β1]⟩⟩;rw [hbase];simp only [β1,Base.addr];congr 2;rw [hes];omega
    .refine ⟨fun _=>by rw [p2];exact hB.lt (by omega),by simp [β1,Blk.es,hRl],hRlen,fun x hx=>by simp only [Blk.has] at hx;simp only [β1];omega,?_,?_,?_,trivial⟩
     .intro x j sv hx hj;simp only [Blk.has] at hx;simp only [Blk.at] at hj;split at hj
      .rename_i e' he';simp only [Option.some.injEq] at hj;subst hj;obtain ⟨u,u1,u2,_⟩:=cellN x j e' hx he';exact ⟨u,u1,Rv.mono (G.le_add _ (hn 0)) _ _ u2⟩
      .cases hj
     .intro x j v hx hj hv;simp only [Blk.has] at hx;have hj':j<R.length:=by rw [hRl];exact hj
      obtain ⟨u,u1,_,u3⟩:=cellN x j R[j] hx (by rw [a0S];exact d0L hj');rw [hv] at u1;cases u1;exact u3
     .intro _ x j hx hj;have hx':i'+x<β.cap:=by simp only [β1] at hx;omega
      obtain ⟨f1,u,f2⟩:=hB.rw rfl (i'+x) j hx' (by rw [hes];exact hj);rw [eb] at f1 f2;rw [ea];refine ⟨by rw [p7];exact f1,?_⟩;rw [p8];split
      .rename_i hr;exact ⟨_,d0L (by omega)⟩
      .exact ⟨u,f2⟩
    .intro h' q' ro' b' he' hne;rw [i0k] at he';rcases a0l.1 he' with ⟨e,hb,e1,e2,e3⟩|⟨e,he'⟩
     .cases e1;simp only [HB.is] at e2;exact absurd ⟨e.symm,e2.1⟩ hne
     .exact hnot h' q' ro' b' he'
 have hc3:=c0k c3;obtain ⟨z1,z2,z3⟩:=e0z 0 ti.ez;have empty:∀ad,a.eval x= .slice ad 0 0->(g0T vs ti v (fun n2 l2 t=> .when ((n2+500)*(ti.eb+1)<=70368744177664) (.sl nx 0 0 n2) [(nx,some (.one false (.cols n2 l2)))] 1 t)).is r U b t->b0h P a o w g vs.heap nx r U b:=by
  intro ad hxe h;obtain ⟨n2,l2,tt,h,hsrc⟩:=k0b hg he hH hy (hT _ _ hti) c1 c3 c4 h;obtain ⟨hb,rfl,rfl,rfl,_⟩:=h;have:=fin (hn rfl) ad 0 0 n2 (m0D 0 0 l2) l2 l2 #[] [] hxe (d0M _) hsrc (fun w1 _=>by cases ad<;>simp [Builtin.firstCells,loadCells,loadCellsFrom]) (by simp) (by simp) (by rw [(g0l 0 0 l2).1];exact hsrc.cols) ?_ (fun i j c hi=>by omega) ?_ (by simpa using hb) (fun _ _ _ _ h=>h) (fun hc=>by omega)
  .simpa using this
  .intro c hc;obtain ⟨j,hj⟩:=c0h hc;rw [(g0l 0 0 l2).2 j] at hj;cases hc':nth l2 j with
   |none=>rw [hc'] at hj;cases hj
   |some y=>rw [hc'] at hj;cases hj;exact BCol.seg_len y 0 0 _ rfl (k0R _)
  .exact l0v l2
 unfold j0R at h;split at h
 .rename_i hd' q i' n;replace h:=a0A h;obtain ⟨ro,bl,hent,h⟩:=h;split at h
  .rename_i m l;replace h:=a0i h;obtain ⟨hle,h⟩:=h;have hle':=c0k hle;obtain ⟨n2,l2,tt,h,hsrc⟩:=k0b hg he hH hy (hT _ _ hti) c1 c3 c4 h;split at h
   .rename_i R hR;obtain ⟨⟨hm,hb⟩,rfl,rfl,rfl,_⟩:=h;obtain ⟨base,c,hxe,hnc,hz'⟩:=rsv hxv;have hso:=f0D (P:=P) hH hent hxv (by omega) ti.el hle';obtain ⟨old,o1,o2,o3,o4⟩:=hso.first n (d0M _)
    obtain ⟨hb',e1,e2,e3⟩:=t0e hent;have hnot:∀h' q' ro' b',Ent (d0Y vs.heap hd' q++vs.heap) h' q' ro' b'->¬(h'=hd'/\q'=q)/\Ent vs.heap h' q' ro' b':=by
     intro h' q' ro' b' he';rw [e2] at he';simp only [i0k,y0V] at he';rcases a0l.1 he' with ⟨e,hb2,k1,k2,k3⟩|⟨e,he'⟩
     .obtain ⟨m1,m2⟩:=e3 hb2 k1;obtain ⟨m3,m4⟩:=m2 q' b' k2;subst e;exact ⟨fun x=>m3 x.2,hb',e1,m4,m1.symm.trans k3⟩
     .exact ⟨fun x=>e x.1.symm,he'⟩
    obtain ⟨β,hβ,hB⟩:=hH.blk _ _ _ _ hent;have hes:β.es=ti.el:=hB.es.trans hle';obtain ⟨L,hLd⟩:∃L,L=(bif Nat.beq i' 0 then l else m0D i' n l):=⟨_,rfl⟩;rw [<-hLd] at hR;have hL:L.length=ti.el/\(∀c∈L,c.len=n)/\∀x j cc,x<n->nth L j=some cc->∃y,nth l j=some y/\cc.at x=y.at (i'+x):=by
     cases hi0:Nat.beq i' 0 with
     |true=>
      have e0:=c0k hi0;rw [hi0] at hLd;simp only [cond_true] at hLd;subst hLd;refine ⟨hle',fun c hc=>by rw [hB.len c hc];omega,fun x j cc hx hj=>⟨cc,hj,by rw [e0,i0s]⟩⟩
     |false=>
      rw [hi0] at hLd;simp only [cond_false] at hLd;subst hLd;refine ⟨hso.cols,hso.lens,fun x j cc hx hj=> ?_⟩;rw [(g0l i' n l).2 j] at hj;cases hc':nth l j with
      |none=>rw [hc'] at hj;cases hj
      |some y=>rw [hc'] at hj;cases hj;exact ⟨y,rfl,BCol.seg_at _ _ _ _ hx (by rw [hB.len _ (b0d hc')];omega)⟩
    have o4':∀x j cc,x<n->nth L j=some cc->∃u,old[x*ti.el+j]? =some u/\Rv g (cc.at x) u:=by
     intro x j cc hx hj;obtain ⟨y,h1,h2⟩:=hL.2.2 x j cc hx hj;obtain ⟨u,u1,u2⟩:=o4 x j (y.seg i' n) hx (by rw [(g0l i' n l).2 j,h1];rfl);exact ⟨u,u1,by rw [h2,<-BCol.seg_at _ _ _ _ hx (by rw [hB.len _ (b0d h1)];omega)];exact u2⟩
    refine fin (hn rfl) base n c n2 L l2 R old (d0Y vs.heap hd' q) hxe hnc hsrc (by rw [<-hxe];exact o1) o2 o3 hL.1 hL.2.1 o4' hR hb (fun h' q' ro' b' he'=>(hnot h' q' ro' b' he').2) ?_;intro hc0 _;rcases hz' with hz'|⟨β',hβ',hba,hcap⟩
    .omega
    rw [hβ] at hβ';cases hβ';refine ⟨hd',q,_,β,i',hent,hβ,hba,hcap,hes,?_,fun h' q' ro' b' he'=>(hnot h' q' ro' b' he').1⟩;intro x j cc hx hj;obtain ⟨y,h1,h2⟩:=hL.2.2 x j cc hx hj;have hjl:=b0y h1;obtain ⟨u,u1,u2⟩:=hB.cell (i'+x) j (y.at (i'+x)) (by simp only [Blk.has];omega) (by simp [Blk.at,h1]);exact ⟨u,u1,by rw [h2];exact u2,hB.one (i'+x) j u (by simp only [Blk.has];omega) (by rw [hB.es];exact hjl) u1⟩
   .obtain ⟨⟨hm,hb⟩,rfl,rfl,rfl,_⟩:=h;exact m0Q hg hH (hn rfl) ho hd hd2 hk2 hi hz hsz hby hel hxv hent hle' hm hsrc hb
  .exact h.elim
 .exact empty none (by simpa only [Rv] using hxv) h
 .obtain ⟨ad,hxe⟩:∃ad,a.eval x= .slice ad 0 0:=by simpa only [Rv] using hxv
  exact empty ad hxe h
 .exact h.elim
end ops
end Go.Sy
namespace Go.Sy
open Go.RowKit
section ops
variable {P:Program} {T:Tab} {g:G} {vs:VS} {a:Act} {w:World} {r:SV} {U:a0g} {b:Nat} {t:List Nat} {H:a0g} {nx:Nat}
theorem j0n {w':World} {v:Value} {h q:Nat} {b b1:Blk} {β:Base} (hH:Holds g H w) (he:Ent H h q false b) (hg:g h q=some β) (hrv:Rv g r v)
  (hB:BlkAt g β false b1 w')
  (os:w'.os=w.os) (tape:w'.tape=w.tape) (out:w'.output=w.output) (size:w.heap.size<=w'.heap.size) (blk:∀k,k<w.heap.size->¬(0<β.cap/\k=β.blk)->w'.heap[k]? =w.heap[k]?):After g H nx w r (a0L H h q b1) 0 g v w':=by
 obtain ⟨hb,e1,e2,e3,e4,e5⟩:=m0H (b':=b1) he;have ent:∀h' q' ro' b',Ent (a0L H h q b1++H) h' q' ro' b'->(h'=h/\q'=q/\ro'=false/\b'=b1)\/(¬(h'=h/\q'=q)/\Ent H h' q' ro' b'):=by
  intro h' q' ro' b' hx;rw [e2] at hx;simp only [i0k,y0V] at hx;rcases a0l.1 hx with ⟨e,hb',k1,k2,k3⟩|⟨e,hx⟩
  .cases k1;subst e;rcases (e5 q' b').1 k2 with ⟨rfl,rfl⟩|⟨hne,hi⟩
   .exact .inl ⟨rfl,rfl,k3.symm.trans e4,rfl⟩
   .exact .inr ⟨fun x=>hne x.2,hb,e1,hi,e3.trans (e4.symm.trans k3)⟩
  .exact .inr ⟨fun x=>e x.1.symm,hx⟩
 exact b0T (h1:=h) (q1:=q) (b1:=b1) (β1:=β) hH (G.le.refl g) (fun _ _ h _=>h) hrv ent hg hB (fun hc=> .inr ⟨h,q,b,β,he,hg,hc,rfl,fun _ _ _ _ _ hn=>hn⟩) os tape out size blk
theorem b0z {α:Type} (i k:Nat) (l m:List α) (x:Nat) (d:α) (h1:i+k<=l.length) (h2:k<=m.length):(g0F i k l m).length=l.length/\(g0F i k l m).getD x d=if i<=x/\x<i+k then m.getD (x-i) d else l.getD x d:=by
 have e1:(l.take i).length=i:=by simp;omega
 have e2:(m.take k).length=k:=by simp;omega
 refine ⟨by simp [g0F];omega,?_⟩;simp only [g0F,List.getD];rcases f0m x i with h|h
 .rw [r0d,o0x (by omega),p0N,if_pos h,if_neg (by omega)]
 .rcases f0m x (i+k) with h'|h'
  .rw [r0d,m0m (by omega),e1,o0x (by omega),p0N,if_pos (by omega),if_pos ⟨h,h'⟩]
  .rw [m0m (by simp;omega),if_neg (by omega)];rw [u0m,e1,e2,a1k];congr 2;omega
theorem t0k {i k:Nat} {c d e:BCol} (h:s0V i k c d=some e) (h1:i+k<=c.len) (h2:k<=d.len):e.len=c.len/\∀x,e.at x=if i<=x/\x<i+k then d.at (x-i) else c.at x:=by
 unfold s0V at h;split at h
 .rename_i kk l p m;cases hp:d0p p kk with
  |false=>rw [hp] at h;simp at h
  |true=>
   rw [hp] at h;have:=b0s hp;subst this;simp only [cond_true,Option.some.injEq] at h;subst h;refine ⟨(b0z i k l m 0 0 h1 h2).1,fun x=> ?_⟩;simp only [BCol.at,Col.at];rw [(b0z i k l m x 0 h1 h2).2];split<;>rfl
 .rename_i l m;simp only [Option.some.injEq] at h;subst h;refine ⟨(b0z i k l m 0 ⟨#[]⟩ h1 h2).1,fun x=> ?_⟩;simp only [BCol.at,Col.at];rw [(b0z i k l m x ⟨#[]⟩ h1 h2).2];split<;>rfl
 .rename_i l m;simp only [Option.some.injEq] at h;subst h;refine ⟨(b0z i k l m 0 false h1 h2).1,fun x=> ?_⟩;simp only [BCol.at,Col.at];rw [(b0z i k l m x false h1 h2).2];split<;>rfl
 .rename_i l m;simp only [Option.some.injEq] at h;subst h;refine ⟨(b0z i k l m 0 .unk h1 h2).1,fun x=> ?_⟩;simp only [BCol.at];rw [(b0z i k l m x .unk h1 h2).2]
 .cases h
theorem l0w {i k:Nat}:∀(l m r:List BCol),h0f i k l m=some r->r.length=l.length/\∀j e,nth r j=some e->∃c d,nth l j=some c/\nth m j=some d/\s0V i k c d=some e
 | [],[],r,h=>by simp only [h0f,Option.some.injEq] at h;subst h;simp [nth]
 | [],_::_,r,h=>by simp [h0f] at h
 |_::_,[],r,h=>by simp [h0f] at h
 |c::l,d::m,r,h=>by
  simp only [h0f] at h;split at h
  .rename_i e r' he hr;simp only [Option.some.injEq] at h;subst h;obtain ⟨h1,h3⟩:=l0w l m r' hr;refine ⟨by simp [h1],?_⟩;intro j e' hj;cases j with
   |zero=>simp only [nth,Option.some.injEq] at hj;subst hj;exact ⟨c,d,rfl,rfl,he⟩
   |succ j=>simp only [nth] at hj⊢;exact h3 j e' hj
  .cases h
theorem w0j (hT:a0U P T) (hg:g.glob) (he:b0r g vs a) (hH:Holds g vs.heap w) {o:Oper} {ty:TypeId} {ts:List TypeId} {tt:Array TypeId} (htt:tt.toList=ty::ts) {x y:Operand} {s v:SV} {ti:TI} (ho:o.op= .call ⟨.builtin .copy,#[x,y],tt⟩) (hx:gv vs x=some s) (hy:gv vs y=some v) (hti:a0B T ty=some ti)
  (hc:(Nat.beq ti.kind 6&&Nat.beq ti.ez.length ti.el&& !Nat.beq ti.el 0)=true) (h:(s0W vs ti s v).is r U b t):b0h P a o w g vs.heap nx r U b:=by
 simp only [c0q,i0o] at hc;obtain ⟨⟨c1,c3⟩,c4⟩:=hc;obtain ⟨e,i,z,hd,hi,hz,hsz,hby,hzs,hrz,_⟩:=f0B (hT _ _ hti) c1 (.inr trivial) c3 c4;have hszr:∀w,(sizeOf e).run P w= .ok ti.el w:=fun w=>by simp [sizeOf,typeInfo,hi,hsz]
 have hxv:=a0w hg he hx;have htt0:tt[0]? =some ty:=by rw [<-n0q,htt];rfl
 unfold s0W at h;split at h
 .rename_i hd' q i' n;replace h:=a0A h;obtain ⟨ro,bl,hent,h⟩:=h;split at h
  .rename_i m l;replace h:=a0i h;obtain ⟨hle,h⟩:=h;have hle':=c0k hle;obtain ⟨n2,l2,tt',h,hsrc⟩:=k0b hg he hH hy (hT _ _ hti) c1 c3 c4 h;split at h
   .rename_i R hR;obtain ⟨hm,rfl,rfl,rfl,_⟩:=h;obtain ⟨base,c,hxe,hnc,hz'⟩:=rsv hxv;obtain ⟨β,hβ,hB⟩:=hH.blk _ _ _ _ hent;have hes:β.es=ti.el:=hB.es.trans hle';have hk:min n2 n<=n2:=Nat.min_le_left _ _;have hkn:min n2 n<=n:=Nat.min_le_right _ _;generalize hkk:min n2 n=k at*;obtain ⟨cs,k1,k2,k3,k4⟩:=hsrc.first k hk
    obtain ⟨s1,s2⟩:=l0w l l2 R hR;have hRl:R.length=ti.el:=by rw [s1,hle']
    have colR:∀j e',nth R j=some e'->∃c' d',nth l j=some c'/\nth l2 j=some d'/\e'.len=m/\∀x,e'.at x=if i'<=x/\x<i'+k then d'.at (x-i') else c'.at x:=by
     intro j e' hj;obtain ⟨c',d',h1,h2,h3⟩:=s2 j e' hj;have hl1:=hB.len c' (b0d h1);have hl2:=hsrc.lens d' (b0d h2);obtain ⟨m1,m2⟩:=t0k h3 (by omega) (by omega);exact ⟨c',d',h1,h2,m1.trans hl1,m2⟩
    obtain ⟨w',hst,p2,p3,p4,p5,p6,p7,p8⟩:∃w',m0E P w w' 0 cs base/\w'.heap.size=w.heap.size/\w'.os=w.os/\w'.tape=w.tape/\w'.output=w.output/\(∀kk,¬(0<β.cap/\kk=β.blk)->w'.heap[kk]? =w.heap[kk]?)/\(∀x,w'.frozen? ⟨β.blk,x,none⟩=w.frozen? ⟨β.blk,x,none⟩)/\∀x,w'.cell? ⟨β.blk,β.off+x,none⟩=if i'*β.es<=x/\x<i'*β.es+cs.toList.length then cs.toList[x-i'*β.es]? else w.cell? ⟨β.blk,β.off+x,none⟩:=by
     rcases hz' with hz'|⟨β',hβ',hba,hcap⟩
     .have hk0:k=0:=by omega
      have hcs0:cs= #[]:=s0R (by rw [k2,hk0];simp);refine ⟨w,?_,rfl,rfl,rfl,rfl,fun _ _=>rfl,fun _=>rfl,?_⟩
      .cases base with
       |none=>rfl
       |some ad=>simp [m0E,hcs0,storeCells]
      .intro x;rw [if_neg (by simp only [hcs0,s0f];omega)]
     .rw [hβ] at hβ';cases hβ';obtain ⟨w',p1,p2,p3,p4,p5,p6,p7,p8⟩:=f0A (P:=P) hB (p:=i'*β.es) (ms:=cs.toList) k3 (by
       simp only [o0w,k2,hes,<-Nat.add_mul];exact j0c _ (by omega))
      refine ⟨w',?_,p2,p3,p4,p5,?_,p7,p8⟩
      .rw [hba];simp only [m0E];have:(β.addr i' 0).add 0=⟨β.blk,β.off+i'*β.es,none⟩:=by rw [c0n];unfold Base.addr;simp
       rw [this];exact p1
      .intro kk hkk';by_cases e':kk=β.blk
       .rcases i0m β.cap with hc0|hc0
        .have hcs0:cs= #[]:=s0R (by rw [k2,show k=0 from by omega];simp);rw [hcs0] at p1;simp [storeCells] at p1;rw [p1]
        .exact absurd ⟨hc0,e'⟩ hkk'
       .exact p6 kk e'
    have hrun:(execOp a.eval o).run P w= .ok (.value (.int .i64 (k:Int))) w':=by
     have hmin:Nat.min n2 n=k:=hkk;have h0:(Builtin.copy_ tt o.type #[a.eval x,a.eval y]).run P w= .ok (.int .i64 (k:Int)) w':=by
      rw [hxe];have k1w:=k1 w rfl;cases base with
      |none=>
       simp only [m0E] at hst;subst hst;simp [Builtin.copy_,htt0,run_underlying hd,hsrc.len,hszr,hmin,k1w,goInt]
      |some ad=>
       simp only [m0E] at hst;have:ad.add 0=ad:=by simp [Addr.add]
       rw [this] at hst;simp [Builtin.copy_,htt0,run_underlying hd,hsrc.len,hszr,hmin,k1w,hst,goInt]
     simp [execOp,ho,resolve,invoke,builtin,h0]
    refine ⟨_,w',g,.inl hrun,j0n hH hent hβ rvi ?_ p3 p4 p5 (by omega) (fun kk _ h=>p6 kk h)⟩;have hlen:cs.toList.length=k*ti.el:=by simp [k2]
    refine h0y hB hlen p2 p7 (by rw [<-hlen];exact p8) k3 (fun i hi=> .inl hi) (by simp [Blk.es,hRl,hle']) ?_ (fun i hi=>hB.cap i hi) ?_
    .intro e' he';obtain ⟨j,hj⟩:=c0h he';obtain ⟨_,_,_,_,h5,_⟩:=colR j e' hj;exact h5
    .intro x j sv hx' hj;simp only [Blk.has] at hx';simp only [Blk.at] at hj;split at hj
     .rename_i e' he';simp only [Option.some.injEq] at hj;subst hj;have hjl:=b0y he';rw [hRl] at hjl;obtain ⟨c',d',h1,h2,_,h5⟩:=colR j e' he';rw [h5 x,hes];by_cases hin:i'<=x/\x<i'+k
      .rw [if_pos hin];left;have e1:x*ti.el=i'*ti.el+(x-i')*ti.el:=by rw [<-Nat.add_mul];congr 1;omega
       have e2:=d0a (show x-i'<k by omega) hjl;obtain ⟨u,u1,u2⟩:=k4 (x-i') j d' (by omega) h2;refine ⟨by omega,by omega,u,?_,u2⟩;have:cs.toList[(x-i')*ti.el+j]? =some u:=by simpa using u1
       rw [<-this];congr 1;omega
      .rw [if_neg hin];right;refine ⟨?_,hx',by simp [Blk.at,h1]⟩;rcases f0m x i' with h|h
       .have:=d0a h hjl;omega
       .have h6:i'+k<=x:=by omega
        have h7:=j0c ti.el h6;rw [Nat.add_mul] at h7;omega
     .cases hj
   .exact h.elim
  .exact h.elim
 .exact h.elim
theorem z0q {i x:Nat} (hx:x<i):∀c:BCol,(c.cut i).at x=c.at x
 | .sc (.ints k l)=>by simp [BCol.cut,Col.cut,BCol.at,Col.at,List.getD,hx]
 | .sc (.strs l)=>by simp [BCol.cut,Col.cut,BCol.at,Col.at,List.getD,hx]
 | .sc (.bools l)=>by simp [BCol.cut,Col.cut,BCol.at,Col.at,List.getD,hx]
 | .svs l=>by simp [BCol.cut,BCol.at,List.getD,hx]
 | .own h ns=>by simp [BCol.cut,BCol.at,List.getD,hx]
 | .arrs n k r=>by simp [BCol.cut,BCol.at,List.getD,hx]
 | .ptrs h n=>by simp [BCol.cut,BCol.at]
theorem w0k {i:Nat}:∀c:BCol,i<=c.len->(c.cut i).len=i
 | .sc (.ints k l),h=>by simp [BCol.cut,Col.cut,BCol.len,Col.len] at h⊢;omega
 | .sc (.strs l),h=>by simp [BCol.cut,Col.cut,BCol.len,Col.len] at h⊢;omega
 | .sc (.bools l),h=>by simp [BCol.cut,Col.cut,BCol.len,Col.len] at h⊢;omega
 | .svs l,h=>by simp [BCol.cut,BCol.len] at h⊢;omega
 | .own x ns,h=>by simp [BCol.cut,BCol.len] at h⊢;omega
 | .arrs n k r,h=>by simp [BCol.cut,BCol.len] at h⊢;omega
 | .ptrs x n,h=>by simp [BCol.cut,BCol.len] at h⊢;omega
theorem h0A (i:Nat):∀(l:List BCol),(d0Z i l).length=l.length/\∀j e,nth (d0Z i l) j=some e->∃c,nth l j=some c/\e=c.cut i
 | []=>⟨rfl,fun j e h=>by simp [d0Z,nth] at h⟩
 |c::l=>by
  obtain ⟨h1,h2⟩:=h0A i l;refine ⟨by simp [d0Z,h1],fun j e h=> ?_⟩;cases j with
  |zero=>simp only [d0Z,nth,Option.some.injEq] at h;exact ⟨c,rfl,h.symm⟩
  |succ j=>simp only [d0Z,nth] at h⊢;exact h2 j e h
theorem l0x (z:Array Value) (n:Nat):(Builtin.zeroCells z n).toList.length=n*z.size/\∀v∈(Builtin.zeroCells z n).toList,v∈z.toList:=by
 refine ⟨by simp [Builtin.zeroCells],fun v hv=> ?_⟩;simp only [Builtin.zeroCells,Array.toList_map,Array.toList_range,m0l,q0f] at hv;obtain ⟨i,hi,rfl⟩:=hv;have hz:0<z.size:=by
  rcases i0m z.size with e|e
  .rw [e,Nat.mul_zero] at hi;omega
  .exact e
 have hm:=b1W i hz;rw [getElem!_pos z (i%z.size) hm];exact Array.getElem_mem_toList _
theorem t0l (hT:a0U P T) (hg:g.glob) (he:b0r g vs a) (hH:Holds g vs.heap w) {o:Oper} {ty:TypeId} {ts:List TypeId} {tt:Array TypeId} (htt:tt.toList=ty::ts) {x:Operand} {s:SV} {ti:TI} (ho:o.op= .call ⟨.builtin .clear,#[x],tt⟩) (hx:gv vs x=some s) (hti:a0B T ty=some ti)
  (hc:(Nat.beq ti.kind 6&&c0D ti.ez&&Nat.beq ti.ez.length ti.el&& !Nat.beq ti.el 0)=true) (h:(i0X vs ti s).is r U b t):b0h P a o w g vs.heap nx r U b:=by
 simp only [c0q,i0o] at hc;obtain ⟨⟨⟨c1,c2⟩,c3⟩,c4⟩:=hc;obtain ⟨e,i,z,hd,hi,hz,hsz,hby,hzs,hrz,_⟩:=f0B (hT _ _ hti) c1 (.inr trivial) c3 c4;have hzr:∀w,(zeroValue e).run P w= .ok z w:=fun w=>by simp [zeroValue,typeInfo,hi,hz]
 have hxv:=a0w hg he hx;have htt0:tt[0]? =some ty:=by rw [<-n0q,htt];rfl
 have hone:=b0V _ _ c2 (hrz g);unfold i0X at h;split at h
 .rename_i hd' q i' n;replace h:=a0A h;obtain ⟨ro,bl,hent,h⟩:=h;split at h
  .rename_i m l;replace h:=a0i h;obtain ⟨hle,h⟩:=h;have hle':=c0k hle;obtain ⟨hm,rfl,rfl,rfl,_⟩:=h;obtain ⟨base,c,hxe,hnc,hz'⟩:=rsv hxv;obtain ⟨β,hβ,hB⟩:=hH.blk _ _ _ _ hent;have hes:β.es=ti.el:=hB.es.trans hle';obtain ⟨zl,zo⟩:=l0x z.cells n;rw [hzs] at zl;have zone:∀v∈(Builtin.zeroCells z.cells n).toList,v.oneCell'=true:=fun v hv=>hone v (zo v hv)
   obtain ⟨ms,hms⟩:∃ms,ms=(Builtin.zeroCells z.cells n).toList:=⟨_,rfl⟩;rw [<-hms] at zl zone;obtain ⟨w',hrun0,p2,p3,p4,p5,p6,p7,p8⟩:∃w',(∀ty',(Builtin.clear_ tt ty' #[a.eval x]).run P w= .ok (.tuple #[]) w')/\w'.heap.size=w.heap.size/\w'.os=w.os/\w'.tape=w.tape/\w'.output=w.output/\(∀kk,¬(0<β.cap/\kk=β.blk)->w'.heap[kk]? =w.heap[kk]?)/\(∀x,w'.frozen? ⟨β.blk,x,none⟩=w.frozen? ⟨β.blk,x,none⟩)/\∀x,w'.cell? ⟨β.blk,β.off+x,none⟩=if i'*β.es<=x/\x<i'*β.es+ms.length then ms[x-i'*β.es]? else w.cell? ⟨β.blk,β.off+x,none⟩:=by
    by_cases hn0:n=0
    .subst hn0;refine ⟨w,fun ty'=> ?_,rfl,rfl,rfl,rfl,fun _ _=>rfl,fun _=>rfl,?_⟩
     .rw [hxe];cases base<;>simp [Builtin.clear_,htt0,run_underlying hd]
     .intro x;rw [if_neg (by omega)]
    .rcases hz' with hz'|⟨β',hβ',hba,hcap⟩
     .exact absurd (by omega) hn0
     .rw [hβ] at hβ';cases hβ';obtain ⟨w',p1,p2,p3,p4,p5,p6,p7,p8⟩:=f0A (P:=P) hB (p:=i'*β.es) (ms:=ms) zone (by
       rw [zl,hes,<-Nat.add_mul];exact j0c _ (by omega))
      refine ⟨w',fun ty'=> ?_,p2,p3,p4,p5,?_,p7,p8⟩
      .rw [hxe,hba];have ead:β.addr i' 0=⟨β.blk,β.off+i'*β.es,none⟩:=by unfold Base.addr;simp
       obtain ⟨n',rfl⟩:∃n',n=n'+1:=⟨n-1,by omega⟩;rw [<-ead,hms] at p1;simp [Builtin.clear_,htt0,run_underlying hd,hzr,p1]
      .intro kk hkk';by_cases e':kk=β.blk
       .rcases i0m β.cap with hc0|hc0
        .exfalso;omega
        .exact absurd ⟨hc0,e'⟩ hkk'
       .exact p6 kk e'
   have hrun:(execOp a.eval o).run P w= .ok (.value (.tuple #[])) w':=by
    simp [execOp,ho,resolve,invoke,builtin,hrun0]
   refine ⟨_,w',g,.inl hrun,j0n hH hent hβ (by simp [Rv,Rvs]) ?_ p3 p4 p5 (by omega) (fun kk _ h=>p6 kk h)⟩;obtain ⟨k1,k2⟩:=h0A i' l;refine h0y hB zl p2 p7 (by rw [<-zl];exact p8) zone (fun i hi=> .inl (by simp only [Blk.has] at hi⊢;omega)) (by simp [Blk.es,k1]) ?_ (fun i hi=>hB.cap i (by simp only [Blk.has] at hi⊢;omega)) ?_
   .intro e' he';obtain ⟨j,hj⟩:=c0h he';obtain ⟨c',h1,rfl⟩:=k2 j e' hj;have:=hB.len c' (b0d h1);exact w0k c' (by omega)
   .intro x j sv hx' hj;simp only [Blk.has] at hx';simp only [Blk.at] at hj;split at hj
    .rename_i e' he';simp only [Option.some.injEq] at hj;subst hj;obtain ⟨c',h1,rfl⟩:=k2 j e' he';have hjl:=b0y he';rw [k1,hle'] at hjl;right;have:=d0a hx' hjl;refine ⟨by rw [hes];omega,by simp only [Blk.has];omega,?_⟩;simp only [Blk.at,h1,z0q hx']
    .cases hj
  .exact h.elim
 .exact h.elim
end ops
end Go.Sy
namespace Go.Sy
open Go.RowKit
section ops
variable {P:Program} {T:Tab} {g:G} {vs:VS} {a:Act} {w:World} {r:SV} {U:a0g} {b:Nat} {t:List Nat} {H:a0g} {nx:Nat}
theorem e0f (hg:g.glob) (he:b0r g vs a) {d:Int} {x:Option Operand} {n:Int} (h:b0m vs d x=some n):(x=none/\n=d)\/∃y k,x=some y/\a.eval y= .int k n:=by
 unfold b0m at h;split at h
 .simp only [Option.some.injEq] at h;exact .inl ⟨rfl,h.symm⟩
 .rename_i y;split at h
  .rename_i k m hy;simp only [Option.some.injEq] at h;subst h;exact .inr ⟨y,k,rfl,riv (a0w hg he hy)⟩
  .cases h
theorem c0O {x:Value} {k:IntKind} {n:Int} {y:Nat} {code:BoundsCode} (hx:x= .int k n) (h0:0<=n) (h1:n<=(y:Int)) (w:World):(Instr.sliceBound x y code).run P w= .ok n.toNat w:=by
 subst hx;simp [Instr.sliceBound,asIntOf,h0,h1]
theorem e0A (hg:g.glob) (he:b0r g vs a) {lo hi:Option Operand} {l h:Int} {len cap:Nat} {isSl:Bool} (hl:b0m vs 0 lo=some l) (hh:b0m vs len hi=some h) (h0:0<=l) (h1:l<=h) (h2:h<=(len:Int)) (hc:len<=cap) (w:World):
  (Instr.sliceBounds isSl len cap (lo.map a.eval) (hi.map a.eval) none).run P w= .ok (l.toNat,h.toNat,cap) w:=by
 have hn:h=((h.toNat:Nat):Int):=by omega
 rcases e0f hg he hl with ⟨rfl,rfl⟩|⟨y,k,rfl,e1⟩<;>rcases e0f hg he hh with ⟨rfl,rfl⟩|⟨y',k',rfl,e2⟩
 .simp [Instr.sliceBounds]
 .have b2:=fun (code:BoundsCode)=>c0O (P:=P) (code:=code) e2 (y:=cap) (by omega) (by omega) w
  simp [Instr.sliceBounds,b2]
 .have b1:=fun (code:BoundsCode)=>c0O (P:=P) (code:=code) e1 (y:=len) h0 (by omega) w
  simp [Instr.sliceBounds,b1]
 .have b2:=fun (code:BoundsCode)=>c0O (P:=P) (code:=code) e2 (y:=cap) (by omega) (by omega) w
  have b1:=fun (code:BoundsCode)=>c0O (P:=P) (code:=code) e1 (y:=h.toNat) h0 (by omega) w
  simp [Instr.sliceBounds,b1,b2]
theorem j0o (hg:g.glob) (he:b0r g vs a) {lo:Option Operand} {hi mx:Operand} {l h m:Int} {len cap:Nat} {d1 d2:Int} {isSl:Bool} (hl:b0m vs 0 lo=some l) (hh:b0m vs d1 (some hi)=some h) (hm:b0m vs d2 (some mx)=some m) (h0:0<=l) (h1:l<=h) (h2:h<=m) (h3:m<=(cap:Int)) (w:World):
  (Instr.sliceBounds isSl len cap (lo.map a.eval) (some (a.eval hi)) (some (a.eval mx))).run P w= .ok (l.toNat,h.toNat,m.toNat) w:=by
 rcases e0f hg he hm with ⟨e,_⟩|⟨ym,km,e,em⟩
 .cases e
 cases e;rcases e0f hg he hh with ⟨e,_⟩|⟨yh,kh,e,eh⟩
 .cases e
 cases e;have b3:=fun (code:BoundsCode)=>c0O (P:=P) (code:=code) em (y:=cap) (by omega) h3 w
 have b2:=fun (code:BoundsCode)=>c0O (P:=P) (code:=code) eh (y:=m.toNat) (by omega) (by omega) w
 rcases e0f hg he hl with ⟨rfl,rfl⟩|⟨y,k,rfl,e1⟩
 .simp [Instr.sliceBounds,b3,b2]
 .have b1:=fun (code:BoundsCode)=>c0O (P:=P) (code:=code) e1 (y:=h.toNat) h0 (by omega) w
  simp [Instr.sliceBounds,b1,b2,b3]
theorem c0P {ty:TypeId} {ti:TI} (hti:g0H P ty=some ti) (hk:Nat.beq ti.kind 6=true):∃e,P.underlying ty=some (.slice e)/\ti.el=P.cellsOf e:=by
 unfold g0H at hti;split at hti
 .rename_i i d hi hd;simp only [Option.some.injEq] at hti;have hkd:a0N d=6:=by rw [<-hti] at hk;exact c0k hk
  obtain ⟨e,rfl⟩:∃e,d= .slice e:=by cases d<;>first|exact ⟨_,rfl⟩|(exact absurd hkd (by simp [a0N]))
  exact ⟨e,hd,by rw [<-hti]⟩
 .cases hti
theorem e0g {ty:TypeId} {ti:TI} (hti:g0H P ty=some ti) (hk:Nat.beq ti.kind 5=true):∃e,P.underlying ty=some (.array ti.len e)/\ti.el=P.cellsOf e/\ti.eag= !b1w P e/\ti.ega=o0Z P e:=by
 unfold g0H at hti;split at hti
 .rename_i i d hi hd;simp only [Option.some.injEq] at hti;have hkd:a0N d=5:=by rw [<-hti] at hk;exact c0k hk
  obtain ⟨n,e,rfl⟩:∃n e,d= .array n e:=by cases d<;>first|exact ⟨_,_,rfl⟩|(exact absurd hkd (by simp [a0N]))
  exact ⟨e,by rw [hd,<-hti],by rw [<-hti],by rw [<-hti],by rw [<-hti]⟩
 .cases hti
theorem c0F {e:TypeId} (h:P.cellsOf e≠0) (w:World):(sizeOf e).run P w= .ok (P.cellsOf e) w:=by
 unfold Program.cellsOf at h⊢;cases hx:P.info? e with
 |none=>rw [hx] at h;simp at h
 |some x=>simp [sizeOf,typeInfo,hx]
theorem add_zero (ad:Addr):ad.add 0=ad:=by simp [Addr.add]
theorem t0m (hT:a0U P T) (hg:g.glob) (he:b0r g vs a) (hH:Holds g vs.heap w) {o:Oper} {ty:TypeId} {x:Operand} {lo hi mx:Option Operand} {v:SV} {ti:TI} (ho:o.op= .slice ty x lo hi mx) (hx:gv vs x=some v) (hti:a0B T ty=some ti) (h:(n0E vs ti v lo hi mx).is r U b t):b0h P a o w g vs.heap nx r U b:=by
 have hxv:=a0w hg he hx;have hti':=hT _ _ hti;unfold n0E at h;split at h
 .rename_i s;split at h
  .rename_i l hh hk hl hhi;obtain ⟨⟨h0,h1,h2⟩,rfl,rfl,rfl,_⟩:=h;obtain ⟨d,hd,hkd⟩:=b0U hti' hk;have hd':d= .string:=by cases d<;>first|rfl|(exact absurd hkd (by simp [a0N]))
   subst hd';refine b0l hH rvt (fun o' ho'=> ?_);rw [ho] at ho';have hb:=fun w=>e0A (P:=P) (isSl:=false) hg he hl hhi h0 h1 h2 (d0M _) w
   simp [execOp,ho',Instr.sliceAt,Instr.slice,run_underlying hd,rtv hxv,hb]
  .exact h.elim
 .rename_i hd' q i n;obtain ⟨base,c,hxe,hnc,hz⟩:=rsv hxv;split at h
  .rename_i l hh m my hy hk hl hm hhi;simp only [c0q,i0o] at hk;obtain ⟨e,hd,hel⟩:=c0P hti' hk.1;have he0:P.cellsOf e≠0:=by intro e0;rw [hel,e0] at hk;simp at hk
   have hsz:=c0F he0;have hsz0:∀w,(sizeOf e).run P w= .ok ti.el w:=fun w=>by rw [hel];exact hsz w
   cases hzz:(d0Q (some hh)&&d0Q (some m)) with
   |true=>
    rw [hzz] at h;simp only [cond_true] at h;obtain ⟨h0,rfl,rfl,rfl,_⟩:=h;simp only [c0q] at hzz;have e1:hh=0:=by unfold d0Q at hzz;obtain ⟨z1,_⟩:=hzz;split at z1<;>simp_all
    have e2:m=0:=by unfold d0Q at hzz;obtain ⟨_,z1⟩:=hzz;split at z1<;>simp_all
    subst e1;subst e2;subst h0;have hb:=fun w=>j0o (P:=P) (isSl:=true) (len:=n) (cap:=c) hg he hl hhi hm (by omega) (by omega) (by omega) (by omega) w
    refine b0l hH (v:= .slice base 0 0) (by simp only [Rv];exact ⟨_,rfl⟩) (fun o' ho'=> ?_);rw [ho] at ho';simp [execOp,ho',Instr.sliceAt,Instr.slice,run_underlying hd,hxe,hb,hsz0]
   |false=>
    rw [hzz] at h;simp only [cond_false] at h;replace h:=a0A h;obtain ⟨ro,bl,hent,h⟩:=h;replace h:=a0i h;obtain ⟨hes,h⟩:=h;obtain ⟨⟨h0,h1,h2,h3⟩,rfl,rfl,rfl,_⟩:=h;obtain ⟨β,hβ,hB⟩:=hH.blk _ _ _ _ hent;have hes':β.es=ti.el:=hB.es.trans (c0k hes);have hb:=fun w=>j0o (P:=P) (isSl:=true) (len:=n) (cap:=c) hg he hl hhi hm h0 h1 h2 (by omega) w
    refine b0l hH (v:= .slice (if m.toNat=l.toNat then base else base.map (·.add (l.toNat*ti.el))) (hh.toNat-l.toNat) (m.toNat-l.toNat)) ?_ (fun o' ho'=> ?_)
    .simp only [Rv];refine ⟨_,_,rfl,by omega,?_⟩;by_cases hml:m.toNat=l.toNat
     .exact .inl (by omega)
     .right;rw [if_neg hml];rcases hz with hz|⟨β',hβ',hba,hcap⟩
      .omega
      .rw [hβ] at hβ';cases hβ';refine ⟨β,hβ,?_,by omega⟩;rw [hba,<-hes'];simp only [g0w];rw [c0M,y0W]
    .rw [ho] at ho';simp [execOp,ho',Instr.sliceAt,Instr.slice,run_underlying hd,hxe,hb,hsz0]
  .rename_i l hh hk hl hhi;simp only [c0q,i0o] at hk;obtain ⟨e,hd,hel⟩:=c0P hti' hk.1;have he0:P.cellsOf e≠0:=by intro e0;rw [hel,e0] at hk;simp at hk
   have hsz:=c0F he0;have hsz0:∀w,(sizeOf e).run P w= .ok ti.el w:=fun w=>by rw [hel];exact hsz w
   replace h:=a0A h;obtain ⟨ro,bl,hent,h⟩:=h;replace h:=a0i h;obtain ⟨hes,h⟩:=h;obtain ⟨⟨h0,h1,h2⟩,rfl,rfl,rfl,_⟩:=h;obtain ⟨β,hβ,hB⟩:=hH.blk _ _ _ _ hent;have hes':β.es=ti.el:=hB.es.trans (c0k hes);have hb:=fun w=>e0A (P:=P) (isSl:=true) (len:=n) (cap:=c) hg he hl hhi h0 h1 h2 hnc w
   refine b0l hH (v:= .slice (if c=l.toNat then base else base.map (·.add (l.toNat*ti.el))) (hh.toNat-l.toNat) (c-l.toNat)) ?_ (fun o' ho'=> ?_)
   .simp only [Rv];refine ⟨_,_,rfl,by omega,?_⟩;by_cases hml:c=l.toNat
    .exact .inl (by omega)
    .right;rw [if_neg hml];rcases hz with hz|⟨β',hβ',hba,hcap⟩
     .omega
     .rw [hβ] at hβ';cases hβ';refine ⟨β,hβ,?_,by omega⟩;rw [hba,<-hes'];simp only [g0w];rw [c0M,y0W]
   .rw [ho] at ho';simp [execOp,ho',Instr.sliceAt,Instr.slice,run_underlying hd,hxe,hb,hsz0]
  .exact h.elim
 .split at h
  .rename_i l hh hk hl hhi;simp only [c0q,i0o] at hk;obtain ⟨⟨h0,h1⟩,rfl,rfl,rfl,_⟩:=h;obtain ⟨e,hd,hel⟩:=c0P hti' hk.1;have he0:P.cellsOf e≠0:=by intro e0;rw [hel,e0] at hk;simp at hk
   have hsz:=c0F he0;subst h0;subst h1;have hxe:a.eval x= .slice none 0 0:=by simpa only [Rv] using hxv
   have hb:=fun w=>e0A (P:=P) (isSl:=true) (len:=0) (cap:=0) hg he hl hhi (by omega) (by omega) (by omega) (by omega) w
   refine b0l hH (v:= .slice none 0 0) (by simp only [Rv]) (fun o' ho'=> ?_);rw [ho] at ho';simp [execOp,ho',Instr.sliceAt,Instr.slice,run_underlying hd,hxe,hb,hsz]
  .exact h.elim
 .rename_i hd' q;split at h
  .rename_i l hh hk hl hhi;simp only [c0q,i0o] at hk;obtain ⟨e,hd,hel,_⟩:=e0g hti' hk.1;have he0:P.cellsOf e≠0:=by intro e0;rw [hel,e0] at hk;simp at hk
   have hsz:=c0F he0;have hsz0:∀w,(sizeOf e).run P w= .ok ti.el w:=fun w=>by rw [hel];exact hsz w
   replace h:=a0A h;obtain ⟨ro,bl,hent,h⟩:=h;split at h
   .rename_i n cs;replace h:=a0i h;obtain ⟨hes,h⟩:=h;simp only [c0q] at hes;have hn:=c0k hes.1;obtain ⟨⟨h0,h1,h2⟩,rfl,rfl,rfl,_⟩:=h;obtain ⟨β,hβ,hB⟩:=hH.blk _ _ _ _ hent;have hes':β.es=ti.el:=hB.es.trans (c0k hes.2);obtain ⟨β',hβ',hpv⟩:=rpv hxv;rw [hβ] at hβ';cases hβ';have hb:=fun w=>e0A (P:=P) (isSl:=false) (len:=ti.len) (cap:=ti.len) hg he hl hhi h0 h1 h2 (d0M _) w
    refine b0l hH (v:= .slice (some (if ti.len=l.toNat then β.addr 0 0 else (β.addr 0 0).add (l.toNat*ti.el))) (hh.toNat-l.toNat) (ti.len-l.toNat)) ?_ (fun o' ho'=> ?_)
    .simp only [Rv];refine ⟨_,_,rfl,by omega,?_⟩;by_cases hml:ti.len=l.toNat
     .exact .inl (by omega)
     .right;rw [if_neg hml];have hcap:ti.len<=β.cap:=by
       rcases i0m ti.len with h|h
       .omega
       .have:=hB.cap (ti.len-1) (by simp only [Blk.has];omega);omega
      refine ⟨β,hβ,?_,by omega⟩;rw [<-hes',c0M,i0s]
    .rw [ho] at ho';simp [execOp,ho',Instr.sliceAt,Instr.sureAddr,run_underlying hd,hpv,hb,hsz0]
   .exact h.elim
  .exact h.elim
 .exact h.elim
end ops
end Go.Sy
