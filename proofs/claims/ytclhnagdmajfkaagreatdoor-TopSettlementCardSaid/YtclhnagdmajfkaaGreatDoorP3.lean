/- Several texts in one: YSort YJoin YCalls YPlain YNil YKeys YFresh YDfr YRec YArg YMem YGrp YFam YTop YLaw YLaw2 YLaid YLaid2. -/
import Derived.Test.YtclhnagdmajfkaaGreatDoorP2
import Derived.Sort.KeysCollected
import Derived.Sort.Grow
import Derived.Shelf.Strings.OnBuilder
import Derived.Shelf.SlIter.Nil
import Derived.Shelf.SortM.Plain
import Derived.Shelf.SortM.SortNone
import Derived.Defers
import Derived.Recover
import Derived.Deep.Slices
import Derived.OpenShut
import Derived.ChangeOld
import Derived.ChangeBears2
import Derived.MakeChecks
import Derived.LaidLaws
set_option linter.unusedVariables false
set_option linter.unusedSimpArgs false
namespace Go.Sy
abbrev s0d:=@Nat.not_lt_zero
abbrev b1t:=@List.map_map
abbrev d1D:=@List.toList_toArray
abbrev e1D:=@List.drop_eq_nil_of_le
end Go.Sy
namespace Go.Sy
open Go.RowKit
section
variable {P:Program}
theorem e0l {β:Base} (h:β.es=1) (i:Nat):β.addr i 0=⟨β.blk,β.off+i,none⟩:=by unfold Base.addr;rw [h];simp
def w0E {α:Type} [Inhabited α] (P:Program) (f:FuncId) (enc:α->Value) (srt:List α->List α):Prop:=
 (∀(blk off cap:Nat) (ss:List α) (W:World),Go.Sort.Holds enc W blk off ss.toArray->blk<W.heap.size->ss.length<4611686018427387904->
  Calls P f #[.slice (some ⟨blk,off,none⟩) ss.length cap] W fun e w'=>e= .returned (.tuple #[])/\∃k os,w'=Go.Sort.grow (Go.Sort.putRow enc (Go.Sort.ahead W k) blk off (srt ss).toArray) os)/\
 (∀(p:Option Addr) (cap:Nat) (W:World),Calls P f #[.slice p 0 cap] W fun e w'=>e= .returned (.tuple #[])/\w'=W)
theorem r0i {α:Type} [Inhabited α] {f:FuncId} {enc:α->Value} {srt:List α->List α} (mk:List α->Col) (hs:w0E P f enc srt) (hbd:d0s P f) (hl:∀l,(mk l).len=l.length) (hv:∀l i,i<l.length->(mk l).val i=enc (l.toArray[i]!)) (h1:∀x,(enc x).oneCell'=true) (hp:∀l,(srt l).length=l.length)
  (n:Nat) (l:List α) (hn:n<4611686018427387904):FC P 2 f [.sl 1 0 0 n] [(1,some (.one false (.cols n [.sc (mk l)])))] (a0d (.tup []) [(1,some (.one false (.cols n [.sc (mk (srt l))])))] 2):=by
 refine Or.inl ⟨hbd,fun g w vals hg hu hH hvs=> ?_⟩;obtain ⟨v,vs',rfl,hv0,hv1⟩:=hvs;simp only [Rvs] at hv1;subst hv1;obtain ⟨a,c,rfl,hnc,hc⟩:=rsv hv0;have hE:Ent [(1,some (HB.one false (Blk.cols n [.sc (mk l)])))] 1 0 false (Blk.cols n [.sc (mk l)]):=⟨_,rfl,⟨rfl,rfl⟩,rfl⟩;obtain ⟨β,hgβ,hB⟩:=hH.blk 1 0 false _ hE;have hlen:l.length=n:=by rw [<-hl];exact hB.len _ (i0p.2 rfl)
 have hes:β.es=1:=hB.es;have only:∀{b:Blk} {h q:Nat} {ro:Bool} {b':Blk},Ent [(1,some (HB.one false b))] h q ro b'->h=1/\q=0/\ro=false/\b'=b:=by
  rintro b h q ro b' ⟨hb,e,hi,hr⟩;rw [a0Q] at e;split at e
  .cases e;rename_i e1;exact ⟨e1.symm,hi.1,hr.symm,hi.2⟩
  .cases e
 by_cases h0:n=0
 .subst h0;refine (hs.2 a c w).mono ?_;rintro e w' ⟨rfl,rfl⟩;have hnil:l= []:=List.eq_nil_of_length_eq_zero hlen;have hsn:srt l=l:=by rw [hnil];exact List.eq_nil_of_length_eq_zero (by rw [hp];rfl)
  rw [hsn];refine ⟨_,rfl,_,_,_,g,⟨rfl,rfl,rfl⟩,d0M _,hu,fun _ _ _=>rfl,?_,hH,a0k a0t,Fr.refl _ _,?_⟩
  .simp only [Rv];exact ⟨_,rfl,by simp [Rvs]⟩
  .intro h q b β' he hg' hc';exact .inl ⟨h,q,b,β',he,hg',hc',rfl⟩
 .obtain hc|⟨β',hg',ha,hcap⟩:=hc
  .omega
  .rw [hgβ] at hg';cases hg';have hcp:0<β.cap:=by omega
   subst ha;have hHo:Go.Sort.Holds enc w β.blk β.off l.toArray:=by
    intro j hj;have hj':j<n:=by rw [<-hlen];simpa using hj
    obtain ⟨x,hx,hr⟩:=hB.cell j 0 _ hj' rfl;rw [e0l hes] at hx;refine ⟨?_,?_⟩
    .rw [hx];have:=hv l j (by omega);rw [<-this];have e1:(BCol.sc (mk l)).at j=(mk l).at j:=rfl;rw [e1] at hr;have h2:=Col.at_ok g (mk l) j;revert hr h2;cases mk l<;>simp [Col.at,Col.val,Rv]
    .have:=(hB.rw rfl j 0 (by have:=hB.cap j hj';omega) (by omega)).1
     rwa [e0l hes] at this
   have hlt:=hB.lt hcp;have hca:=hs.1 β.blk β.off c l w hHo hlt (by omega);rw [hlen] at hca;have ea:β.addr 0 0=⟨β.blk,β.off,none⟩:=by rw [e0l hes];rfl
   rw [ea];refine hca.mono ?_;rintro e w' ⟨rfl,k,os,rfl⟩;have hss:(srt l).toArray.size=n:=by simp [hp,hlen]
   have cellP:∀j,j<n->(Go.Sort.grow (Go.Sort.putRow enc (Go.Sort.ahead w k) β.blk β.off (srt l).toArray) os).cell? ⟨β.blk,β.off+j,none⟩=some (enc ((srt l).toArray[j]!)):=by
    intro j hj;rw [Go.Sort.cell?_grow _ _ _ (by simpa using hlt)];exact Go.Sort.cell?_putRow enc (Go.Sort.ahead w k) β.blk β.off l.toArray (srt l).toArray hHo (by simp [hp]) j (by omega)
   have cellO:∀j,n<=j->(Go.Sort.grow (Go.Sort.putRow enc (Go.Sort.ahead w k) β.blk β.off (srt l).toArray) os).cell? ⟨β.blk,β.off+j,none⟩=w.cell? ⟨β.blk,β.off+j,none⟩:=by
    intro j hj;rw [Go.Sort.cell?_grow _ _ _ (by simpa using hlt)];rw [Go.Sort.cell?_putRow_other _ _ _ _ _ _ (.inr (.inr (by rw [hss];show β.off+n<=β.off+j;omega)))];rfl
   refine ⟨_,rfl,_,_,_,g,⟨rfl,rfl,rfl⟩,d0M _,hu,fun _ _ _=>rfl,?_,⟨?_,?_⟩,a0k a0t,⟨rfl,rfl,rfl,by simp,?_⟩,?_⟩
   .simp only [Rv];exact ⟨_,rfl,by simp [Rvs]⟩
   .intro h q ro b he;obtain ⟨rfl,rfl,rfl,rfl⟩:=only he;refine ⟨β,hgβ,?_⟩;refine ⟨fun _=>by simp;omega,hes,?_,hB.cap,?_,?_,?_,trivial⟩
    .intro c' hc';rw [i0p] at hc';subst hc';show (mk (srt l)).len=n;rw [hl,hp,hlen]
    .intro i j sv hi hj;have hi':i<n:=hi;cases j with
     |succ j=>simp [Blk.at,nth] at hj
     |zero=>
      simp only [Blk.at,nth,Option.some.injEq] at hj;subst hj;rw [e0l hes];refine ⟨_,cellP i hi',?_⟩;rw [<-hv (srt l) i (by rw [hp];omega)];exact Col.at_ok g _ i
    .intro i j v hi hj hx;have hi':i<n:=hi;obtain rfl:j=0:=by omega
     rw [e0l hes,cellP i hi'] at hx;cases hx;exact h1 _
    .intro _ i j hi hj;obtain rfl:j=0:=by omega
     have hx:=hB.rw rfl i 0 hi (by omega);rw [e0l hes] at hx⊢;refine ⟨?_,?_⟩
     .rw [Go.Sort.frozen?_grow _ _ _ (by simpa using hlt),Go.Sort.frozen?_putRow];exact hx.1
     .by_cases hi2:i<n
      .exact ⟨_,cellP i hi2⟩
      .rw [cellO i (by omega)];exact hx.2
   .intro h q h' q' b ro' b' β1 β2 hne he he' _ _ _ _;obtain ⟨rfl,rfl,_,_⟩:=only he;obtain ⟨rfl,rfl,_,_⟩:=only he';exact absurd ⟨rfl,rfl⟩ hne
   .intro x hx hW;have hne:x≠β.blk:=fun e=>hW ⟨1,0,_,β,hE,hgβ,hcp,e.symm⟩
    rw [Go.Sort.heap_grow_old _ _ (by simpa using hx)];simp only [Go.Sort.putRow,Go.Sort.mapBlock,i0l,if_neg (Ne.symm hne),Go.Sort.heap_ahead]
   .intro h q b β' he hg' hc';obtain ⟨rfl,rfl,_,_⟩:=only he;rw [hgβ] at hg';cases hg';exact .inl ⟨1,0,_,β,hE,hgβ,hc',rfl⟩
def toB (b:List UInt8):ByteArray:=⟨b.toArray⟩
def ofB (s:ByteArray):List UInt8:=s.data.toList
theorem r0j (s:ByteArray):toB (ofB s)=s:=rfl
def sortS (l:List ByteArray):List ByteArray:=((l.map ofB).mergeSort (fun x y=>decide (x<=y))).map toB
def sortI (l:List Int):List Int:=l.mergeSort (fun x y=>decide (x<=y))
theorem e0m (l:List ByteArray):(sortS l).length=l.length:=by simp [sortS]
theorem h0X (l:List ByteArray):(l.map ofB).map toB=l:=by rw [b1t];exact List.map_id l
theorem j0D (l:List ByteArray):(sortS l).Perm l:=by
 have:=(List.mergeSort_perm (l.map ofB) (fun x y=>decide (x<=y))).map toB
 rwa [h0X] at this
theorem t0I {f:FuncId} (hs:w0E P f Go.Proofs.encStr (fun ss:List (List UInt8)=>ss.mergeSort fun x y=>decide (x<=y))) (hbd:d0s P f) (n:Nat) (l:List ByteArray) (hn:n<4611686018427387904):
  FC P 2 f [.sl 1 0 0 n] [(1,some (.one false (.cols n [.sc (.strs l)])))] (a0d (.tup []) [(1,some (.one false (.cols n [.sc (.strs (sortS l))])))] 2):=by
 have h:=r0i (fun ss=> .strs (ss.map toB)) hs hbd (by intro l;simp [Col.len]) (by
  intro l i hi;simp only [Col.val,Go.Proofs.encStr];rw [getElem!_pos _ _ (by simpa using hi)];simp [List.getD,hi,toB]) (fun x=>rfl) (by intro l;simp) n (l.map ofB) hn
 rw [h0X] at h;exact h
theorem t0J {f:FuncId} (hs:w0E P f (Value.int .i64) (fun ss:List Int=>ss.mergeSort fun x y=>decide (x<=y))) (hbd:d0s P f) (n:Nat) (l:List Int) (hn:n<4611686018427387904):
  FC P 2 f [.sl 1 0 0 n] [(1,some (.one false (.cols n [.sc (.ints .i64 l)])))] (a0d (.tup []) [(1,some (.one false (.cols n [.sc (.ints .i64 (sortI l))])))] 2):=
 r0i (fun ss=> .ints .i64 ss) hs hbd (by intro l;rfl) (by
  intro l i hi;simp only [Col.val];rw [getElem!_pos _ _ (by simpa using hi)];simp [List.getD,hi]) (fun x=>rfl) (by intro l;simp) n l hn
theorem p0y {k:TypeId} (hk:P.underlying k=some .string) {g:G} {w:World} {b n ck:Nat} {ea:Bool} {ks:List ByteArray} {vs:List BCol} {bs:List Nat} {es:Array MapEntry} (hb:w.heap[b]? =some (.map es ck)) (hm:MapOk g false ea n [.strs ks] vs bs ck es) (hn:n<=maxLen) (hs:∀s∈ks,s.size<=maxLen) (hnd:ks.Nodup):
  ∃D:DataW Unit,w.ownsMap P k (fun _=>some (.nil,[])) b n D/\(strKeys D).Perm (ks.map ofB)/\Maps.size D=n:=by
 have hkl:ks.length=n:=hm.kl _ (i0p.2 rfl);have hky:es.toList.map (·.key)=ks.map Value.string:=by
  refine e1F (by simp [hm.size,hkl]) ?_;intro i h1 h2;have hi:i<es.size:=by simpa using h1
  have:=(hm.row i es[i] (d0k hi)).2.1;have hi2:i<ks.length:=by rw [hkl,<-hm.size];exact hi
  simp only [List.getElem_map,c1q,this,q0e,Col.val];simp [List.getD,hi2]
 have hrd:∀x∈es.toList,∃s:ByteArray,x.key= .string s/\WideElems.rd P k (fun _=>some (DataW.nil,[])) x=some (Lit.string s.data.toList,(DataW.nil:DataW Unit)):=by
  intro x hx;have:x.key∈ks.map Value.string:=by rw [<-hky];exact List.mem_map_of_mem hx
  obtain ⟨s,hs1,hs2⟩:=m0l.1 this;refine ⟨s,hs2.symm,?_⟩;unfold WideElems.rd;rw [<-hs2];simp [keyOf,hk,mapKey,hs s hs1]
 refine ⟨_,⟨es,ck,hb,⟨by rw [hm.size];exact hn,⟨?_,?_,?_⟩,fun x hx=> ?_⟩,by rw [hm.size];exact d0M _,rfl⟩,?_,?_⟩
 .intro x hx;obtain ⟨i,hi,rfl⟩:=List.mem_iff_getElem.1 hx;have hi':i<es.size:=by simpa using hi
  have:=(hm.row i es[i] (d0k hi')).1;simp only [c1q];rw [this];refine hm.lt _ ?_;have:i<bs.length:=by rw [hm.bl,<-hm.size];exact hi'
  simp [List.getD,this]
 .have:es.toList.map (·.born)=bs:=by
   refine e1F (by simp [hm.size,hm.bl]) ?_;intro i h1 h2;have hi:i<es.size:=by simpa using h1
   have:=(hm.row i es[i] (d0k hi)).1;simp only [List.getElem_map,c1q,this];simp [List.getD,h2]
  rw [this];exact hm.nd
 .rw [hky];exact List.Pairwise.map _ (fun a b h e=>h (by injection e)) hnd
 .obtain ⟨s,_,h⟩:=hrd x hx;exact ⟨_,h⟩
 .show ((((es.toList.map (WideElems.rg P k _)).foldr DataW.insert []).map fun p=>strOf p.1)).Perm _;refine ((WideShapes.sorted_perm _).map _).trans (List.Perm.of_eq ?_);rw [b1t];have:(fun x:MapEntry=>strOf (WideElems.rg P k (fun _=>some (DataW.nil,[])) x:Lit×DataW Unit).1)=fun x=>strOf (WideElems.rg P k (fun _=>some ((DataW.nil:DataW Unit),[])) x).1:=rfl
  refine (List.map_congr_left (g:=fun x:MapEntry=>match x.key with| .string s=>ofB s|_=> []) ?_).trans ?_
  .intro x hx;obtain ⟨s,hk',h⟩:=hrd x hx;show strOf (WideElems.rg P k _ x).1=_;unfold WideElems.rg;rw [h,hk'];rfl
  .have e1:es.toList.map (fun x:MapEntry=>match x.key with| .string s=>ofB s|_=> [])=(es.toList.map (·.key)).map (fun v=>match v with| .string s=>ofB s|_=> []):=by rw [b1t];rfl
   rw [e1,hky,b1t];rfl
 .show List.length _=n;rw [(WideShapes.sorted_perm _).length_eq];simp [hm.size]
end
end Go.Sy
namespace Go.Sy
open Go.RowKit
section
variable {P:Program}
def a0V (L:List ByteArray) (sep:ByteArray):ByteArray:=⟨(Lib.join (L.map (·.data.toList)) sep.data.toList).toArray⟩
def c1a (P:Program) (f:FuncId):Prop:=∀(bk o c:Nat) (xs:List ByteArray) (sep:ByteArray) (w:World),(∀(j:Nat) x,xs[j]? =some x->w.cell? ⟨bk,o+j,none⟩=some (.string x))->bk<w.heap.size->xs.length<=140737488355328->xs.length<=c->(Lib.join (xs.map (·.data.toList)) sep.data.toList).length<=140737488355328->
 Calls P f #[.slice (some ⟨bk,o,none⟩) xs.length c,.string sep] w fun e w'=>e= .returned (.string ⟨(Lib.join (xs.map (·.data.toList)) sep.data.toList).toArray⟩)/\Below w.heap.size w w'
theorem w0F {f:FuncId} (hj:c1a P f) (hbd:d0s P f) (n:Nat) (L:List ByteArray) (sep:ByteArray) (h0:0<n) (hN:n<=1000000) (hlen:(a0V L sep).size<=140737488355328):
  FC P 2 f [.sl 1 0 0 n,.str sep] [(1,some (.one true (.cols n [.sc (.strs L)])))] (a0d (.str (a0V L sep)) [] 2):=by
 refine Or.inl ⟨hbd,fun g w vals hg hu hH hvs=> ?_⟩;obtain ⟨v,vs',rfl,hv0,hv1⟩:=hvs;obtain ⟨v2,vs2,rfl,hv2,hv3⟩:=hv1;simp only [Rvs] at hv3;subst hv3;simp only [Rv] at hv2;subst hv2;obtain ⟨a,c,rfl,hnc,hc⟩:=rsv hv0;have hE:Ent [(1,some (HB.one true (Blk.cols n [.sc (.strs L)])))] 1 0 true (Blk.cols n [.sc (.strs L)]):=⟨_,rfl,⟨rfl,rfl⟩,rfl⟩;obtain ⟨β,hgβ,hB⟩:=hH.blk 1 0 true _ hE;have hL:L.length=n:=hB.len _ (i0p.2 rfl);have hes:β.es=1:=hB.es;obtain hc|⟨β',hg',ha,hcap⟩:=hc
 .omega
 rw [hgβ] at hg';cases hg';have hcp:0<β.cap:=by omega
 subst ha;have hlt:=hB.lt hcp;have hca:=hj β.blk β.off c L sep w (fun j x hx=>by
  obtain ⟨hj',hxe⟩:=b1E.1 hx;obtain ⟨v,e1,e2⟩:=hB.cell j 0 _ (show j<n by omega) rfl;rw [e0l hes] at e1;rw [e1];have e3:(BCol.sc (.strs L)).at j= .str x:=by
   show SV.str (L.getD j ⟨#[]⟩)=_;rw [List.getD,hx];rfl
  rw [e3] at e2;simp only [Rv] at e2;rw [e2]) hlt (by omega) (by omega) (by
   have:(a0V L sep).size=(Lib.join (L.map (·.data.toList)) sep.data.toList).length:=by unfold a0V;simp [ByteArray.size]
   omega)
 rw [hL] at hca;have ea:β.addr 0 0=⟨β.blk,β.off,none⟩:=by rw [e0l hes];rfl
 rw [ea];refine hca.mono ?_;rintro e w' ⟨rfl,hb⟩;refine ⟨_,rfl,_,_,_,g,⟨rfl,rfl,rfl⟩,d0M _,hu,fun _ _ _=>rfl,by simp only [Rv];rfl,⟨?_,?_⟩,a0t,⟨hb.os,hb.tape,hb.output,hb.size,fun k hk _=>hb.block k hk⟩,?_⟩
 .intro h q ro b he;obtain ⟨hb,e,_⟩:=he;simp [a0x] at e
 .intro h q h' q' b ro' b' β β' _ he;obtain ⟨hb,e,_⟩:=he;simp [a0x] at e
 .intro h q b β he;obtain ⟨hb,e,_⟩:=he;simp [a0x] at e
end
end Go.Sy
namespace Go.Sy
open Go.RowKit
theorem b0g {P:Program} {f:FuncId} {fn:Func} (h:P.funcs[f]? =some fn) (hb:fn.body.isSome=true) (hn:(fn.name=="runtime.NumGoroutine")=false):d0s P f:=by
 obtain ⟨c,hc⟩:=u0k.1 hb;exact ⟨fn,c,h,hc,hn⟩
theorem b0E {P:Program} {f:FuncId} {args:List SV} {vals:List Value} {r:SV} {v:Value} (hbd:d0s P f) (hv:∀g vs,Rvs g args vs->vs=vals) (hr:∀g,Rv g r v) (hc:∀w,Calls P f vals.toArray w (fun e w'=>e= .returned v/\Below w.heap.size w w')):a0y P f args r:=by
 refine Or.inl ⟨hbd,fun g w vs hg hu hH hvs=> ?_⟩;rw [hv g vs hvs];refine (hc w).mono ?_;rintro e w' ⟨rfl,hb⟩;refine ⟨v,rfl,r,[],1,g,⟨rfl,rfl,rfl⟩,d0M _,hu,fun _ _ _=>rfl,hr g,⟨?_,?_⟩,a0t,⟨hb.os,hb.tape,hb.output,hb.size,fun k hk _=>hb.block k hk⟩,?_⟩
 .intro h q ro b he;obtain ⟨hb,e,_⟩:=he;simp [a0x] at e
 .intro h q h' q' b ro' b' β β' _ he;obtain ⟨hb,e,_⟩:=he;simp [a0x] at e
 .intro h q b β he;obtain ⟨hb,e,_⟩:=he;simp [a0x] at e
end Go.Sy
namespace Go.Sy
open Go.RowKit
theorem f0Q {P:Program} {f:FuncId} {fn:Func} (h:P.funcs[f]? =some fn) (hb:fn.body.isSome=true) (hn:(fn.name=="runtime.NumGoroutine")=false):d0s P f:=by
 obtain ⟨c,hc⟩:=u0k.1 hb;exact ⟨fn,c,h,hc,hn⟩
theorem h0Y:∀(n:Nat) (sn:List Nat),sn.Nodup->(∀i∈sn,i<n)->sn.length<=n
 |0,sn,_,h=>by cases sn with|nil=>simp|cons x r=>exact absurd (h x (by simp)) (by omega)
 |n+1,sn,hd,h=>by
  by_cases hm:n∈sn
  .have:=h0Y n (sn.erase n) (hd.erase n) (fun i hi=>by
    have h1:=h i (List.mem_of_mem_erase hi);have h2:i≠n:=fun e=>by subst e;exact (hd.not_mem_erase) hi
    omega)
   rw [List.length_erase_of_mem hm] at this;omega
  .have:=h0Y n sn hd (fun i hi=>by
    have h1:=h i hi;have h2:i≠n:=fun e=>by subst e;exact hm hi
    omega)
   omega
theorem k0v {n i:Nat} {sn:List Nat} (hd:sn.Nodup) (h:∀i∈sn,i<n) (hi:i<n) (hn:¬i∈sn):sn.length<n:=by
 have:=h0Y n (i::sn) (List.nodup_cons.2 ⟨hn,hd⟩) (fun x hx=>by rcases d0z.1 hx with rfl|hx;exact hi;exact h x hx);simp only [m0j] at this;omega
def f0i:Code->List Code
 | .seq a b=>f0i a++f0i b
 | .cond _ a b=>f0i a++f0i b
 | .block _ c=>f0i c
 | .loop c=>c::f0i c
 |_=> []
def lpc (f:Func) (k:Nat):Code:=match f.body with|some c=>(f0i c).getD k .skip|none=> .skip
def lpK {α:Type} (n0:Nat) (st:α->VS) (inv:α->Prop) (μ:α->Nat) (K:Exit->VS->Prop) (x:α):Exit->VS->Prop:=fun e v'=>match e with| .normal=>∃y l u,inv y/\μ y<μ x/\upK u v' (fun v=>Weak n0 l v (st y))|e=>K e v'
theorem t0K {α:Type} {n0:Nat} {body:VS->(Exit->VS->Prop)->Prop} {vs:VS} {K:Exit->VS->Prop} (st:α->VS) (inv:α->Prop) (μ:α->Nat) (x0:α) (l0:List Nat) (u0:List Up) (hw:upK u0 vs (fun v=>Weak n0 l0 v (st x0))) (hi:inv x0)
  (hr:∀x,inv x->body (st x) (lpK n0 st inv μ K x)):a0v n0 body vs K:= .inl ⟨α,st,inv,μ,x0,l0,u0,hw,hi,hr⟩
end Go.Sy
namespace Go.Sy
open Go.RowKit
end Go.Sy
namespace Go.Sy
open Go.RowKit Go.Maps Go.Sort Go.Shelf Go.Proofs
section
variable {P:Program} {ρ:Ren}
set_option maxRecDepth 100000 in
set_option maxHeartbeats 1000000 in
theorem t0L (L:SlLaysZ.n10 P ρ) {H:Type} (F:Fence) (n:Nat) (h10:F.fn (ρ.f 10)) (hro:F.round=none) (hn:1<=n) (l Bm o b nn:Nat) (D0:DataW H) {R:Value->Option (DataW H×List MemPlace)} (J:List (List UInt8)->World->Prop)
  (hY:∀pre x W,J pre W->pre.length<Maps.size D0->YieldAt F (n-1) P l #[encStr x] W fun e W'=>e= .returned (.bool true)/\J (pre++ [x]) W'/\KeepsWalks W W')
  (W:World) (hJ:AbidesFrom W.heap.size J) (hm:W.cell? ⟨Bm,o,none⟩=some (.map (some b))) (hown:W.ownsMap P (ρ.t 26) R b nn D0) (h0:J [] W):
  CallsIn F n P (ρ.f 10) #[.func (.yield l) #[] #[],.pointer (some ⟨Bm,o,none⟩)] W fun e W'=>(∃v,e= .returned v)/\∃ss:List (List UInt8),ss.Perm (strKeys D0)/\J ss W':=by
 have mixed:=L.mixed;have t0:=L.t0;have a0:=L.a0;have z0:=L.z0;have v0:=L.v0;have t4:=L.t4;have a4:=L.a4;have z4:=L.z4;have v4:=L.v4;have t23:=L.t23;have a23:=L.a23;have z23:=L.z23;have v23:=L.v23;have t26:=L.t26;have a26:=L.a26;have z26:=L.z26;have v26:=L.v26;have t33:=L.t33;have a33:=L.a33;have z33:=L.z33;have v33:=L.v33;have u0:=run_underlying L.t0;have u4:=run_underlying L.t4;have u23:=run_underlying L.t23;have u26:=run_underlying L.t26;have u33:=run_underlying L.t33;obtain ⟨_,_,FG⟩:=L.f10;refine callsIn_of_wp FG rfl h10 ?_ hro;simp only [SlBodyZ.n10_ntmps ρ,b1D,m0j,s0f,Nat.reduceAdd,Nat.reduceSub,Array.replicate_succ,Array.replicate_zero,List.push_toArray,List.append_toArray,y0V,i0k]
 gi_wp2_with (first
  |(gi_at_range;refine wpListIn_range_own _ rfl _ (ρ.t 23) rfl (ρ.t 26) (ρ.t 3) (string_keyed L.t26) L.t23 _ b nn _ rfl hown ?_;intro w0 hrg0 hg0 hs0)
  |gi_in)
 go_frame
 gi_loopw [3] (fun _ wr=>∃(left:Lit->Bool) (cnt:Nat) (ss:List (List UInt8)),wr.ranges P (ρ.t 26) R b W.heap.size nn D0 left cnt/\ss.length+cnt<=Maps.size D0/\Collected D0 left ss/\J ss wr)
  (fun _ wr=>wr.rangeLeft b W.heap.size)
 case atStart=>
  exact ⟨_,_,[],hrg0,by simp,Collected.start D0,hJ [] W w0 none h0 hg0 (fun r e=>by cases e)⟩
 case round=>
  obtain ⟨left,cnt,ss,hrg,hcs,hC,hJs⟩:=hrel
  gi_wp2_with (first
   |(gi_at_next;refine wpListIn_next_ranges _ rfl _ rfl (ρ.t 26) (string_keyed L.t26) R encStr id (fun key kl hk=>by obtain ⟨x,hx,_⟩:=Maps.keyOf_str L.t26 hk;exact ⟨x,hx⟩) (fun v _ _=>⟨v,rfl⟩) b W.heap.size nn _ _ _ rfl hrg ?_ ?_)
   |gi_in)
  .intro hc0 hl0
   gi_wp2
   go_end0
   exact ⟨⟨_,rfl⟩,ss,hC.perm hown (string_keyed L.t26) L.t26 hl0,hJs⟩
  .intro x c kl yd yp w2 cnt2 hkey hlk hv hat hrg2 hlt hg2 hs2 hen;obtain ⟨x',ex,rfl,_⟩:=Maps.keyOf_str L.t26 hkey;obtain rfl:x=x':=encStr_inj ex;have hJ2:J ss w2:=hJ ss wr w2 (some W.heap.size) hJs hg2 (fun r e=>by cases e;exact ⟨d0M _,hrg.iter_walk⟩);obtain ⟨fn,tmps,assign,body,hy,hR⟩:=hY ss x w2 hJ2 (by omega);clear hs2
   gi_wp2
   refine hR.mono ?_;rintro e W3 ⟨rfl,hJ3,hk3⟩
   gi_wp2
   have hrg3:=hrg2.of_walks hk3
   go_roundw
   case rel=>exact ⟨_,cnt2,ss++ [x],hrg3,by simp;omega,hC.step hlk hat,hJ3⟩
   case measure=>rw [hrg3.left_eq,hrg.left_eq];exact hlt
theorem n0b (L:SlLaysZ.n10 P ρ) {H:Type} (F:Fence) (n:Nat) (h10:F.fn (ρ.f 10)) (hro:F.round=none) (hn:1<=n) (Bm o b nn:Nat) (D0:DataW H) {R:Value->Option (DataW H×List MemPlace)} (w:World) (hBm:Bm<w.heap.size)
  (hm:w.cell? ⟨Bm,o,none⟩=some (.map (some b))) (hown:w.ownsMap P (ρ.t 26) R b nn D0):
  SeqGives F n P (ρ.f 10) #[.pointer (some ⟨Bm,o,none⟩)] encStr (fun ss=>ss.Perm (strKeys D0)) (Maps.size D0) w:=fun l J W hW hJ hY h0=>by
 have hown':W.ownsMap P (ρ.t 26) R b nn D0:=by
  have hbl:=hown.lt;obtain ⟨es,clock,hb,Ft,hs,hD⟩:=hown;exact ⟨es,clock,(hW.block b hbl).trans hb,Ft,hs,hD⟩
 exact t0L { L with} F n h10 hro hn l Bm o b nn D0 J hY W hJ ((hW.cell (p:=⟨Bm,o,none⟩) hBm).trans hm) hown' h0
theorem r0l {ρ':Ren} {f it:FuncId} {kt:TypeId} (hf:ρ'.f 6=f) (hi:ρ.f 10=it) (hkt:ρ.t 26=kt) (Lk:SlLaysZ.n10 P ρ) (Ls:SlLaysZ.n6 P ρ') (hsrt:∀m,AnyZ.SortsIn P ρ' Fence.wide m) (hbd:d0s P f) (e9:∀args w,(callFunc (ρ'.f 9) args).run P w= .ok (.enter (ρ'.f 9) args) w) (eit:∀args w,(callFunc it args).run P w= .ok (.enter it args) w) (hk:P.underlying kt=some .string)
  {ea:Bool} {n:Nat} {ks:List ByteArray} {vs:List BCol} {bs:List Nat} {ck:Nat} (hn:n<=100000) (hz:∀s∈ks,s.size<=maxLen) (hnd:ks.Nodup) (hlo:Nat.blt it 1048576=true:=by rfl):
  FC P 3 f [.fn it [.ptr 2 0 0 0]] [(1,some (.one true (.obj (.map false ea n [.strs ks] vs bs ck)))),(2,some (.one true (.cells [.map 1 0])))] (a0d (.sl 3 0 0 n) [(3,some (.one false (.cols n [.sc (.strs (sortS ks))])))] 4):=by
 subst hf hi hkt;refine Or.inl ⟨hbd,fun g w vals hg hu hH hvs=> ?_⟩;obtain ⟨v,vs',rfl,hv0,hv1⟩:=hvs;simp only [Rvs] at hv1;subst hv1;simp only [Rv] at hv0;obtain ⟨cap,hcv,hcap⟩:=hv0;rw [n0D hlo] at hcv;subst hcv;obtain ⟨pv,vs2,hp1,hp2,hp3⟩:=hcap;simp only [Rvs] at hp3;subst hp3;obtain ⟨β2,hg2,rfl⟩:=rpv hp2;have hcap':cap= #[.pointer (some (β2.addr 0 0))]:=by rw [<-n0p,hp1]
 subst hcap';have hE1:Ent [(1,some (HB.one true (Blk.obj (.map false ea n [.strs ks] vs bs ck)))),(2,some (HB.one true (Blk.cells [.map 1 0])))] 1 0 true (Blk.obj (.map false ea n [.strs ks] vs bs ck)):=⟨_,rfl,⟨rfl,rfl⟩,rfl⟩;have hE2:Ent [(1,some (HB.one true (Blk.obj (.map false ea n [.strs ks] vs bs ck)))),(2,some (HB.one true (Blk.cells [.map 1 0])))] 2 0 true (Blk.cells [.map 1 0]):=⟨_,rfl,⟨rfl,rfl⟩,rfl⟩;obtain ⟨β1,hg1,hB1⟩:=hH.blk 1 0 true _ hE1;obtain ⟨β2',hg2',hB2⟩:=hH.blk 2 0 true _ hE2;rw [hg2] at hg2';cases hg2';obtain ⟨_,_,es,hb1,hm1⟩:=hB1.obj;obtain ⟨x,hx,hrx⟩:=hB2.cell 0 0 _ rfl rfl;simp only [Rv] at hrx;obtain ⟨β1',hg1',rfl⟩:=hrx;rw [hg1] at hg1';cases hg1';have hc2:0<β2.cap:=hB2.cap 0 rfl;have hlt2:=hB2.lt hc2;have hml:n<=maxLen:=s0e hn (by decide);obtain ⟨D,hown,hperm,hsz⟩:=p0y hk hb1 hm1 hml hz hnd;have hseq:=n0b Lk Fence.wide 2 trivial rfl (by omega) β2.blk (β2.off+0*β2.es+0) β1.blk n D w hlt2 hx hown;rw [hsz] at hseq;have hca:=AnyZ.sorted_in Ls Fence.wide 5 trivial trivial trivial trivial rfl (by omega) (hsrt _) e9 _ _ trivial eit _ n hml (by omega) w hseq;refine (callsIn_wide.1 hca).mono ?_;rintro e w' ⟨v,ss,rfl,hS,hrow,hnil,hbel⟩;have hpm:ss.Perm (ks.map ofB):=hS.trans hperm;have hkl:ks.length=n:=hm1.kl _ (i0p.2 rfl);have hsl:ss.length=n:=by rw [hpm.length_eq,m0k,hkl]
 have hso:(ss.mergeSort (fun x y=>decide (x<=y)))=((ks.map ofB).mergeSort (fun x y=>decide (x<=y))):=mergeSort_of_perm hpm;rw [hso,hsl] at hrow;have hs':((ks.map ofB).mergeSort (fun x y=>decide (x<=y))).map encStr=(sortS ks).map Value.string:=by
  unfold sortS;rw [b1t];rfl
 rw [hs'] at hrow;obtain ⟨hl0,hr⟩:=hrow;have frm:Fr (d0o g [(1,some (HB.one true (Blk.obj (.map false ea n [.strs ks] vs bs ck)))),(2,some (HB.one true (Blk.cells [.map 1 0])))]) w w':=⟨hbel.os,hbel.tape,hbel.output,hbel.size,fun k hk _=>hbel.block k hk⟩;have only:∀{b:Blk} {h q:Nat} {ro:Bool} {b':Blk},Ent [(3,some (HB.one false b))] h q ro b'->h=3/\q=0/\ro=false/\b'=b:=by
  rintro b h q ro b' ⟨hb,e,hi,hr⟩;rw [a0Q] at e;split at e
  .cases e;rename_i e1;exact ⟨e1.symm,hi.1,hr.symm,hi.2⟩
  .cases e
 obtain ⟨β,hβ,hrv,hB,horg⟩:∃β:Base,β.off=0/\Rv (g.add 3 β) (.sl 3 0 0 n) v/\BlkAt (g.add 3 β) β false (Blk.cols n [.sc (.strs (sortS ks))]) w'/\(0<β.cap->w.heap.size<=β.blk):=by
  rcases hr with ⟨rfl,hz0⟩|⟨gb,cp,cur,rfl,hbase,hgb,r1,r2,r3,r4⟩
  .subst hz0;refine ⟨⟨0,0,1,0⟩,rfl,?_,?_,fun h=>absurd h (by decide)⟩
   .simp only [Rv];exact ⟨none,0,rfl,d0M _,.inl rfl⟩
   .refine ⟨fun h=>absurd h (by decide),rfl,?_,fun i hi=>absurd hi (s0d _),fun i j sv hi=>absurd hi (s0d _),fun i j v hi=>absurd hi (s0d _),fun _ i j hi=>absurd hi (s0d _),trivial⟩;intro c hc;rw [i0p] at hc;subst hc;show (sortS ks).length=0;rw [e0m,hkl]
  .have hcs:cur.size=cp:=by rw [r3];simp
   have hcell:∀i,i<n->cur[i]? =some (Value.string ((sortS ks).getD i ⟨#[]⟩)):=by
    intro i hi;have h1:(cur.toList.take (n*1))[i]? =((sortS ks).map Value.string)[i]?:=by rw [r4]
    rw [p0N,if_pos (by omega)] at h1;rw [<-n0q,h1,f0l];have:i<(sortS ks).length:=by rw [e0m,hkl];exact hi
    simp [List.getD,this]
   have hglt:gb<w'.heap.size:=(i0q.1 hgb).1;refine ⟨⟨gb,0,1,cp⟩,rfl,?_,?_,fun _=>hbase⟩
   .simp only [Rv];refine ⟨_,_,rfl,r1,.inr ⟨⟨gb,0,1,cp⟩,by simp [G.add],rfl,by simp⟩⟩
   .refine ⟨fun _=>hglt,rfl,?_,fun i hi=>r0k hi r1,?_,?_,?_,trivial⟩
    .intro c hc;rw [i0p] at hc;subst hc;show (sortS ks).length=n;rw [e0m,hkl]
    .intro i j sv hi hj;have hi':i<n:=hi;cases j with
     |succ j=>simp [Blk.at,nth] at hj
     |zero=>
      simp only [Blk.at,nth,Option.some.injEq] at hj;subst hj;refine ⟨(Col.strs (sortS ks)).val i,?_,Col.at_ok _ (Col.strs (sortS ks)) i⟩;rw [e0l (β:=⟨gb,0,1,cp⟩) rfl];simp only [World.cell?,hgb,i0s,hcell i hi'];rfl
    .intro i j v hi hj hx;have hi':i<n:=hi;obtain rfl:j=0:=by have:j<1:=hj;omega
     rw [e0l (β:=⟨gb,0,1,cp⟩) rfl] at hx;simp only [World.cell?,hgb,i0s,hcell i hi'] at hx;cases hx;rfl
    .intro _ i j hi hj;obtain rfl:j=0:=by have:j<1:=hj;omega
     have hi':i<cp:=hi;rw [e0l (β:=⟨gb,0,1,cp⟩) rfl];refine ⟨by simp [World.frozen?,hgb],?_⟩;have:i<cur.size:=by omega
     exact ⟨cur[i],by simp [World.cell?,hgb,this]⟩
 refine ⟨v,rfl,_,_,_,g.add 3 β,⟨rfl,rfl,rfl⟩,by omega,?_,?_,hrv,⟨?_,?_⟩,a0k a0t,frm,?_⟩
 .intro h q hh;simp only [G.add];rw [if_neg (by omega)];exact hu h q (by omega)
 .intro h q hh;simp only [G.add];rw [if_neg (by omega)]
 .intro h q ro b he;obtain ⟨rfl,rfl,rfl,rfl⟩:=only he;exact ⟨β,by simp [G.add],hB⟩
 .intro h q h' q' b ro' b' β1 β2 hne he he' _ _ _ _;obtain ⟨rfl,rfl,_,_⟩:=only he;obtain ⟨rfl,rfl,_,_⟩:=only he';exact absurd ⟨rfl,rfl⟩ hne
 .intro h q b β' he hg' hc';obtain ⟨rfl,rfl,_,_⟩:=only he;simp only [G.add,and_self,if_true,Option.some.injEq] at hg';subst hg';exact .inr (horg hc')
end
end Go.Sy
namespace Go.Sy
open Go.RowKit
theorem t0M {P:Program} {f:FuncId} {args:List SV} {vals:List Value} (L:List ByteArray) (ty:TypeId) (hbd:d0s P f) (hv:∀g vs,Rvs g args vs->vs=vals)
  (hc:∀w,Calls P f vals.toArray w (fun e w'=>e= .returned (.slice (some ⟨w.heap.size,0,none⟩) L.length L.length)/\w'=w.alloc (.cells (L.map Value.string).toArray ty))):
  FC P 1 f args [] (a0d (.sl 1 0 0 L.length) [(1,some (.one false (.cols L.length [.sc (.strs L)])))] 2):=by
 refine Or.inl ⟨hbd,fun g w vs hg hu hH hvs=> ?_⟩;rw [hv g vs hvs];refine (hc w).mono ?_;rintro e w' ⟨rfl,rfl⟩;have A:=e0e (g:=g) (H:= []) (nx:=1) (w:=w) (r:= .sl 1 0 0 L.length) (cs:=(L.map Value.string).toArray) (ty:=ty) (bl:= .cols L.length [.sc (.strs L)]) (cap:=L.length) (v:= .slice (some ⟨w.heap.size,0,none⟩) L.length L.length) (w':=w.alloc (.cells (L.map Value.string).toArray ty))
  (.inl rfl) hH rfl rfl rfl rfl (fun q=>hu 1 q (d0M _))
  (by
   intro c hc;rw [i0p] at hc;subst hc;rfl)
  (by
   intro v hv;rw [d1D] at hv;obtain ⟨s,_,rfl⟩:=m0l.1 hv;rfl)
  (by show L.length*1<=(L.map Value.string).toArray.size;simp)
  (fun i hi=>hi)
  (by
   intro i j sv hi hj;have hi':i<L.length:=hi;cases j with
   |zero=>
    simp only [Blk.at,nth,Option.some.injEq] at hj;subst hj;refine ⟨.string (L[i]),?_,?_⟩
    .show (L.map Value.string).toArray[i*1+0]? =_;rw [b1G,n0r,x0D,f0l,d0L hi'];rfl
    .show Rv g (.str (L.getD i ⟨#[]⟩)) _;rw [List.getD,d0L hi'];simp only [Rv];rfl
   |succ j=>simp [Blk.at,nth] at hj)
  (l0l (d0M _))
 refine ⟨_,rfl,_,_,_,_,⟨rfl,rfl,rfl⟩,by decide,?_,?_,A.rv,by simpa using A.heap,a0k a0t,A.fr,by simpa using A.own⟩
 .intro h q hh;exact A.born h q (hu h q (by omega)) (by omega)
 .intro h q hh;simp only [G.add];rw [if_neg (fun x=>by omega)]
end Go.Sy
namespace Go.Sy
open Go.RowKit
def FCD (P:Program) (n:Nat) (f:FuncId) (args:List SV) (H:a0g) (post:SV->a0g->Nat->Prop):Prop:=
 ∀(g:G) (w:World) (vals:List Value),d0s P f/\(g.glob->g.upto n->Holds g H w->Rvs g args vals->CallsD P f vals.toArray .returning w (fun e u' w'=>u'= .returning/\∃v,e= .returned v/\Out g w n H post v w'))
section
variable {P:Program} {T:Tab} {g:G} {C:Ctx} {vs:VS} {a:Act} {w:World}
theorem o0s (hname:True) {n:Nat} {N:Nat} {args:List SV} {H:a0g} {vals:List Value} (hNle:args.length<=N) (hg:g.glob) (hup:g.upto n) (hH:Holds g H w) (hv:Rvs g args vals):
  Rel ⟨g,n,w,d0o g H,N,[]⟩ g ⟨g0i 0 args,H,n⟩ { tmps:=vals.toArray++Array.replicate (N-vals.toArray.size) undef,defers:= []} w:=by
 have hlen:=Rvs.length _ _ hv;refine ⟨?_,?_,rfl,hg,hup,d0M _,fun _ _ _=>rfl,hH,Fr.refl _ _,fun h q b β he hgb hc=> .inl ⟨h,q,b,β,he,hgb,hc,rfl⟩⟩
 .intro t sv ht;obtain ⟨_,v,h1,h2⟩:=k0u args vals 0 hv t sv ht;have hlt:t<vals.length:=by
   rcases f0m t vals.length with h|h
   .exact h
   .simp only [Nat.sub_zero] at h1;rw [f0k h] at h1;cases h1
  have e:(vals.toArray++Array.replicate (N-vals.toArray.size) undef).getD t undef=v:=by
   rw [s0g,r0f (by simpa using hlt)];simp only [Nat.sub_zero] at h1;simp [h1]
  show Rv g sv ((vals.toArray++Array.replicate (N-vals.toArray.size) undef).getD t undef);rw [e];exact h2
 .show (vals.toArray++Array.replicate (N-vals.toArray.size) undef).size=N;simp;omega
theorem j0K (hT:a0U P T) {fn:Func} {post:SV->a0g->Nat->Prop} {H:a0g} (hg0:C.W=d0o C.g H) (hR:Rel C g vs a w) (hk:p0b T vs fn.results.toList (fun l=>b0b C.n0 post (e0P l) vs)):
  ∃v,(results fn a.tmps).run P w= .ok v w/\Out C.g C.w C.n0 H post v w:=by
 obtain ⟨svs,v,h1,h2,h3⟩:=j0B hT hR hk;obtain ⟨l,u,r0,H0,n1,hu,hp⟩:=h1;obtain ⟨gu,vu,Ru,hle,ro⟩:=l0T u vs g _ hR hu;obtain ⟨g0,hB,k1,k2,k3,k4,k5,k6⟩:=k0t Ru ro.ids ro.heap;refine ⟨v,h3,r0,H0,n1,g0,hp,k3,k2,k4,Rv.back hB r0 v (by rw [<-ro.res];exact Rv.mono hle _ _ h2),k5,ro.rw,?_,?_⟩
 .rw [<-hg0];exact Ru.fr
 .rw [<-hg0];exact k6
def i0h:List Oper->Bool
 | []=>false
 |o::r=>match r with
  | []=>(match o.op with| .defer _=>true|_=>false)
  |_::_=>i0h r
def r0Z (P:Program) (T:Tab) (ops:List Oper):List Oper->VS->(SV->VS->Prop)->Prop
 | [],_,_=>False
 |o::r,vs,K=>match r with
  | []=>(match o.op,o.dst,o.guard with
    | .defer ⟨.value fo,args,_⟩,none,none=>(match args.toList,gv vs fo with
      | [],some (.fn f cap)=>bif Nat.blt f 1048576 then K (.fn f cap) vs else False
      |_,_=>False)
    |_,_,_=>False)
  |_::_=>match c0t ops o with
   |none=>vop P T ops o vs (fun vs'=>r0Z P T ops r vs' K)
   |some _=>False
def s0a (f:VS->Prop) (K:Exit->VS->Prop):Exit->VS->Prop:=fun e vs'=>match e with| .normal=>f vs'|e=>K e vs'
def j0L (P:Program) (T:Tab) (n0:Nat):Code->VS->(Exit->VS->Prop)->(SV->Exit->VS->Prop)->Prop
 | .seq a b,vs,K0,K1=>(match a with
   | .region _ ops draw=>bif i0h ops.toList then (bif draw then False else r0Z P T ops.toList ops.toList vs (fun sv v=>b0k P T v.next b v (K1 sv))) else b0k P T n0 a vs (s0a (fun v=>j0L P T n0 b v K0 K1) K0)
   |_=>b0k P T n0 a vs (s0a (fun v=>j0L P T n0 b v K0 K1) K0))
 |c,vs,K0,_=>b0k P T n0 c vs K0
theorem o0t (hT:a0U P T) {ops:Array Oper} {Q:Exit->Act->World->Prop}:∀(l:List Oper) (vs:VS) (g:G) (a:Act) (w:World) (K:SV->VS->Prop),e0c C.N l=true->Rel C g vs a w->r0Z P T ops.toList l vs K->
  (∀f cap cs vs' g' a' w',K (.fn f cap) vs'->Rvs g' cap cs.toList->Rel C g' vs' a' w'->Q .normal { a' with defers:=⟨.fn (.func f) cs,#[]⟩::a'.defers} w')->wpList P ops Q l a w
 | [],vs,g,a,w,K,_,R,h,hq=>h.elim
 | [o],vs,g,a,w,K,hds,R,h,hq=>by
   simp only [r0Z] at h;split at h
   .rename_i fo args ts hop hdst hgd;split at h
    .rename_i f cap hargs hf;have hfv:=a0w R.glob R.env hf;simp only [Rv] at hfv;obtain ⟨cs,hcs,hcr⟩:=hfv;have hb:Nat.blt f 1048576=true:=by
      cases q:Nat.blt f 1048576 with
      |true=>rfl
      |false=>rw [q] at h;exact h.elim
     rw [hb,cond_true] at h;rw [n0D hb] at hcs;have ha:args= #[]:=by apply Array.ext';rw [hargs]
     subst ha;have hrun:(execOp a.eval o).run P w= .ok (.defer ⟨.fn (.func f) cs,#[]⟩) w:=by
      simp [execOp,hop,resolve,hcs,Deferred.ofValue]
     unfold wpList;rw [if_pos (by simp [Region.wanted,hgd])];refine .inl ?_;simp only [Oper.wp,hrun,Oper.upon_defer,hdst];unfold wpList;exact hq f cap cs vs g a w h hcr R
    .exact h.elim
   .exact h.elim
 |o::p::l,vs,g,a,w,K,hds,R,h,hq=>by
  simp only [e0c,c0q] at hds;have hd:∀d,o.dst=some d->d<C.N:=by
   intro d e;have:=hds.1;rw [e] at this;exact k0S this
  simp only [r0Z] at h;split at h
  .exact q0W hT R hd h (fun vs' g' a' w' k1 k2=>o0t hT (p::l) vs' g' a' w' K (by simp only [e0c,c0q];exact hds.2) k2 k1 hq)
  .exact h.elim
theorem m0i (hm:P.follows .mixedOrders=true) (hT:a0U P T) {Q:Exit->Act->World->Prop}:∀(c:Code) (vs:VS) (g:G) (a:Act) (w:World) (K0:Exit->VS->Prop) (K1:SV->Exit->VS->Prop),b0n C.N c=true->Rel C g vs a w->j0L P T C.n0 c vs K0 K1->
  (∀e vs' g' a' w',K0 e vs'->Rel C g' vs' a' w'->Q e a' w')->
  (∀n1 g1 f cap cs,C.n0<=n1->g1.upto n1->(∀h q,h<C.n0->g1 h q=C.g h q)->Rvs g1 cap cs.toList->∀e vs' g' a' w',K1 (.fn f cap) e vs'->Rel ⟨g1,n1,C.w,C.W,C.N,⟨.fn (.func f) cs,#[]⟩::C.ds⟩ g' vs' a' w'->Q e a' w')->c.wp P Q a w
 | .seq x b,vs,g,a,w,K0,K1,ho,R,h,hq,hq1=>by
   simp only [b0n,c0q] at ho;have plain:b0k P T C.n0 x vs (s0a (fun v=>j0L P T C.n0 b v K0 K1) K0)->(Code.seq x b).wp P Q a w:=by
    intro h;refine wp_seq (a0H hm hT x vs g a w _ _ ho.1 R h ?_);intro e vs' g' a' w' k1 k2;cases e with
    |normal=>exact m0i hm hT b vs' g' a' w' K0 K1 ho.2 k2 k1 hq hq1
    |_=>exact hq _ _ _ _ _ k1 k2
   simp only [j0L] at h;split at h
   .rename_i id ops draw;cases hl:i0h ops.toList with
    |false=>rw [hl] at h;exact plain h
    |true=>
     rw [hl] at h;simp only [cond_true] at h;cases draw with
     |true=>exact h.elim
     |false=>
      simp only [cond_false] at h;have ho1:=ho.1;simp only [b0n,c0q] at ho1;refine wp_seq (wp_region_list (o0t hT ops.toList vs g a w _ ho1.1 R h ?_));intro f cap cs vs' g' a' w' k1 k2 k3;have R':Rel ⟨g',vs'.next,C.w,C.W,C.N,⟨.fn (.func f) cs,#[]⟩::C.ds⟩ g' vs' { a' with defers:=⟨.fn (.func f) cs,#[]⟩::a'.defers} w':=
       ⟨k3.env,k3.size,by show _::a'.defers=_;rw [k3.defers],k3.glob,k3.upto,d0M _,fun _ _ _=>rfl,k3.heap,k3.fr,k3.own⟩
      exact a0H (C:=⟨g',vs'.next,C.w,C.W,C.N,⟨.fn (.func f) cs,#[]⟩::C.ds⟩) hm hT b vs' g' _ w' (K1 (.fn f cap)) Q ho.2 R' k1 (fun e v2 g2 a2 w2 h1 h2=>hq1 vs'.next g' f cap cs k3.lo k3.upto k3.keep k2 e v2 g2 a2 w2 h1 h2)
   .exact plain h
 | .skip,vs,g,a,w,K0,K1,ho,R,h,hq,_=>a0H hm hT _ vs g a w K0 Q ho R h hq
 | .region _ _ _,vs,g,a,w,K0,K1,ho,R,h,hq,_=>a0H hm hT _ vs g a w K0 Q ho R h hq
 | .cond _ _ _,vs,g,a,w,K0,K1,ho,R,h,hq,_=>a0H hm hT _ vs g a w K0 Q ho R h hq
 | .block _ _,vs,g,a,w,K0,K1,ho,R,h,hq,_=>a0H hm hT _ vs g a w K0 Q ho R h hq
 | .loop _,vs,g,a,w,K0,K1,ho,R,h,hq,_=>a0H hm hT _ vs g a w K0 Q ho R h hq
 | .exit _,vs,g,a,w,K0,K1,ho,R,h,hq,_=>a0H hm hT _ vs g a w K0 Q ho R h hq
 | .ret,vs,g,a,w,K0,K1,ho,R,h,hq,_=>a0H hm hT _ vs g a w K0 Q ho R h hq
 | .label _,vs,g,a,w,K0,K1,ho,R,h,hq,_=>a0H hm hT _ vs g a w K0 Q ho R h hq
 | .scope _,vs,g,a,w,K0,K1,ho,R,h,hq,_=>a0H hm hT _ vs g a w K0 Q ho R h hq
def z0a (P:Program) (T:Tab) (n0:Nat) (rs:List ResultVar) (post:SV->a0g->Nat->Prop) (f:FuncId) (cap:List SV) (vs:VS):Prop:=
 ∃(l:List Nat) (args0:List SV) (H:a0g) (post0:SV->a0g->Nat->Prop),FCD P l.length f args0 H post0/\Fits l vs.next cap args0 H vs.heap/\
  ∀sv H' n',post0 sv H' n'->j0b vs none sv (i0B (rho l vs.next) H'++i0C (rho l vs.next) H) (n'-l.length) (fun v=>p0b T v rs (fun m=>b0b n0 post (e0P m) v))
def d1U (P:Program) (T:Tab) (n0:Nat) (rs:List ResultVar) (post:SV->a0g->Nat->Prop):SV->Exit->VS->Prop
 | .fn f cap,.normal,vs=>z0a P T n0 rs post f cap vs
 | .fn f cap,.ret,vs=>z0a P T n0 rs post f cap vs
 |_,_,_=>False
theorem x0x {g1 g2:G} {n:Nat} (hu:g1.upto n) (hk:∀h q,h<n->g2 h q=g1 h q):G.le g1 g2:=by
 intro h q β e;rcases f0m h n with hh|hh
 .rw [hk h q hh];exact e
 .rw [hu h q hh] at e;cases e
theorem i0i (hm:P.follows .mixedOrders=true) (hT:a0U P T) {n:Nat} {f:FuncId} {fn:Func} {c:Code} (hf:P.funcs[f]? =some fn) (hb:fn.body=some c) (hname:(fn.name=="runtime.NumGoroutine")=false) {args:List SV} {H:a0g} {post:SV->a0g->Nat->Prop}
  (hN:Nat.ble args.length fn.ntmps=true) (hok:b0n fn.ntmps c=true) (h:j0L P T n c ⟨g0i 0 args,H,n⟩ (t0d T n fn.results.toList post) (d1U P T n fn.results.toList post)):FC P n f args H post:=by
 refine .inl ⟨⟨fn,c,hf,hb,hname⟩,?_⟩;intro g w vals hg hup hH hv;refine calls_of_wp_defers hf hb ?_;refine m0i (C:=⟨g,n,w,d0o g H,fn.ntmps,[]⟩) hm hT c _ g _ w _ _ hok (o0s trivial (k0S hN) hg hup hH hv) h ?_ ?_
 .intro e vs' g' a' w' hk hR;have fin:p0b T vs' fn.results.toList (fun l=>b0b n post (e0P l) vs')->Leaves P fn a'.tmps (fun e w'=>∃v,e= .returned v/\Out g w n H post v w') a'.defers .returning w':=by
   intro hk;obtain ⟨v,h1,h2⟩:=j0K hT rfl hR hk;rw [show a'.defers= [] from hR.defers];exact ⟨v,h1,v,rfl,h2⟩
  cases e with
  |normal=>exact fin hk
  |ret=>exact fin hk
  |_=>exact hk.elim
 .intro n1 g1 f1 cap cs hn1 hup1 hkeep hcs e vs' g' a' w' hk hR;have fin:z0a P T n fn.results.toList post f1 cap vs'->Leaves P fn a'.tmps (fun e w'=>∃v,e= .returned v/\Out g w n H post v w') a'.defers .returning w':=by
   rintro ⟨l,args0,H0,post0,hfc,hfit,hk⟩;rw [show a'.defers= [⟨.fn (.func f1) cs,#[]⟩] from hR.defers];have hcap:Rvs g' cap cs.toList:=Rvs.mono (x0x hup1 hR.keep) _ _ hcs;obtain ⟨g0,k1,k2,k3,k4,k5⟩:=l0G hfit hR.glob hR.heap hcap (fun _ _ _ _ h q hh _=>hR.upto h q hh);obtain ⟨hbd,hcd⟩:=hfc g0 w' cs.toList;refine leaves_cons (by simp) (args:=cs) (f:=f1) ?_ ?_
   .simp only [invoke];rw [g0p hbd];simp
   .refine CallsD.mono (by simpa using hcd k1 k2 k3 k4) ?_;rintro e1 u1 w1 ⟨rfl,v1,rfl,ho⟩;obtain ⟨sv,H',n',g2,hp,A⟩:=k5 v1 w1 ho;have R2:Rel ⟨g1,n1,w,d0o g H,fn.ntmps,[⟨.fn (.func f1) cs,#[]⟩]⟩ g2 _ _ w1:=b0f (o:=⟨none,.move (.tmp 0),0,"",#[],none⟩) hR A (by intro x e;cases e);have R3:Rel ⟨g,n,w,d0o g H,fn.ntmps,[]⟩ g2 ⟨vs'.env,(i0B (rho l vs'.next) H'++i0C (rho l vs'.next) H0)++vs'.heap,vs'.next+(n'-l.length)⟩ { tmps:=a'.tmps,defers:= []} w1:=
     ⟨R2.env,R2.size,rfl,R2.glob,R2.upto,s0e hn1 R2.lo,fun h q hh=>(R2.keep h q (r0k hh hn1)).trans (hkeep h q hh),R2.heap,R2.fr,R2.own⟩
    have h3:=b0D.1 (hk sv H' n' hp);obtain ⟨v,h4,h5⟩:=j0K hT rfl R3 h3;exact ⟨v,h4,v,rfl,h5⟩
  cases e with
  |normal=>exact fin hk
  |ret=>exact fin hk
  |_=>exact hk.elim
theorem v0I {l:List Nat} {n0:Nat} {rs:List ResultVar} {post:SV->a0g->Nat->Prop} {f:FuncId} {cap args0:List SV} {vs:VS} {H H':a0g} {r:SV} {n':Nat} (hc:FCD P l.length f args0 H (a0d r H' n'))
  (hk:j0b vs none r (i0B (rho l vs.next) H'++i0C (rho l vs.next) H) (n'-l.length) (fun v=>p0b T v rs (fun m=>b0b n0 post (e0P m) v)))
  (h1:j0a l=true:=by exact rfl) (h2:j0T (rho l vs.next) H H=true:=by exact rfl) (h3:cap=SV.rens (rho l vs.next) args0:=by exact rfl) (h4:SV.wfs l.length args0=true:=by exact rfl)
  (h5:e0b l.length H:=by (repeat' (first|exact trivial|exact r0g|exact fun _ _=>rfl|constructor));first|done|fail)
  (h6:d0R (rho l vs.next) H vs.heap:=by (repeat' (first|exact trivial|exact h0V rfl|constructor));first|done|fail):z0a P T n0 rs post f cap vs:=
 ⟨l,args0,H,_,hc,⟨h1,h2,h3,h4,h5,h6⟩,by rintro sv H1 n1 ⟨rfl,rfl,rfl⟩;exact hk⟩
end
end Go.Sy
namespace Go.Sy
open Go.RowKit
section
variable {P:Program} {T:Tab}
theorem i0j (a:Act) (o:Oper) (h:o.op= .call ⟨.builtin .recover,#[],#[]⟩) (w:World):(execOp a.eval o).run P w= .ok .recover w:=by
 simp [execOp,h,resolve,invoke,builtin]
theorem s0b (hm:P.follows .mixedOrders=true) (hT:a0U P T) {n:Nat} {fn:Func} {rest:Code} {H:a0g} {post:SV->a0g->Nat->Prop} {e:Env} {g:G} {w:World} {a:Act}
  (hok:b0n fn.ntmps rest=true) (R:Rel ⟨g,n,w,d0o g H,fn.ntmps,[]⟩ g ⟨e,H,n⟩ a w) (h:b0k P T n rest ⟨e,H,n⟩ (t0d T n fn.results.toList post))
  {c₀:Frame} {cs:List Frame} (hc:c₀.mode= .returning):
  rest.wpS P (bodyPostS P fn c₀ cs (fun e u' w'=>u'= .returning/\∃v,e= .returned v/\Out g w n H post v w')) a (c₀::cs) w:=by
 refine wpS_of_wp (a0H (C:=⟨g,n,w,d0o g H,fn.ntmps,[]⟩) hm hT rest _ g _ w _ _ hok R h ?_);intro e vs' g' a' w' hk hR;cases e with
 |normal=>
  obtain ⟨v,h1,h2⟩:=j0K hT rfl hR hk;exact ⟨hR.defers,.returning,by rw [<-hc],v,h1,rfl,v,rfl,h2⟩
 |ret=>
  obtain ⟨v,h1,h2⟩:=j0K hT rfl hR hk;exact ⟨hR.defers,.returning,by rw [<-hc],v,h1,rfl,v,rfl,h2⟩
 |_=>exact hk.elim
theorem f0Z {c₀:Frame} {cs:List Frame} (hc:c₀.mode= .returning):recoverD (c₀::cs)=none:=by
 simp [recoverD,hc]
theorem n0o {C:Ctx} {g:G} {vs:VS} {a:Act} {w:World} {d:Nat} (R:Rel C g vs a w) (hd:d<C.N):Rel C g ⟨(d,.nif)::vs.env,vs.heap,vs.next⟩ (a.put (some d) .nilIface) w:=
 ⟨q0T (d:=some d) R.env (fun _ _ _ h=>h) (by simp [Rv]) (by rintro x ⟨⟩;rw [R.size];exact hd),(e0D.1).trans R.size,(e0D.2).trans R.defers,R.glob,R.upto,R.lo,R.keep,R.heap,R.fr,R.own⟩
theorem x0y (hm:P.follows .mixedOrders=true) (hT:a0U P T) {n:Nat} {f:FuncId} {fn:Func} {rest:Code} {id d:Nat} {o:Oper} (hf:P.funcs[f]? =some fn) (hb:fn.body=some (.seq (.region id #[o] false) rest)) (hname:(fn.name=="runtime.NumGoroutine")=false)
  (ho:o.op= .call ⟨.builtin .recover,#[],#[]⟩) (hod:o.dst=some d) (hog:o.guard=none) (hd:Nat.blt d fn.ntmps=true)
  {args:List SV} {H:a0g} {post:SV->a0g->Nat->Prop}
  (hN:Nat.ble args.length fn.ntmps=true) (hok:b0n fn.ntmps rest=true) (h:b0k P T n rest ⟨(d,.nif)::g0i 0 args,H,n⟩ (t0d T n fn.results.toList post)):FCD P n f args H post:=by
 intro g w vals;refine ⟨⟨fn,_,hf,hb,hname⟩,fun hg hup hH hv=> ?_⟩;refine callsD_of_wpS hf hb ?_;intro c₀ cs hc;have R0:=o0s trivial (N:=fn.ntmps) (k0S hN) hg hup hH hv;have R1:=n0o (d:=d) R0 (by simpa [Nat.blt_eq] using hd);refine wpS_seq (wpS_region ?_);have hr:=i0j (P:=P) { tmps:=vals.toArray++Array.replicate (fn.ntmps-vals.toArray.size) undef,defers:= []} o ho w;show wpOpsS P #[o] _ [0] _ _ _;simp only [wpOpsS,x0D,z0d];rw [if_pos (by simp [Region.wanted,hog])];rw [hr];simp only [f0Z hc,hod];exact s0b hm hT hok R1 h hc
theorem x0z (hm:P.follows .mixedOrders=true) (hT:a0U P T) {n:Nat} {f:FuncId} {fn:Func} {rest:Code} {id d d2:Nat} {o p:Oper} (hf:P.funcs[f]? =some fn) (hb:fn.body=some (.seq (.region id #[o,p] false) rest)) (hname:(fn.name=="runtime.NumGoroutine")=false)
  (ho:o.op= .call ⟨.builtin .recover,#[],#[]⟩) (hod:o.dst=some d) (hog:o.guard=none) (hd:Nat.blt d fn.ntmps=true)
  (hp:p.op= .assign (.tmp d)) (hpd:p.dst=some d2) (hpg:p.guard=none) (hd2:Nat.blt d2 fn.ntmps=true)
  {args:List SV} {H:a0g} {post:SV->a0g->Nat->Prop}
  (hN:Nat.ble args.length fn.ntmps=true) (hok:b0n fn.ntmps rest=true) (h:b0k P T n rest ⟨(d2,.nif)::(d,.nif)::g0i 0 args,H,n⟩ (t0d T n fn.results.toList post)):FCD P n f args H post:=by
 intro g w vals;refine ⟨⟨fn,_,hf,hb,hname⟩,fun hg hup hH hv=> ?_⟩;refine callsD_of_wpS hf hb ?_;intro c₀ cs hc;have R0:=o0s trivial (N:=fn.ntmps) (k0S hN) hg hup hH hv;have R1:=n0o (d:=d) R0 (by simpa [Nat.blt_eq] using hd);have R2:=n0o (d:=d2) R1 (by simpa [Nat.blt_eq] using hd2);have e0:Act.eval (Act.put { tmps:=vals.toArray++Array.replicate (fn.ntmps-vals.toArray.size) undef,defers:= []} (some d) .nilIface) (.tmp d)= .nilIface:=t0g (R1.env d .nif (by show a0B ((d,SV.nif)::_) d=_;simp [a0B,Nat.beq_refl]));refine wpS_seq (wpS_region ?_);have hr:=i0j (P:=P) { tmps:=vals.toArray++Array.replicate (fn.ntmps-vals.toArray.size) undef,defers:= []} o ho w;show wpOpsS P #[o,p] _ [0,1] _ _ _;simp only [wpOpsS,x0D,z0d,z0c];rw [if_pos (by simp [Region.wanted,hog])];rw [hr];simp only [f0Z hc,hod];rw [if_pos (by simp [Region.wanted,hpg])];have hr2:(execOp (Act.eval (Act.put { tmps:=vals.toArray++Array.replicate (fn.ntmps-vals.toArray.size) undef,defers:= []} (some d) .nilIface)) p).run P w= .ok (.value .nilIface) w:=by
  simp only [execOp,hp];rw [e0];rfl
 rw [hr2];simp only [Oper.upon,hpd];exact s0b hm hT hok R2 h hc
end
end Go.Sy
namespace Go.Sy
open Go.RowKit
end Go.Sy
namespace Go.Sy
open Go.RowKit
mutual
def SV.mem (μ:Nat->Nat):SV->SV
 | .ptr h q i j=> .ptr h (q+μ h) i j
 | .sl h q i n=> .sl h (q+μ h) i n
 | .map h q=> .map h (q+μ h)
 | .fn f l=> .fn f (SV.mems μ l)
 | .iface t v=> .iface t (SV.mem μ v)
 | .agg l=> .agg (SV.mems μ l)
 | .tup l=> .tup (SV.mems μ l)
 | .bool b=> .bool b
 | .int k n=> .int k n
 | .str s=> .str s
 | .nptr=> .nptr
 | .nsl=> .nsl
 | .zsl=> .zsl
 | .nmap=> .nmap
 | .nif=> .nif
 | .arr n l=> .arr n l
 | .raw v=> .raw v
 | .unk=> .unk
def SV.mems (μ:Nat->Nat):List SV->List SV
 | []=> []
 |s::r=>SV.mem μ s::SV.mems μ r
end
def Sm (μ:Nat->Nat) (g g':G):Prop:=∀h q,g h q=g' h (q+μ h)
mutual
theorem Rv.mem {μ:Nat->Nat} {g g':G} (hs:Sm μ g g'):∀(sv:SV) (v:Value),Rv g sv v↔Rv g' (SV.mem μ sv) v
 | .bool _,_=>by simp only [SV.mem,Rv]
 | .int _ _,_=>by simp only [SV.mem,Rv]
 | .str _,_=>by simp only [SV.mem,Rv]
 | .ptr h q i j,v=>by simp only [SV.mem,Rv,hs h q]
 | .nptr,_=>by simp only [SV.mem,Rv]
 | .sl h q i m,v=>by simp only [SV.mem,Rv,hs h q]
 | .nsl,_=>by simp only [SV.mem,Rv]
 | .zsl,_=>by simp only [SV.mem,Rv]
 | .map h q,v=>by simp only [SV.mem,Rv,hs h q]
 | .nmap,_=>by simp only [SV.mem,Rv]
 | .fn f l,v=>by
   simp only [SV.mem,Rv];constructor
   .rintro ⟨vs,e,k⟩;exact ⟨vs,e,(Rvs.mem hs l _).1 k⟩
   .rintro ⟨vs,e,k⟩;exact ⟨vs,e,(Rvs.mem hs l _).2 k⟩
 | .iface t s,v=>by
   simp only [SV.mem,Rv];constructor
   .rintro ⟨u,e,k⟩;exact ⟨u,e,(Rv.mem hs s _).1 k⟩
   .rintro ⟨u,e,k⟩;exact ⟨u,e,(Rv.mem hs s _).2 k⟩
 | .nif,_=>by simp only [SV.mem,Rv]
 | .agg l,v=>by
   simp only [SV.mem,Rv];constructor
   .rintro ⟨vs,e,k⟩;exact ⟨vs,e,(Rvs.mem hs l _).1 k⟩
   .rintro ⟨vs,e,k⟩;exact ⟨vs,e,(Rvs.mem hs l _).2 k⟩
 | .arr _ _,_=>by simp only [SV.mem,Rv]
 | .tup l,v=>by
   simp only [SV.mem,Rv];constructor
   .rintro ⟨vs,e,k⟩;exact ⟨vs,e,(Rvs.mem hs l _).1 k⟩
   .rintro ⟨vs,e,k⟩;exact ⟨vs,e,(Rvs.mem hs l _).2 k⟩
 | .raw _,_=>by simp only [SV.mem,Rv]
 | .unk,_=>by simp only [SV.mem,Rv]
theorem Rvs.mem {μ:Nat->Nat} {g g':G} (hs:Sm μ g g'):∀(l:List SV) (vs:List Value),Rvs g l vs↔Rvs g' (SV.mems μ l) vs
 | [],_=>by simp only [SV.mems,Rvs]
 |s::l,vs=>by
  simp only [SV.mems,Rvs];constructor
  .rintro ⟨v,vs',e,h1,h2⟩;exact ⟨v,vs',e,(Rv.mem hs s v).1 h1,(Rvs.mem hs l vs').1 h2⟩
  .rintro ⟨v,vs',e,h1,h2⟩;exact ⟨v,vs',e,(Rv.mem hs s v).2 h1,(Rvs.mem hs l vs').2 h2⟩
end
structure FamAt where
 q:Nat
 dom:Nat->Prop
 f:Nat->Blk
end Go.Sy
namespace Go.Sy
open Go.RowKit
theorem k0O {n:Nat} {R:Nat->Nat->Option (Nat×Nat)} (s:SV):SLe n R s s:=fun g g1 v hle _ h=>Rv.mono hle s v h
theorem i0n {h q:Nat} {ro:Bool} {b:Blk}:¬Ent [] h q ro b:=fun ⟨hb,e,_⟩=>by simp [a0x] at e
end Go.Sy
namespace Go.Sy
open Go.RowKit
theorem k0P {n:Nat} {R:Nat->Nat->Option (Nat×Nat)} {ka:Bool} {m:Nat} {ks:List Col} {c c':BCol} {bs:List Nat} {ck:Nat} (hl:c'.len=m) (h:∀i,i<m->SLe n R (c.at i) (c'.at i)):BLe n R (.obj (.map ka false m ks [c] bs ck)) (.obj (.map ka false m ks [c'] bs ck)):=
 .inr ⟨rfl,rfl,rfl,rfl,rfl,rfl,fun _ c2 h2=>by rw [i0p] at h2;subst h2;exact hl,fun i hi=>h i hi⟩
theorem i0r {H:a0g} {n th:Nat} {tb0 tb:Blk} (hth:th<n) (ht:a0x H th=some (.one false tb0)) (hle:BLe n (fun _ _=>none) tb0 tb):Relab H n (fun _ _=>none) (fun _=>0) [(th,some (.one false tb))] [] 0:=by
 have key:∀{h q:Nat} {ro:Bool} {b:Blk},Ent [(th,some (HB.one false tb))] h q ro b->h=th/\q=0/\ro=false/\b=tb:=by
  intro h q ro b he;rcases a0l.1 he with ⟨rfl,hb2,e1,e2,e3⟩|⟨_,he⟩
  .cases e1;exact ⟨rfl,e2.1,e3.symm,e2.2⟩
  .exact (i0n he).elim
 refine ⟨fun h q p _ e=>(by cases e),fun h q ro b he=>(key he).2.2.1,?_,fun h q p _ e=>(by cases e),?_⟩
 .intro h q b' he;obtain ⟨rfl,rfl,_,rfl⟩:=key he;exact .inl ⟨h,0,tb0,.inl ⟨hth,rfl,rfl⟩,⟨_,ht,⟨rfl,rfl⟩,rfl⟩,hle⟩
 .intro h q h' q' h0 q0 _ _ h1 h2;rcases h1 with ⟨_,rfl,rfl⟩|⟨_,e⟩
  .rcases h2 with ⟨_,e1,e2⟩|⟨_,e⟩
   .exact ⟨e1,e2⟩
   .cases e
  .cases e
structure GD where
 old:Nat
 nw:Nat
 f:Nat->Blk
end Go.Sy
namespace Go.Sy
open Go.RowKit
structure TD where
 h:Nat
 b0:Blk
 b:Blk
end Go.Sy
namespace Go.Sy
open Go.RowKit Go.ChangeShapes Go.WideShapes Go.Deep
inductive CK where
 |int (k:IntKind)
 |bool
 |str
def c0w:CK->Value->Prop
 | .int k,v=>∃n,v= .int k n/\(Lit.int k n).wf=true
 | .bool,v=>∃b,v= .bool b
 | .str,v=>∃s,v= .string s/\s.size<=maxLen
def AllOk:List CK->List Value->Prop
 | [],vs=>vs= []
 |c::cs,vs=>∃v r,vs=v::r/\c0w c v/\AllOk cs r
theorem AllOk.length:∀(ks:List CK) (vs:List Value),AllOk ks vs->vs.length=ks.length
 | [],vs,h=>by simp only [AllOk] at h;simp [h]
 |c::cs,vs,h=>by simp only [AllOk] at h;obtain ⟨v,r,rfl,_,h⟩:=h;simp [AllOk.length cs r h]
theorem AllOk.append:∀(a b:List CK) (vs:List Value),AllOk a (vs.take a.length)->AllOk b (vs.drop a.length)->AllOk (a++b) vs
 | [],b,vs,_,h=>by simpa using h
 |c::a,b,vs,h1,h2=>by
  cases vs with
  |nil=>simp only [m0j,List.take_nil,AllOk] at h1;obtain ⟨v,r,e,_⟩:=h1;cases e
  |cons v vs=>
   simp only [m0j,e1N,AllOk] at h1;obtain ⟨v',r,e,hc,hr⟩:=h1;simp only [List.cons.injEq] at e;obtain ⟨rfl,rfl⟩:=e;simp only [i0k,AllOk];exact ⟨v,vs,rfl,hc,AllOk.append a b vs hr (by simpa using h2)⟩
mutual
def g0C (P:Program):Nat->TypeId->Option (List CK)
 |0,_=>none
 |n+1,t=>match P.underlying t with
  |some .bool=>some [.bool]
  |some (.int k)=>some [.int k]
  |some .string=>some [.str]
  |some (.struct fs)=>match e0Y P n 0 fs.toList with
   |some ks=>bif Nat.beq (P.cellsOf t) ks.length then some ks else none
   |none=>none
  |_=>none
def e0Y (P:Program):Nat->Nat->List Field->Option (List CK)
 |0,_,_=>none
 |_+1,_,[]=>some []
 |n+1,o,f::r=>bif Nat.beq f.offset o then (match g0C P n f.type with
  |some a=>bif Nat.beq (P.cellsOf f.type) a.length then (match e0Y P n (o+a.length) r with|some b=>some (a++b)|none=>none) else none
  |none=>none) else none
end
section
variable {H:Type} {enc:TypeId×Value->H} {P:Program} {w:World} {base:Nat} {spare:Nat->Bool} {held:Bool}
theorem i0R:∀m:Nat,(∀(t:TypeId) (ks:List CK) (fuel:Nat) (cs:List Value) (x:DataW H×List MemPlace),g0C P m t=some ks->DataW.trod enc P w base spare held fuel t cs=some x->AllOk ks cs)/\
  (∀(o:Nat) (fs:List Field) (ks:List CK) (cs:List Value) (n:Nat),e0Y P m o fs=some ks->cs.length=o+ks.length->(∀f∈fs,∃y,DataW.trod enc P w base spare held n f.type ((cs.drop f.offset).take (P.cellsOf f.type))=some y)->AllOk ks (cs.drop o)):=by
 intro m;induction m with
 |zero=>exact ⟨fun t ks fuel cs x h=>by simp [g0C] at h,fun o fs ks cs n h=>by simp [e0Y] at h⟩
 |succ m ih=>
  refine ⟨?_,?_⟩
  .intro t ks fuel cs x h ht;simp only [g0C] at h;split at h
   .rename_i hu;simp only [Option.some.injEq] at h;subst h;obtain ⟨b,rfl,_⟩:=DataW.trod_bool hu ht;simp only [AllOk,c0w];exact ⟨_,_,rfl,⟨b,rfl⟩,rfl⟩
   .rename_i k hu;simp only [Option.some.injEq] at h;subst h;obtain ⟨n,rfl,_,hw⟩:=DataW.trod_int hu ht;simp only [AllOk,c0w];exact ⟨_,_,rfl,⟨n,rfl,hw⟩,rfl⟩
   .rename_i hu;simp only [Option.some.injEq] at h;subst h;obtain ⟨s,rfl,_,hw⟩:=DataW.trod_string hu ht;simp only [AllOk,c0w];exact ⟨_,_,rfl,⟨s,rfl,hw⟩,rfl⟩
   .rename_i fs hu;split at h
    .rename_i ks' hks;cases hb:Nat.beq (P.cellsOf t) ks'.length with
     |false=>rw [hb] at h;simp at h
     |true=>
      rw [hb] at h;simp only [cond_true,Option.some.injEq] at h;subst h;obtain ⟨xs,n,_,_,hlen,hxl,hf⟩:=DataW.trod_struct hu ht;have:=ih.2 0 fs.toList ks' cs n hks (by rw [hlen,c0k hb];simp) (by
       intro f hf';obtain ⟨i,hi,rfl⟩:=t0H hf';have hi':i<fs.size:=by simpa using hi
       have h1:=hf i fs[i] (by simp [hi']);have h2:xs[i]? =some (xs[i]'(by omega)):=d0L (by omega);refine ⟨xs[i]'(by omega),?_⟩;have:fs.toList[i]=fs[i]:=by simp
       rw [this,h1,h2])
      simpa using this
    .cases h
   .cases h
  .intro o fs ks cs n h hlen hall;cases fs with
   |nil=>
    simp only [e0Y,Option.some.injEq] at h;subst h;simp only [AllOk];exact e1D (by simp at hlen;omega)
   |cons f r=>
    simp only [e0Y] at h;cases ho:Nat.beq f.offset o with
    |false=>rw [ho] at h;simp at h
    |true=>
     rw [ho] at h;simp only [cond_true] at h;split at h
     .rename_i a ha;cases hb:Nat.beq (P.cellsOf f.type) a.length with
      |false=>rw [hb] at h;simp at h
      |true=>
       rw [hb] at h;simp only [cond_true] at h;split at h
       .rename_i b hbb;simp only [Option.some.injEq] at h;subst h;have eo:=c0k ho;have ea:=c0k hb;obtain ⟨y,hy⟩:=hall f (by simp);have h1:=ih.1 f.type a n _ y ha hy;rw [eo,ea] at h1;refine AllOk.append a b (cs.drop o) h1 ?_;rw [b1Z];exact ih.2 (o+a.length) r b cs n hbb (by simp at hlen;omega) (fun f' hf'=>hall f' (by simp [hf']))
       .cases h
     .cases h
theorem i0x {m:Nat} {t:TypeId} {ks:List CK} {fuel:Nat} {cs:List Value} {x:DataW H×List MemPlace} (h:g0C P m t=some ks) (ht:DataW.trod enc P w base spare held fuel t cs=some x):AllOk ks cs:=(i0R m).1 t ks fuel cs x h ht
def v0X:Value->Int| .int _ n=>n|_=>0
def v0Y:Value->ByteArray| .string s=>s|_=>⟨#[]⟩
def s0K:Value->Bool| .bool b=>b|_=>false
def m0A:CK->Col->Nat->Prop
 | .int k,c,n=>∃l,c= .ints k l/\l.length=n/\∀x∈l,(Lit.int k x).wf=true
 | .bool,c,n=>∃l,c= .bools l/\l.length=n
 | .str,c,n=>∃l,c= .strs l/\l.length=n/\∀x∈l,x.size<=maxLen
def c0b:List CK->List Col->Nat->Prop
 | [],l,_=>l= []
 |c::cs,l,n=>∃x r,l=x::r/\m0A c x n/\c0b cs r n
def g0b (n:Nat) (v:Nat->Value):CK->Col
 | .int k=> .ints k ((List.range n).map fun i=>v0X (v i))
 | .bool=> .bools ((List.range n).map fun i=>s0K (v i))
 | .str=> .strs ((List.range n).map fun i=>v0Y (v i))
def a0Y (n:Nat) (v:Nat->Nat->Value):Nat->List CK->List Col
 |_,[]=> []
 |j,c::cs=>g0b n (fun i=>v i j) c::a0Y n v (j+1) cs
theorem c0s {α:Type} (n:Nat) (f:Nat->α) (d:α) (i:Nat) (h:i<n):((List.range n).map f).getD i d=f i:=by
 simp [List.getD,h]
theorem i0y {n:Nat} {v:Nat->Value} {c:CK} {g:G} {i:Nat} (hi:i<n) (h:c0w c (v i)):Rv g ((g0b n v c).at i) (v i):=by
 cases c with
 |int k=>obtain ⟨m,e,_⟩:=h;simp only [g0b,Col.at,c0s n _ _ i hi,e,v0X,Rv]
 |bool=>obtain ⟨b,e⟩:=h;simp only [g0b,Col.at,c0s n _ _ i hi,e,s0K,Rv]
 |str=>obtain ⟨s,e,_⟩:=h;simp only [g0b,Col.at,c0s n _ _ i hi,e,v0Y,Rv]
theorem f0p (n:Nat) (v:Nat->Nat->Value):∀(cs:List CK) (j k:Nat),nth (a0Y n v j cs) k=(nth cs k).map (fun c=>g0b n (fun i=>v i (j+k)) c)
 | [],j,k=>by simp [a0Y,nth]
 |c::cs,j,0=>by simp [a0Y,nth]
 |c::cs,j,k+1=>by
  simp only [a0Y,nth];rw [f0p n v cs (j+1) k,show j+1+k=j+(k+1) from by omega]
theorem d0A (n:Nat) (v:Nat->Nat->Value):∀(cs:List CK) (j:Nat),(∀i,i<n->∀k c,nth cs k=some c->c0w c (v i (j+k)))->c0b cs (a0Y n v j cs) n
 | [],j,_=>by simp [a0Y,c0b]
 |c::cs,j,h=>by
  simp only [a0Y,c0b];refine ⟨_,_,rfl,?_,d0A n v cs (j+1) (fun i hi k c' hc=>by rw [show j+1+k=j+(k+1) from by omega];exact h i hi (k+1) c' hc)⟩;have h0:∀i,i<n->c0w c (v i j):=fun i hi=>h i hi 0 c rfl
  cases c with
  |int k=>
   refine ⟨_,rfl,by simp,?_⟩;intro x hx;simp only [m0l,q0f] at hx;obtain ⟨i,hi,rfl⟩:=hx;obtain ⟨m,e,hw⟩:=h0 i hi;rw [e];exact hw
  |bool=>exact ⟨_,rfl,by simp⟩
  |str=>
   refine ⟨_,rfl,by simp,?_⟩;intro x hx;simp only [m0l,q0f] at hx;obtain ⟨i,hi,rfl⟩:=hx;obtain ⟨m,e,hw⟩:=h0 i hi;rw [e];exact hw
theorem AllOk.nth:∀(ks:List CK) (vs:List Value) (j:Nat) (c:CK),AllOk ks vs->Sy.nth ks j=some c->∃v,vs[j]? =some v/\c0w c v
 | [],vs,j,c,_,h=>by simp [Sy.nth] at h
 |k::ks,vs,j,c,h,hj=>by
  simp only [AllOk] at h;obtain ⟨v,r,rfl,h1,h2⟩:=h;cases j with
  |zero=>simp [Sy.nth] at hj;subst hj;exact ⟨v,by simp,h1⟩
  |succ j=>simp only [Sy.nth] at hj;obtain ⟨u,h3,h4⟩:=AllOk.nth ks r j c h2 hj;exact ⟨u,by simpa using h3,h4⟩
theorem g0D {c:CK} {v:Value} (h:c0w c v):v.oneCell'=true:=by
 cases c with
 |int k=>obtain ⟨n,rfl,_⟩:=h;rfl
 |bool=>obtain ⟨b,rfl⟩:=h;rfl
 |str=>obtain ⟨b,rfl,_⟩:=h;rfl
theorem e0O:∀(ks:List CK) (cols:List Col) (n:Nat),c0b ks cols n->cols.length=ks.length/\∀c∈cols,c.len=n
 | [],cols,n,h=>by simp only [c0b] at h;subst h;simp
 |k::ks,cols,n,h=>by
  simp only [c0b] at h;obtain ⟨x,r,rfl,h1,h2⟩:=h;obtain ⟨i1,i2⟩:=e0O ks r n h2;refine ⟨by simp [i1],?_⟩;intro c hc;rcases d0z.1 hc with rfl|hc
  .cases k with
   |int k=>obtain ⟨l,rfl,e,_⟩:=h1;exact e
   |bool=>obtain ⟨l,rfl,e⟩:=h1;exact e
   |str=>obtain ⟨l,rfl,e,_⟩:=h1;exact e
  .exact i2 c hc
theorem u0X {t e:TypeId} {m fuel:Nat} {v:Value} {ks:List CK} {x:DataW H×List MemPlace} (ht:P.underlying t=some (.slice e)) (hk:g0C P m e=some ks) (hlen:P.cellsOf e=ks.length) (h0:0<ks.length)
  (h:DataW.trod enc P w base (fun _=>true) held fuel t [v]=some x):
  ∃(n:Nat) (β:Base) (cols:List Col),n<=maxLen/\c0b ks cols n/\(∀(g:G) (h:Nat),g h 0=some β->Rv g (.sl h 0 0 n) v)/\(∀g:G,BlkAt g β true (.cols n (a0W cols)) w):=by
 have dead:∀a,v= .slice a 0 0->∃(n:Nat) (β:Base) (cols:List Col),n<=maxLen/\c0b ks cols n/\(∀(g:G) (h:Nat),g h 0=some β->Rv g (.sl h 0 0 n) v)/\(∀g:G,BlkAt g β true (.cols n (a0W cols)) w):=by
  intro a hv;have hok:c0b ks (a0Y 0 (fun _ _=>undef) 0 ks) 0:=d0A _ _ _ _ (fun i hi=>absurd hi (s0d _));obtain ⟨l1,l2⟩:=e0O _ _ _ hok;refine ⟨0,⟨0,0,ks.length,0⟩,a0Y 0 (fun _ _=>undef) 0 ks,k0R _,hok,?_,?_⟩
  .intro g h _;subst hv;simp only [Rv];exact ⟨a,0,rfl,d0M _,.inl rfl⟩
  .intro g;refine ⟨fun h=>by simp at h,by simp [Blk.es,(c0N _).1,l1],?_,fun i hi=>by simp only [Blk.has] at hi;omega,fun i j sv hi=>by simp only [Blk.has] at hi;omega,fun i j v hi=>by simp only [Blk.has] at hi;omega,(fun h=>by cases h),trivial⟩;intro c hc;obtain ⟨j,hj⟩:=c0h hc;rw [(c0N _).2 j] at hj;cases hn:nth (a0Y 0 (fun _ _=>undef) 0 ks) j with
   |none=>rw [hn] at hj;cases hj
   |some y=>rw [hn] at hj;cases hj;exact l2 y (b0d hn)
 rcases open_slice ht h with ⟨hv,_⟩|⟨a,len,cap,mm,nn,D,Pl,hv,_,hl,hm,hmm,hx,hi⟩
 .simp only [List.cons.injEq,and_true] at hv;exact dead none hv
 .simp only [List.cons.injEq,and_true] at hv;simp only [if_true] at hmm;subst hmm;have cell:∀i,i<mm->∀j c,nth ks j=some c->∃u,w.cell? (a.add (i*ks.length+j))=some u/\c0w c u:=by
   intro i him j c hj;obtain ⟨cs',hc,ht'⟩:=hi i him;have hall:=i0x hk ht';obtain ⟨u,hu,hok⟩:=AllOk.nth ks cs' j c hall hj;rw [hlen] at hc;obtain ⟨_,hcl,hat⟩:=World.cells?_some hc;have hjl:=b0y hj;refine ⟨u,?_,hok⟩;rw [<-Go.Deep.add_add,hat j hjl];exact hu
  by_cases hz:mm=0
  .subst hz;have hl0:len=0:=by omega
   subst hl0;exact dead (some a) hv
  .subst hv;obtain ⟨c0,hc0⟩:∃c0,nth ks 0=some c0:=by
    cases ks with
    |nil=>simp at h0
    |cons c r=>exact ⟨c,rfl⟩
   obtain ⟨u0,hu0,_⟩:=cell 0 (by omega) 0 c0 hc0;simp only [b1H,n0r] at hu0;have ha0:a.add 0=a:=by simp [Addr.add]
   rw [ha0] at hu0;have hspot:a.spot=none:=by
    unfold World.cell? at hu0;split at hu0
    .split at hu0
     .cases hu0
     .rename_i hs;simpa using hs
    .cases hu0
   have hblk:a.block<w.heap.size:=by
    unfold World.cell? at hu0;split at hu0
    .rename_i hh;exact (i0q.1 hh).1
    .cases hu0
   let β:Base:=⟨a.block,a.off,ks.length,mm⟩
   have haddr:∀i j,a.add (i*ks.length+j)=β.addr i j:=by
    intro i j;obtain ⟨b,o,s⟩:=a;simp only at hspot;subst hspot;unfold Addr.add Base.addr;split
    .rename_i h;simp only [β];congr 1;omega
    .simp only [β];congr 1;omega
   let val:Nat->Nat->Value:=fun i j=>(w.cell? (β.addr i j)).getD undef
   have hcols:c0b ks (a0Y len val 0 ks) len:=by
    refine d0A len val ks 0 (fun i hi' k c hc=> ?_);obtain ⟨u,hu,hok⟩:=cell i (by omega) k c hc;rw [haddr] at hu;simp only [val,i0s,hu,o0y];exact hok
   obtain ⟨l1,l2⟩:=e0O _ _ _ hcols;obtain ⟨u1,u2⟩:=c0N (a0Y len val 0 ks);refine ⟨len,β,a0Y len val 0 ks,s0e hl hm,hcols,?_,?_⟩
   .intro g h hg;simp only [Rv];refine ⟨some a,mm,rfl,hl,.inr ⟨β,hg,?_,by simp [β]⟩⟩;have:=haddr 0 0;simp only [b1H,n0r,ha0] at this;rw [this]
   .intro g;refine ⟨fun _=>hblk,by simp [Blk.es,u1,l1,β],?_,fun i hi=>by simp only [Blk.has] at hi;simp only [β];omega,?_,?_,(fun h=>by cases h),trivial⟩
    .intro c hc;obtain ⟨j,hj⟩:=c0h hc;rw [u2 j] at hj;cases hn:nth (a0Y len val 0 ks) j with
     |none=>rw [hn] at hj;cases hj
     |some y=>rw [hn] at hj;cases hj;exact l2 y (b0d hn)
    .intro i j sv hi' hj;simp only [Blk.has] at hi';simp only [Blk.at,u2 j,f0p] at hj;cases hc:nth ks j with
     |none=>rw [hc] at hj;simp at hj
     |some c=>
      rw [hc] at hj;simp only [g0w,Option.some.injEq,i0s] at hj;subst hj;obtain ⟨u,hu,hok⟩:=cell i (by omega) j c hc;rw [haddr] at hu;have hval:val i j=u:=by simp only [val,hu,o0y]
      refine ⟨u,hu,?_⟩;rw [<-hval];exact i0y (v:=fun i=>val i j) hi' (by rw [hval];exact hok)
    .intro i j v' hi' hj hv';simp only [Blk.has] at hi';obtain ⟨c,hc⟩:∃c,nth ks j=some c:=⟨ks[j],by rw [a0S];exact d0L hj⟩;obtain ⟨u,hu,hok⟩:=cell i (by omega) j c hc;rw [haddr,hv'] at hu;cases hu;exact g0D hok
end
end Go.Sy
namespace Go.Sy
open Go.RowKit Go.ChangeShapes Go.WideShapes Go.Deep
inductive K2 where
 |sc (c:CK)
 |sl (ks:List CK)
def d1P (w:World) (ks:List CK) (v:Value) (n:Nat) (β:Base) (cols:List Col):Prop:=
 n<=maxLen/\c0b ks cols n/\(∀(g:G) (h q:Nat),g h q=some β->Rv g (.sl h q 0 n) v)/\(∀g:G,BlkAt g β true (.cols n (a0W cols)) w)
def i0T (w:World):K2->Value->Prop
 | .sc c,v=>c0w c v
 | .sl ks,v=>v.oneCell'=true/\∃n β cols,d1P w ks v n β cols
def AllOk2 (w:World):List K2->List Value->Prop
 | [],vs=>vs= []
 |c::cs,vs=>∃v r,vs=v::r/\i0T w c v/\AllOk2 w cs r
theorem AllOk2.append {w:World}:∀(a b:List K2) (vs:List Value),AllOk2 w a (vs.take a.length)->AllOk2 w b (vs.drop a.length)->AllOk2 w (a++b) vs
 | [],b,vs,_,h=>by simpa using h
 |c::a,b,vs,h1,h2=>by
  cases vs with
  |nil=>simp only [m0j,List.take_nil,AllOk2] at h1;obtain ⟨v,r,e,_⟩:=h1;cases e
  |cons v vs=>
   simp only [m0j,e1N,AllOk2] at h1;obtain ⟨v',r,e,hc,hr⟩:=h1;simp only [List.cons.injEq] at e;obtain ⟨rfl,rfl⟩:=e;simp only [i0k,AllOk2];exact ⟨v,vs,rfl,hc,AllOk2.append a b vs hr (by simpa using h2)⟩
theorem AllOk2.nth {w:World}:∀(ks:List K2) (vs:List Value) (j:Nat) (c:K2),AllOk2 w ks vs->Sy.nth ks j=some c->∃v,vs[j]? =some v/\i0T w c v
 | [],vs,j,c,_,h=>by simp [Sy.nth] at h
 |k::ks,vs,j,c,h,hj=>by
  simp only [AllOk2] at h;obtain ⟨v,r,rfl,h1,h2⟩:=h;cases j with
  |zero=>simp [Sy.nth] at hj;subst hj;exact ⟨v,by simp,h1⟩
  |succ j=>simp only [Sy.nth] at hj;obtain ⟨u,h3,h4⟩:=AllOk2.nth ks r j c h2 hj;exact ⟨u,by simpa using h3,h4⟩
mutual
def n0z (P:Program):Nat->TypeId->Option (List K2)
 |0,_=>none
 |n+1,t=>match P.underlying t with
  |some .bool=>some [.sc .bool]
  |some (.int k)=>some [.sc (.int k)]
  |some .string=>some [.sc .str]
  |some (.slice e)=>(match g0C P n e with
   |some ks=>bif Nat.beq (P.cellsOf e) ks.length&&Nat.blt 0 ks.length then some [.sl ks] else none
   |none=>none)
  |some (.struct fs)=>(match g0E P n 0 fs.toList with
   |some ks=>bif Nat.beq (P.cellsOf t) ks.length then some ks else none
   |none=>none)
  |_=>none
def g0E (P:Program):Nat->Nat->List Field->Option (List K2)
 |0,_,_=>none
 |_+1,_,[]=>some []
 |n+1,o,f::r=>bif Nat.beq f.offset o then (match n0z P n f.type with
  |some a=>bif Nat.beq (P.cellsOf f.type) a.length then (match g0E P n (o+a.length) r with|some b=>some (a++b)|none=>none) else none
  |none=>none) else none
end
section
variable {H:Type} {enc:TypeId×Value->H} {P:Program} {w:World} {base:Nat} {held:Bool}
theorem b1r {v:Value} {n:Nat} {β:Base} (hR:∀(g:G) (h:Nat),g h 0=some β->Rv g (.sl h 0 0 n) v) (g:G) (h q:Nat) (hg:g h q=some β):Rv g (.sl h q 0 n) v:=by
 have:=hR (fun _ _=>some β) h rfl;simp only [Rv] at this⊢;obtain ⟨a,c,e1,e2,e3⟩:=this;refine ⟨a,c,e1,e2,?_⟩;rcases e3 with e3|⟨β',e4,e5,e6⟩
 .exact .inl e3
 .simp only [Option.some.injEq] at e4;subst e4;exact .inr ⟨_,hg,e5,e6⟩
theorem i0z:∀m:Nat,(∀(t:TypeId) (ks:List K2) (fuel:Nat) (cs:List Value) (x:DataW H×List MemPlace),n0z P m t=some ks->DataW.trod enc P w base (fun _=>true) held fuel t cs=some x->AllOk2 w ks cs)/\
  (∀(o:Nat) (fs:List Field) (ks:List K2) (cs:List Value) (n:Nat),g0E P m o fs=some ks->cs.length=o+ks.length->(∀f∈fs,∃y,DataW.trod enc P w base (fun _=>true) held n f.type ((cs.drop f.offset).take (P.cellsOf f.type))=some y)->AllOk2 w ks (cs.drop o)):=by
 intro m;induction m with
 |zero=>exact ⟨fun t ks fuel cs x h=>by simp [n0z] at h,fun o fs ks cs n h=>by simp [g0E] at h⟩
 |succ m ih=>
  refine ⟨?_,?_⟩
  .intro t ks fuel cs x h ht;simp only [n0z] at h;split at h
   .rename_i hu;simp only [Option.some.injEq] at h;subst h;obtain ⟨b,rfl,_⟩:=DataW.trod_bool hu ht;simp only [AllOk2,i0T,c0w];exact ⟨_,_,rfl,⟨b,rfl⟩,rfl⟩
   .rename_i k hu;simp only [Option.some.injEq] at h;subst h;obtain ⟨n,rfl,_,hw⟩:=DataW.trod_int hu ht;simp only [AllOk2,i0T,c0w];exact ⟨_,_,rfl,⟨n,rfl,hw⟩,rfl⟩
   .rename_i hu;simp only [Option.some.injEq] at h;subst h;obtain ⟨s,rfl,_,hw⟩:=DataW.trod_string hu ht;simp only [AllOk2,i0T,c0w];exact ⟨_,_,rfl,⟨s,rfl,hw⟩,rfl⟩
   .rename_i e hu;split at h
    .rename_i ks' hks;cases hb:(Nat.beq (P.cellsOf e) ks'.length&&Nat.blt 0 ks'.length) with
     |false=>rw [hb] at h;simp at h
     |true=>
      rw [hb] at h;simp only [cond_true,Option.some.injEq] at h;subst h;simp only [c0q] at hb;have hl:=c0k hb.1;have h0:0<ks'.length:=k0S hb.2;have key:∀a n c,cs= [.slice a n c]->AllOk2 w [.sl ks'] cs:=by
       intro a n c hv;subst hv;obtain ⟨n',β,cols,k1,k2,k3,k4⟩:=u0X hu hks hl h0 ht;simp only [AllOk2,i0T];exact ⟨_,_,rfl,⟨rfl,n',β,cols,k1,k2,b1r k3,k4⟩,rfl⟩
      rcases open_slice hu ht with ⟨hv,_⟩|⟨a,len,cap,mm,nn,D,Pl,hv,_⟩
      .exact key _ _ _ hv
      .exact key _ _ _ hv
    .cases h
   .rename_i fs hu;split at h
    .rename_i ks' hks;cases hb:Nat.beq (P.cellsOf t) ks'.length with
     |false=>rw [hb] at h;simp at h
     |true=>
      rw [hb] at h;simp only [cond_true,Option.some.injEq] at h;subst h;obtain ⟨xs,n,_,_,hlen,hxl,hf⟩:=DataW.trod_struct hu ht;have:=ih.2 0 fs.toList ks' cs n hks (by rw [hlen,c0k hb];simp) (by
       intro f hf';obtain ⟨i,hi,rfl⟩:=t0H hf';have hi':i<fs.size:=by simpa using hi
       have h1:=hf i fs[i] (by simp [hi']);have h2:xs[i]? =some (xs[i]'(by omega)):=d0L (by omega);refine ⟨xs[i]'(by omega),?_⟩;have:fs.toList[i]=fs[i]:=by simp
       rw [this,h1,h2])
      simpa using this
    .cases h
   .cases h
  .intro o fs ks cs n h hlen hall;cases fs with
   |nil=>
    simp only [g0E,Option.some.injEq] at h;subst h;simp only [AllOk2];exact e1D (by simp at hlen;omega)
   |cons f r=>
    simp only [g0E] at h;cases ho:Nat.beq f.offset o with
    |false=>rw [ho] at h;simp at h
    |true=>
     rw [ho] at h;simp only [cond_true] at h;split at h
     .rename_i a ha;cases hb:Nat.beq (P.cellsOf f.type) a.length with
      |false=>rw [hb] at h;simp at h
      |true=>
       rw [hb] at h;simp only [cond_true] at h;split at h
       .rename_i b hbb;simp only [Option.some.injEq] at h;subst h;have eo:=c0k ho;have ea:=c0k hb;obtain ⟨y,hy⟩:=hall f (by simp);have h1:=ih.1 f.type a n _ y ha hy;rw [eo,ea] at h1;refine AllOk2.append a b (cs.drop o) h1 ?_;rw [b1Z];exact ih.2 (o+a.length) r b cs n hbb (by simp at hlen;omega) (fun f' hf'=>hall f' (by simp [hf']))
       .cases h
     .cases h
theorem q0d {m:Nat} {t:TypeId} {ks:List K2} {fuel:Nat} {cs:List Value} {x:DataW H×List MemPlace} (h:n0z P m t=some ks) (ht:DataW.trod enc P w base (fun _=>true) held fuel t cs=some x):AllOk2 w ks cs:=(i0z m).1 t ks fuel cs x h ht
theorem n0A {t e:TypeId} {m fuel:Nat} {v:Value} {ks:List K2} {x:DataW H×List MemPlace} (ht:P.underlying t=some (.slice e)) (hk:n0z P m e=some ks) (hlen:P.cellsOf e=ks.length) (h0:0<ks.length)
  (h:DataW.trod enc P w base (fun _=>true) held fuel t [v]=some x):
  ∃(n:Nat) (β:Base) (val:Nat->Nat->Value),n<=maxLen/\(∀(g:G) (h q:Nat),g h q=some β->Rv g (.sl h q 0 n) v)/\β.es=ks.length/\n<=β.cap/\(0<β.cap->β.blk<w.heap.size)/\
   ∀i,i<n->∀j c,nth ks j=some c->w.cell? (β.addr i j)=some (val i j)/\i0T w c (val i j):=by
 have dead:∀a,v= .slice a 0 0->∃(n:Nat) (β:Base) (val:Nat->Nat->Value),n<=maxLen/\(∀(g:G) (h q:Nat),g h q=some β->Rv g (.sl h q 0 n) v)/\β.es=ks.length/\n<=β.cap/\(0<β.cap->β.blk<w.heap.size)/\
   ∀i,i<n->∀j c,nth ks j=some c->w.cell? (β.addr i j)=some (val i j)/\i0T w c (val i j):=by
  intro a hv;refine ⟨0,⟨0,0,ks.length,0⟩,fun _ _=>undef,k0R _,?_,rfl,d0M _,fun h=>absurd h (w0z _),fun i hi=>absurd hi (s0d _)⟩;intro g h q _;subst hv;simp only [Rv];exact ⟨a,0,rfl,d0M _,.inl rfl⟩
 rcases open_slice ht h with ⟨hv,_⟩|⟨a,len,cap,mm,nn,D,Pl,hv,_,hl,hm,hmm,hx,hi⟩
 .simp only [List.cons.injEq,and_true] at hv;exact dead none hv
 .simp only [List.cons.injEq,and_true] at hv;simp only [if_true] at hmm;subst hmm;have cell:∀i,i<mm->∀j c,nth ks j=some c->∃u,w.cell? (a.add (i*ks.length+j))=some u/\i0T w c u:=by
   intro i him j c hj;obtain ⟨cs',hc,ht'⟩:=hi i him;have hall:=q0d hk ht';obtain ⟨u,hu,hok⟩:=AllOk2.nth ks cs' j c hall hj;rw [hlen] at hc;obtain ⟨_,hcl,hat⟩:=World.cells?_some hc;have hjl:=b0y hj;refine ⟨u,?_,hok⟩;rw [<-Go.Deep.add_add,hat j hjl];exact hu
  by_cases hz:mm=0
  .subst hz;have hl0:len=0:=by omega
   subst hl0;exact dead (some a) hv
  .subst hv;obtain ⟨c0,hc0⟩:∃c0,nth ks 0=some c0:=by
    cases ks with
    |nil=>simp at h0
    |cons c r=>exact ⟨c,rfl⟩
   obtain ⟨u0,hu0,_⟩:=cell 0 (by omega) 0 c0 hc0;simp only [b1H,n0r] at hu0;have ha0:a.add 0=a:=by simp [Addr.add]
   rw [ha0] at hu0;have hspot:a.spot=none:=by
    unfold World.cell? at hu0;split at hu0
    .split at hu0
     .cases hu0
     .rename_i hs;simpa using hs
    .cases hu0
   have hblk:a.block<w.heap.size:=by
    unfold World.cell? at hu0;split at hu0
    .rename_i hh;exact (i0q.1 hh).1
    .cases hu0
   obtain ⟨β,hβ⟩:∃β:Base,β=⟨a.block,a.off,ks.length,mm⟩:=⟨_,rfl⟩;have haddr:∀i j,a.add (i*ks.length+j)=β.addr i j:=by
    intro i j;obtain ⟨b,o,s⟩:=a;simp only at hspot;subst hspot;unfold Addr.add Base.addr;split
    .rename_i h;simp only [hβ];congr 1;omega
    .simp only [hβ];congr 1;omega
   have hcap:β.cap=mm:=by rw [hβ]
   refine ⟨len,β,fun i j=>(w.cell? (β.addr i j)).getD undef,s0e hl hm,?_,by rw [hβ],by omega,fun _=>by rw [hβ];exact hblk,?_⟩
   .intro g h q hg;simp only [Rv];refine ⟨some a,mm,rfl,hl,.inr ⟨β,hg,?_,by omega⟩⟩;have:=haddr 0 0;simp only [b1H,n0r,ha0] at this;rw [this]
   .intro i hi' j c hc;obtain ⟨u,hu,hok⟩:=cell i (by omega) j c hc;rw [haddr] at hu;refine ⟨by simp only [hu,o0y],?_⟩;simp only [hu,o0y];exact hok
def e0Q (n:Nat) (val:Nat->Nat->Value) (h:Nat) (ns:List Nat):Nat->List K2->List BCol
 |_,[]=> []
 |j,.sc c::r=> .sc (g0b n (fun i=>val i j) c)::e0Q n val h ns (j+1) r
 |j,.sl _::r=> .own h ns::e0Q n val h ns (j+1) r
def g0W (n h:Nat) (ns:List Nat):List K2->List BCol->Prop
 | [],l=>l= []
 | .sc c::r,l=>∃x t,l= .sc x::t/\m0A c x n/\g0W n h ns r t
 | .sl _::r,l=>∃t,l= .own h ns::t/\g0W n h ns r t
theorem i0A (n:Nat) (val:Nat->Nat->Value) (h:Nat) (ns:List Nat):∀(ks:List K2) (j k:Nat),nth (e0Q n val h ns j ks) k=(nth ks k).map (fun c=>match c with| .sc c=> .sc (g0b n (fun i=>val i (j+k)) c)| .sl _=> .own h ns)
 | [],j,k=>by simp [e0Q,nth]
 | .sc c::ks,j,0=>by simp [e0Q,nth]
 | .sl c::ks,j,0=>by simp [e0Q,nth]
 | .sc c::ks,j,k+1=>by simp only [e0Q,nth];rw [i0A n val h ns ks (j+1) k,show j+1+k=j+(k+1) from by omega]
 | .sl c::ks,j,k+1=>by simp only [e0Q,nth];rw [i0A n val h ns ks (j+1) k,show j+1+k=j+(k+1) from by omega]
theorem e0w (n:Nat) (val:Nat->Nat->Value) (h:Nat) (ns:List Nat):∀(ks:List K2) (j:Nat),(e0Q n val h ns j ks).length=ks.length
 | [],j=>rfl
 | .sc c::ks,j=>by simp [e0Q,e0w n val h ns ks (j+1)]
 | .sl c::ks,j=>by simp [e0Q,e0w n val h ns ks (j+1)]
theorem y0J {n:Nat} {v:Nat->Value} {c:CK} (h:∀i,i<n->c0w c (v i)):m0A c (g0b n v c) n:=by
 have:=d0A n (fun i _=>v i) [c] 0 (fun i hi k c' hc=>by
  cases k with
  |zero=>simp [nth] at hc;subst hc;exact h i hi
  |succ k=>simp [nth] at hc)
 simp only [a0Y,c0b] at this;obtain ⟨x,r,e,k,_⟩:=this;simp only [List.cons.injEq] at e;rw [e.1];exact k
theorem h0c {n:Nat} {val:Nat->Nat->Value} {h:Nat} {ns:List Nat}:∀(ks:List K2) (j:Nat),(∀i,i<n->∀k c,nth ks k=some c->i0T w c (val i (j+k)))->g0W n h ns ks (e0Q n val h ns j ks)
 | [],j,_=>by simp [e0Q,g0W]
 | .sc c::cs,j,hh=>by
   simp only [e0Q,g0W];exact ⟨_,_,rfl,y0J (fun i hi=>hh i hi 0 (.sc c) rfl),h0c cs (j+1) (fun i hi k c' hc=>by rw [show j+1+k=j+(k+1) from by omega];exact hh i hi (k+1) c' hc)⟩
 | .sl c::cs,j,hh=>by
   simp only [e0Q,g0W];exact ⟨_,rfl,h0c cs (j+1) (fun i hi k c' hc=>by rw [show j+1+k=j+(k+1) from by omega];exact hh i hi (k+1) c' hc)⟩
theorem s0L:∀{k:CK} {c:Col} {n:Nat},m0A k c n->c.len=n
 | .int k,c,n,h=>by obtain ⟨l,rfl,e,_⟩:=h;exact e
 | .bool,c,n,h=>by obtain ⟨l,rfl,e⟩:=h;exact e
 | .str,c,n,h=>by obtain ⟨l,rfl,e,_⟩:=h;exact e
theorem n0B {n h:Nat} {ns:List Nat} (hn:ns.length=n):∀{ks:List K2} {cols:List BCol},g0W n h ns ks cols->∀c∈cols,c.len=n
 | [],cols,hh,c,hc=>by simp only [g0W] at hh;subst hh;cases hc
 | .sc k::ks,cols,hh,c,hc=>by
   simp only [g0W] at hh;obtain ⟨x,t,rfl,h1,h2⟩:=hh;rcases d0z.1 hc with rfl|hc
   .exact s0L h1
   .exact n0B hn h2 c hc
 | .sl k::ks,cols,hh,c,hc=>by
   simp only [g0W] at hh;obtain ⟨t,rfl,h2⟩:=hh;rcases d0z.1 hc with rfl|hc
   .exact hn
   .exact n0B hn h2 c hc
def d1v:K2->Bool
 | .sc _=>true
 | .sl _=>false
def j0Q:Nat->List K2->Bool
 |_,[]=>true
 |0,_::r=>r.all d1v
 |p+1,.sc _::r=>j0Q p r
 |_+1,.sl _::_=>false
theorem b1s:∀{r:List K2} {j:Nat} {k:List CK},r.all d1v=true->nth r j≠some (.sl k)
 | [],j,k,h=>by simp [nth]
 |c::r,0,k,h=>by
  simp only [List.all_cons,c0q] at h;intro e;simp only [nth,Option.some.injEq] at e;rw [e] at h;exact absurd h.1 (by simp [d1v])
 |c::r,j+1,k,h=>by
  simp only [List.all_cons,c0q] at h;exact b1s (r:=r) (j:=j) h.2
theorem s0M:∀{ks:List K2} {p j:Nat} {k:List CK},j0Q p ks=true->nth ks j=some (.sl k)->j=p
 | [],p,j,k,_,h=>by simp [nth] at h
 |c::r,0,0,k,_,_=>rfl
 |c::r,0,j+1,k,h,e=>by
  simp only [j0Q] at h;exact absurd e (b1s (r:=r) (j:=j) h)
 | .sl c::r,p+1,j,k,h,e=>by simp [j0Q] at h
 | .sc c::r,p+1,0,k,h,e=>by simp [nth] at e
 | .sc c::r,p+1,j+1,k,h,e=>by
   simp only [j0Q] at h;simp only [nth] at e;rw [s0M h e]
theorem s0N {t e:TypeId} {m fuel:Nat} {v:Value} {ks:List K2} {x:DataW H×List MemPlace} (h' p:Nat) (k:List CK) (hp:nth ks p=some (.sl k)) (hu:j0Q p ks=true) (ht:P.underlying t=some (.slice e)) (hk:n0z P m e=some ks) (hlen:P.cellsOf e=ks.length)
  (h:DataW.trod enc P w base (fun _=>true) held fuel t [v]=some x):
  ∃(n:Nat) (β:Base) (ns:List Nat) (rows:Nat->List Col) (bs:Nat->Base) (cols:List BCol),n<=maxLen/\ns.length=n/\g0W n h' ns ks cols/\(∀i,i<n->ns.getD i 0<=maxLen/\c0b k (rows i) (ns.getD i 0)/\∀g:G,BlkAt g (bs i) true (.cols (ns.getD i 0) (a0W (rows i))) w)/\
   (∀(g:G) (h q:Nat),g h q=some β->Rv g (.sl h q 0 n) v)/\(∀g:G,(∀i,i<n->g h' i=some (bs i))->BlkAt g β true (.cols n cols) w):=by
 have h0:0<ks.length:=Nat.lt_of_le_of_lt (k0R _) (b0y hp);obtain ⟨n,β,val,h1,h2,h3,h4,h5,h6⟩:=n0A ht hk hlen h0 h;have hin:∀i,∃y:Nat×Base×List Col,i<n->d1P w k (val i p) y.1 y.2.1 y.2.2:=by
  intro i;by_cases hi:i<n
  .obtain ⟨_,m',β',cols',hc⟩:=(h6 i hi p _ hp).2;exact ⟨⟨m',β',cols'⟩,fun _=>hc⟩
  .exact ⟨⟨0,β,[]⟩,fun q=>absurd q hi⟩
 obtain ⟨F,hF⟩:=Classical.axiomOfChoice hin;have hns:∀i,i<n->((List.range n).map (fun i=>(F i).1)).getD i 0=(F i).1:=fun i hi=>c0s n _ 0 i hi
 refine ⟨n,β,(List.range n).map (fun i=>(F i).1),fun i=>(F i).2.2,fun i=>(F i).2.1,e0Q n val h' ((List.range n).map (fun i=>(F i).1)) 0 ks,h1,by simp,h0c ks 0 (fun i hi k c hc=>by rw [i0s];exact (h6 i hi k c hc).2),?_,h2,?_⟩
 .intro i hi;obtain ⟨a1,a2,_,a4⟩:=hF i hi;rw [hns i hi];exact ⟨a1,a2,a4⟩
 .intro g hg;refine ⟨h5,by rw [h3];simp [Blk.es,e0w],n0B (by simp) (h0c (w:=w) ks 0 (fun i hi k c hc=>by rw [i0s];exact (h6 i hi k c hc).2)),fun i hi=>by simp only [Blk.has] at hi;omega,?_,?_,(fun h=>by cases h),trivial⟩
  .intro i j sv hi hj;simp only [Blk.has] at hi;simp only [Blk.at,i0A] at hj;cases hc:nth ks j with
   |none=>rw [hc] at hj;simp at hj
   |some c=>
    rw [hc] at hj;obtain ⟨k1,k2⟩:=h6 i hi j c hc;cases c with
    |sc c=>
     simp only [g0w,Option.some.injEq,i0s] at hj;subst hj;exact ⟨_,k1,i0y (v:=fun i=>val i j) hi k2⟩
    |sl k'=>
     have ej:=s0M hu hc;subst ej;simp only [g0w,Option.some.injEq] at hj;subst hj;obtain ⟨_,_,a3,_⟩:=hF i hi;refine ⟨_,k1,?_⟩;show Rv g (.sl h' i 0 (((List.range n).map (fun i=>(F i).1)).getD i 0)) _;rw [hns i hi];exact a3 g h' i (hg i hi)
  .intro i j v' hi hj hv';simp only [Blk.has] at hi;rw [h3] at hj;obtain ⟨c,hc⟩:∃c,nth ks j=some c:=⟨ks[j],by rw [a0S];exact d0L hj⟩;obtain ⟨k1,k2⟩:=h6 i hi j c hc;rw [hv'] at k1;cases k1;cases c with
   |sc c=>exact g0D k2
   |sl k'=>exact k2.1
def gS (k:Nat) (l:List Col):List ByteArray:=match nth l k with|some (.strs m)=>m|_=> []
def gI (k:Nat) (l:List Col):List Int:=match nth l k with|some (.ints _ m)=>m|_=> []
def y0K (g:G) (w:World) (p:Nat×Option HB):Prop:=
 (∃b β,p.2=some (.one true b)/\g p.1 0=some β/\BlkAt g β true b w)\/(∃dom f,p.2=some (.fam true dom f)/\∀q,dom q->∃β,g p.1 q=some β/\BlkAt g β true (f q) w)
theorem s0O {g:G} {w:World}:∀(Hp:a0g),(∀p∈Hp,y0K g w p)->Holds g Hp w/\∀h q ro b,Ent Hp h q ro b->ro=true:=by
 intro Hp hall;have key:∀h q ro b,Ent Hp h q ro b->ro=true/\∃β,g h q=some β/\BlkAt g β ro b w:=by
  intro h q ro b he;have:∀(L:a0g),(∀p∈L,y0K g w p)->Ent L h q ro b->ro=true/\∃β,g h q=some β/\BlkAt g β ro b w:=by
   intro L;induction L with
   |nil=>intro _ he;obtain ⟨hb,e,_⟩:=he;simp [a0x] at e
   |cons p L ih=>
    intro hL he;obtain ⟨k,o⟩:=p;rcases a0l.1 he with ⟨rfl,hb',e1,e2,e3⟩|⟨_,he⟩
    .rcases hL (k,o) (by simp) with ⟨b',β,f1,f2,f3⟩|⟨dom,f,f1,f2⟩
     .simp only at f1 f2;rw [f1] at e1;cases e1;simp only [HB.is] at e2;obtain ⟨rfl,rfl⟩:=e2;simp only [HB.ro] at e3;subst e3;exact ⟨rfl,β,f2,f3⟩
     .simp only at f1 f2;rw [f1] at e1;cases e1;simp only [HB.is] at e2;obtain ⟨e2,rfl⟩:=e2;simp only [HB.ro] at e3;subst e3;exact ⟨rfl,f2 q e2⟩
    .exact ih (fun p hp=>hL p (by simp [hp])) he
  exact this Hp hall he
 refine ⟨⟨fun h q ro b he=>(key h q ro b he).2,?_⟩,fun h q ro b he=>(key h q ro b he).1⟩;intro h q h' q' b ro' b' β β' _ he;have:=(key h q false b he).1;cases this
end
end Go.Sy
namespace Go.Sy
open Go.RowKit Go.ChangeShapes Go.WideShapes Go.Deep
mutual
def y0M {H:Type}:DataW H->Option (List Value)
 | .lit l=>some [l.value]
 | .agg ds=>s0P ds
 |_=>none
def s0P {H:Type}:List (DataW H)->Option (List Value)
 | []=>some []
 |d::ds=>match y0M d,s0P ds with
  |some a,some b=>some (a++b)
  |_,_=>none
end
section
variable {H:Type} {enc:TypeId×Value->H} {P:Program} {w:World} {base:Nat} {spare:Nat->Bool} {held:Bool}
theorem n0C (s:ByteArray):(⟨s.data.toList.toArray⟩:ByteArray)=s:=by cases s;simp
theorem k0Z:∀m:Nat,(∀(t:TypeId) (ks:List CK) (fuel:Nat) (cs:List Value) (x:DataW H×List MemPlace),g0C P m t=some ks->DataW.trod enc P w base spare held fuel t cs=some x->y0M x.1=some cs)/\
  (∀(o:Nat) (fs:List Field) (ks:List CK) (cs:List Value) (n:Nat) (xs:List (DataW H×List MemPlace)),e0Y P m o fs=some ks->cs.length=o+ks.length->xs.length=fs.length->(∀(i:Nat) f,fs[i]? =some f->DataW.trod enc P w base spare held n f.type ((cs.drop f.offset).take (P.cellsOf f.type))=xs[i]?)->s0P (xs.map (·.1))=some (cs.drop o)):=by
 intro m;induction m with
 |zero=>exact ⟨fun t ks fuel cs x h=>by simp [g0C] at h,fun o fs ks cs n xs h=>by simp [e0Y] at h⟩
 |succ m ih=>
  refine ⟨?_,?_⟩
  .intro t ks fuel cs x h ht;simp only [g0C] at h;split at h
   .rename_i hu;obtain ⟨b,rfl,rfl⟩:=DataW.trod_bool hu ht;rfl
   .rename_i k hu;obtain ⟨n,rfl,rfl,hw⟩:=DataW.trod_int hu ht;rfl
   .rename_i hu;obtain ⟨s,rfl,rfl,hw⟩:=DataW.trod_string hu ht;simp only [y0M,Lit.value,n0C]
   .rename_i fs hu;split at h
    .rename_i ks' hks;cases hb:Nat.beq (P.cellsOf t) ks'.length with
     |false=>rw [hb] at h;simp at h
     |true=>
      rw [hb] at h;simp only [cond_true,Option.some.injEq] at h;subst h;obtain ⟨xs,n,_,rfl,hlen,hxl,hf⟩:=DataW.trod_struct hu ht;have:=ih.2 0 fs.toList ks' cs n xs hks (by rw [hlen,c0k hb];simp) (by simpa using hxl) (by
       intro i f hf';exact hf i f (by simpa using hf'))
      simpa [y0M] using this
    .cases h
   .cases h
  .intro o fs ks cs n xs h hlen hxl hall;cases fs with
   |nil=>
    simp only [e0Y,Option.some.injEq] at h;subst h;cases xs with
    |nil=>
     simp only [s0c,s0P,Option.some.injEq];exact (e1D (by simp at hlen;omega)).symm
    |cons x xs=>simp at hxl
   |cons f r=>
    cases xs with
    |nil=>simp at hxl
    |cons x xs=>
     simp only [e0Y] at h;cases ho:Nat.beq f.offset o with
     |false=>rw [ho] at h;simp at h
     |true=>
      rw [ho] at h;simp only [cond_true] at h;split at h
      .rename_i a ha;cases hb:Nat.beq (P.cellsOf f.type) a.length with
       |false=>rw [hb] at h;simp at h
       |true=>
        rw [hb] at h;simp only [cond_true] at h;split at h
        .rename_i b hbb;simp only [Option.some.injEq] at h;subst h;have eo:=c0k ho;have ea:=c0k hb;have h0:=hall 0 f rfl;simp only [z0d] at h0;have h1:=ih.1 f.type a n _ x ha h0;have h2:=ih.2 (o+a.length) r b cs n xs hbb (by simp at hlen;omega) (by simpa using hxl) (fun i f' hf'=>by
          have:=hall (i+1) f' (by simpa using hf');simpa using this)
         simp only [k0N,s0P,h1,h2,Option.some.injEq,eo,ea];rw [<-b1Z,List.take_append_drop]
        .cases h
      .cases h
theorem u0Z {m:Nat} {t:TypeId} {ks:List CK} {fuel:Nat} {cs:List Value} {x:DataW H×List MemPlace} (h:g0C P m t=some ks) (ht:DataW.trod enc P w base spare held fuel t cs=some x):y0M x.1=some cs:=(k0Z m).1 t ks fuel cs x h ht
theorem m0B {β:Base} {n:Nat} {ks:List CK} {val:Nat->Nat->Value} (hes:β.es=ks.length) (hcap:n<=β.cap) (hlt:0<β.cap->β.blk<w.heap.size) (cell:∀i,i<n->∀j c,nth ks j=some c->w.cell? (β.addr i j)=some (val i j)/\c0w c (val i j)) (g:G):
  BlkAt g β true (.cols n (a0W (a0Y n val 0 ks))) w:=by
 have hcols:c0b ks (a0Y n val 0 ks) n:=by
  refine d0A n val ks 0 (fun i hi' k c hc=> ?_);rw [i0s];exact (cell i hi' k c hc).2
 obtain ⟨l1,l2⟩:=e0O _ _ _ hcols;obtain ⟨u1,u2⟩:=c0N (a0Y n val 0 ks);refine ⟨hlt,by simp [Blk.es,u1,l1,hes],?_,fun i hi=>by simp only [Blk.has] at hi;omega,?_,?_,(fun h=>by cases h),trivial⟩
 .intro c hc;obtain ⟨j,hj⟩:=c0h hc;rw [u2 j] at hj;cases hn:nth (a0Y n val 0 ks) j with
  |none=>rw [hn] at hj;cases hj
  |some y=>rw [hn] at hj;cases hj;exact l2 y (b0d hn)
 .intro i j sv hi' hj;simp only [Blk.has] at hi';simp only [Blk.at,u2 j,f0p] at hj;cases hc:nth ks j with
  |none=>rw [hc] at hj;simp at hj
  |some c=>
   rw [hc] at hj;simp only [g0w,Option.some.injEq,i0s] at hj;subst hj;obtain ⟨hu,hok⟩:=cell i hi' j c hc;exact ⟨_,hu,i0y (v:=fun i=>val i j) hi' hok⟩
 .intro i j v' hi' hj hv';simp only [Blk.has] at hi';obtain ⟨c,hc⟩:∃c,nth ks j=some c:=⟨ks[j]'(by omega),by rw [a0S];exact d0L (by omega)⟩;obtain ⟨hu,hok⟩:=cell i hi' j c hc;rw [hv'] at hu;cases hu;exact g0D hok
def y0N {H:Type} (ds:List (DataW H)) (i j:Nat):Value:=(((ds[i]?).bind y0M).getD []).getD j undef
theorem d0B {nm:String} {v:Nat} {t e:TypeId} {m fuel n:Nat} {cs:Array Value} {ks:List CK} {ds:List (DataW H)} {p:List MemPlace} {cols:List Col} (hg:P.globalNamed nm=some v) (hv:w.var? P nm=some cs)
  (ht:P.underlying t=some (.array n e)) (hk:g0C P m e=some ks) (hlen:P.cellsOf e=ks.length) (hs:P.cellsOf t=n*ks.length) (h0:0<n*ks.length)
  (h:DataW.trod enc P w base spare held fuel t cs.toList=some (.agg ds,p)) (hc:a0Y n (y0N ds) 0 ks=cols) (g:G):BlkAt g ⟨v,0,ks.length,n⟩ true (.cols n (a0W cols)) w:=by
 obtain ⟨xs,m1,_,hx,hl,hxl,hel⟩:=DataW.trod_array ht h;simp only [Prod.mk.injEq,DataW.agg.injEq] at hx;have hcl:cs.size=n*ks.length:=by simpa [hs] using hl
 have hcell:=World.var?_cell (w:=w) hg hv;have hblk:v<w.heap.size:=by
  have:=hcell 0;rw [d0k (by omega)] at this;unfold World.cell? at this;split at this
  .rename_i hh;exact (i0q.1 hh).1
  .cases this
 have key:∀i,i<n->∃y,xs[i]? =some y/\y0M y.1=some ((cs.toList.drop (i*ks.length)).take ks.length)/\AllOk ks ((cs.toList.drop (i*ks.length)).take ks.length):=by
  intro i hi;have h1:=hel i hi;have h2:xs[i]? =some (xs[i]'(by omega)):=d0L (by omega);rw [h2,hlen] at h1;exact ⟨_,h2,u0Z hk h1,i0x hk h1⟩
 subst hc;refine m0B rfl (d0M _) (fun _=>hblk) ?_ g;intro i hi j c hj;obtain ⟨y,e1,e2,e3⟩:=key i hi;obtain ⟨u,hu,hok⟩:=AllOk.nth ks _ j c e3 hj;have hjl:=b0y hj;have hd:y0N ds i j=u:=by
  unfold y0N;rw [hx.1,f0l,e1];simp only [g0w,Option.bind_some,e2,o0y,List.getD,hu]
 rw [hd];refine ⟨?_,hok⟩;have:Base.addr ⟨v,0,ks.length,n⟩ i j=⟨v,i*ks.length+j,none⟩:=by simp [Base.addr]
 rw [this,hcell];rw [p0N,if_pos hjl,a1k] at hu;simpa using hu
theorem m0C {nm name:String} {v t tid fuel:Nat} {ms:Array (String×TypeId)} {cs:Array Value} {d:DataW H} {p:List MemPlace} (hg:P.globalNamed nm=some v) (hv:w.var? P nm=some cs)
  (ht:P.underlying t=some (.interface ms)) (hrow:∀u,P.typeName? 3 u=some name->u=tid)
  (h:DataW.trod enc P w base spare false fuel t cs.toList=some (.iface name d,p)) (g:G):BlkAt g ⟨v,0,1,1⟩ true (.cells [.iface tid .unk]) w:=by
 obtain ⟨_,u,x,hcs,hn,_⟩:=iface_of_trod ht h;obtain rfl:=hrow u hn;have hcell:=World.var?_cell (w:=w) hg hv;have h0:w.cell? ⟨v,0,none⟩=some (.iface u x):=by
  rw [hcell,<-n0q,hcs];rfl
 have hblk:v<w.heap.size:=by
  unfold World.cell? at h0;split at h0
  .rename_i hh;exact (i0q.1 hh).1
  .cases h0
 refine ⟨fun _=>hblk,rfl,trivial,?_,?_,?_,(fun h=>by cases h),trivial⟩
 .intro i hi;simp only [Blk.has] at hi;subst hi;exact Nat.one_pos
 .intro i j sv hi hj;simp only [Blk.has] at hi;subst hi;cases j with
  |zero=>
   simp only [Blk.at,nth,Option.some.injEq] at hj;subst hj;exact ⟨_,h0,by simp only [Rv];exact ⟨x,rfl,trivial⟩⟩
  |succ j=>simp [Blk.at,nth] at hj
 .intro i j v' hi hj hv';simp only [Blk.has] at hi;subst hi;have:j=0:=by simpa using hj
  subst this;have e:w.cell? ⟨v,0,none⟩=some v':=hv';rw [h0] at e;cases e;rfl
end
end Go.Sy
namespace Go.Sy
open Go.RowKit
section
variable {w:World}
theorem s0Q {g:G} {Hp:a0g} {l:n0a} (hl:∀q,(a0B l q).isSome=true->∃β,g 0 q=some β/\BlkAt g β true (v0k l q) w) (hall:∀p∈Hp,y0K g w p):
  Holds g ((0,some (GB l))::Hp) w/\∀h q ro b,Ent ((0,some (GB l))::Hp) h q ro b->ro=true:=by
 obtain ⟨h1,h2⟩:=s0O (g:=g) (w:=w) Hp hall;have ro:∀h q ro b,Ent ((0,some (GB l))::Hp) h q ro b->ro=true:=by
  intro h q ro b he;rcases a0l.1 he with ⟨rfl,hb,e1,e2,e3⟩|⟨_,he⟩
  .cases e1;exact e3.symm
  .exact h2 h q ro b he
 refine ⟨⟨?_,?_⟩,ro⟩
 .intro h q r b he;rcases a0l.1 he with ⟨rfl,hb,e1,e2,e3⟩|⟨_,he⟩
  .cases e1;obtain ⟨d,rfl⟩:=e2;simp only [GB,HB.ro] at e3;subst e3;exact hl q d
  .exact h1.blk h q r b he
 .intro h q h' q' b ro' b' β β' _ he;have:=ro h q false b he;cases this
end
end Go.Sy
