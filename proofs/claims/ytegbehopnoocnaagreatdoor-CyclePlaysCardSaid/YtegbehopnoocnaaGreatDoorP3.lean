/- Several texts in one: YPlain YCalls YSort YKeys YNil YGrp YIdx YLaw YLaid YArg YMem YFam YRen YGath YSrc YGb YSortK YLaw2 YLaid2. -/
import Derived.Test.YtegbehopnoocnaaGreatDoorP2
import Derived.Sort.KeysCollected
import Derived.Sort.Grow
import Derived.Shelf.SlIter.Nil
import Derived.Shelf.SortM.Plain
import Derived.Shelf.SortM.SortNone
import Derived.Deep.Slices
import Derived.OpenShut
import Derived.ChangeOld
import Derived.ChangeBears2
import Derived.MakeChecks
import Derived.LaidLaws
import Derived.Shelf.SlSortCmp.WholeK
set_option linter.unusedVariables false
set_option linter.unusedSimpArgs false
namespace Go.Sy
abbrev j1r:=@List.eq_nil_of_length_eq_zero
abbrev k1G:=@Nat.not_lt_zero
abbrev k1J:=@List.mem_iff_getElem
abbrev k1K:=@List.mem_cons_of_mem
abbrev k1M:=@List.ext_getElem?
abbrev k1P:=@List.nodup_cons
abbrev k1S:=@List.perm_ext_iff_of_nodup
abbrev k1b:=@List.map_map
abbrev k1k:=@List.drop_eq_nil_of_le
abbrev k1o:=@List.take_append_drop
abbrev k1x:=@List.Perm.eq_of_pairwise
abbrev l1E:=@List.pairwise_mergeSort
abbrev l1F:=@Nat.add_sub_cancel_left
abbrev l1L:=@Nat.le_succ
abbrev l1Z:=@List.mergeSort_perm
abbrev l1a:=@List.mem_map_of_mem
abbrev l1f:=@List.mem_cons_self
abbrev l1p:=@List.getElem_map
abbrev m1D:=@List.map_congr_left
end Go.Sy
namespace Go.Sy
open Go.RowKit
theorem f0j {P:Program} {f:FuncId} {fn:Func} (h:P.funcs[f]? =some fn) (hb:fn.body.isSome=true) (hn:(fn.name=="runtime.NumGoroutine")=false):e0Q P f:=by
 obtain ⟨c,hc⟩:=j1t.1 hb;exact ⟨fn,c,h,hc,hn⟩
theorem h0g:∀(n:Nat) (sn:List Nat),sn.Nodup->(∀i∈sn,i<n)->sn.length<=n
 |0,sn,_,h=>by cases sn with|nil=>simp|cons x r=>exact absurd (h x (by simp)) (by omega)
 |n+1,sn,hd,h=>by
  by_cases hm:n∈sn
  .have:=h0g n (sn.erase n) (hd.erase n) (fun i hi=>by
    have h1:=h i (List.mem_of_mem_erase hi);have h2:i≠n:=fun e=>by subst e;exact (hd.not_mem_erase) hi
    omega)
   rw [List.length_erase_of_mem hm] at this;omega
  .have:=h0g n sn hd (fun i hi=>by
    have h1:=h i hi;have h2:i≠n:=fun e=>by subst e;exact hm hi
    omega)
   omega
theorem d0b {n i:Nat} {sn:List Nat} (hd:sn.Nodup) (h:∀i∈sn,i<n) (hi:i<n) (hn:¬i∈sn):sn.length<n:=by
 have:=h0g n (i::sn) (k1P.2 ⟨hn,hd⟩) (fun x hx=>by rcases a1q.1 hx with rfl|hx;exact hi;exact h x hx);simp only [d1G] at this;omega
theorem u0P {n:Nat} {sn:List Nat} (hd:sn.Nodup) (hl:∀i∈sn,i<n) (ha:∀i,i<n->i∈sn):sn.Perm (List.range n):=by
 refine (k1S hd List.nodup_range).2 fun i=> ?_
 rw [k1h];exact ⟨hl i,ha i⟩
theorem l0j {α:Type} (l:List α) (d:α):(List.range l.length).map (fun i=>l.getD i d)=l:=by
 refine k1T (by simp) ?_;intro i h1 h2;simp [List.getD,h2]
def g0q:Code->List Code
 | .seq a b=>g0q a++g0q b
 | .cond _ a b=>g0q a++g0q b
 | .block _ c=>g0q c
 | .loop c=>c::g0q c
 |_=> []
def lpc (f:Func) (k:Nat):Code:=match f.body with|some c=>(g0q c).getD k .skip|none=> .skip
def lpK {α:Type} (n0:Nat) (st:α->VS) (inv:α->Prop) (μ:α->Nat) (K:Exit->VS->Prop) (x:α):Exit->VS->Prop:=fun e v'=>match e with| .normal=>∃y l u,inv y/\μ y<μ x/\upK u v' (fun v=>Weak n0 l v (st y))|e=>K e v'
theorem a0f {α:Type} {n0:Nat} {body:VS->(Exit->VS->Prop)->Prop} {vs:VS} {K:Exit->VS->Prop} (st:α->VS) (inv:α->Prop) (μ:α->Nat) (x0:α) (l0:List Nat) (u0:List Up) (hw:upK u0 vs (fun v=>Weak n0 l0 v (st x0))) (hi:inv x0)
  (hr:∀x,inv x->body (st x) (lpK n0 st inv μ K x)):a0r n0 body vs K:=⟨α,st,inv,μ,x0,l0,u0,hw,hi,hr⟩
end Go.Sy
namespace Go.Sy
open Go.RowKit
theorem u0Q {P:Program} {f:FuncId} {fn:Func} (h:P.funcs[f]? =some fn) (hb:fn.body.isSome=true) (hn:(fn.name=="runtime.NumGoroutine")=false):e0Q P f:=by
 obtain ⟨c,hc⟩:=j1t.1 hb;exact ⟨fn,c,h,hc,hn⟩
theorem n0p {P:Program} {f:FuncId} {args:List SV} {vals:List Value} {r:SV} {v:Value} (hbd:e0Q P f) (hv:∀g vs,Rvs g args vs->vs=vals) (hr:∀g,Rv g r v) (hc:∀w,Calls P f vals.toArray w (fun e w'=>e= .returned v/\Below w.heap.size w w')):b0m P f args r:=by
 refine Or.inl ⟨hbd,fun g w vs hg hu hH hvs=> ?_⟩;rw [hv g vs hvs];refine (hc w).mono ?_;rintro e w' ⟨rfl,hb⟩;refine ⟨v,rfl,r,[],1,g,⟨rfl,rfl,rfl⟩,n0q _,hu,fun _ _ _=>rfl,hr g,⟨?_,?_⟩,a0b,⟨hb.os,hb.tape,hb.output,hb.size,fun k hk _=>hb.block k hk⟩,?_⟩
 .intro h q ro b he;obtain ⟨hb,e,_⟩:=he;simp [a0s] at e
 .intro h q h' q' b ro' b' β β' _ he;obtain ⟨hb,e,_⟩:=he;simp [a0s] at e
 .intro h q b β he;obtain ⟨hb,e,_⟩:=he;simp [a0s] at e
end Go.Sy
namespace Go.Sy
open Go.RowKit
section
variable {P:Program}
theorem h0h {β:Base} (h:β.es=1) (i:Nat):β.addr i 0=⟨β.blk,β.off+i,none⟩:=by unfold Base.addr;rw [h];simp
def d1M {α:Type} [Inhabited α] (P:Program) (f:FuncId) (enc:α->Value) (srt:List α->List α):Prop:=
 (∀(blk off cap:Nat) (ss:List α) (W:World),Go.Sort.Holds enc W blk off ss.toArray->blk<W.heap.size->ss.length<4611686018427387904->
  Calls P f #[.slice (some ⟨blk,off,none⟩) ss.length cap] W fun e w'=>e= .returned (.tuple #[])/\∃k os,w'=Go.Sort.grow (Go.Sort.putRow enc (Go.Sort.ahead W k) blk off (srt ss).toArray) os)/\
 (∀(p:Option Addr) (cap:Nat) (W:World),Calls P f #[.slice p 0 cap] W fun e w'=>e= .returned (.tuple #[])/\w'=W)
theorem w0B {α:Type} [Inhabited α] {f:FuncId} {enc:α->Value} {srt:List α->List α} (mk:List α->Col) (hs:d1M P f enc srt) (hbd:e0Q P f) (hl:∀l,(mk l).len=l.length) (hv:∀l i,i<l.length->(mk l).val i=enc (l.toArray[i]!)) (h1:∀x,(enc x).oneCell'=true) (hp:∀l,(srt l).length=l.length)
  (n:Nat) (l:List α) (hn:n<4611686018427387904):FC P 2 f [.sl 1 0 0 n] [(1,some (.one false (.cols n [.sc (mk l)])))] (a0h (.tup []) [(1,some (.one false (.cols n [.sc (mk (srt l))])))] 2):=by
 refine Or.inl ⟨hbd,fun g w vals hg hu hH hvs=> ?_⟩;obtain ⟨v,vs',rfl,hv0,hv1⟩:=hvs;simp only [Rvs] at hv1;subst hv1;obtain ⟨a,c,rfl,hnc,hc⟩:=rsv hv0;have hE:Ent [(1,some (HB.one false (Blk.cols n [.sc (mk l)])))] 1 0 false (Blk.cols n [.sc (mk l)]):=⟨_,rfl,⟨rfl,rfl⟩,rfl⟩;obtain ⟨β,hgβ,hB⟩:=hH.blk 1 0 false _ hE;have hlen:l.length=n:=by rw [<-hl];exact hB.len _ (a1A.2 rfl)
 have hes:β.es=1:=hB.es;have only:∀{b:Blk} {h q:Nat} {ro:Bool} {b':Blk},Ent [(1,some (HB.one false b))] h q ro b'->h=1/\q=0/\ro=false/\b'=b:=by
  rintro b h q ro b' ⟨hb,e,hi,hr⟩;rw [a0M] at e;split at e
  .cases e;rename_i e1;exact ⟨e1.symm,hi.1,hr.symm,hi.2⟩
  .cases e
 by_cases h0:n=0
 .subst h0;refine (hs.2 a c w).mono ?_;rintro e w' ⟨rfl,rfl⟩;have hnil:l= []:=j1r hlen;have hsn:srt l=l:=by rw [hnil];exact j1r (by rw [hp];rfl)
  rw [hsn];refine ⟨_,rfl,_,_,_,g,⟨rfl,rfl,rfl⟩,n0q _,hu,fun _ _ _=>rfl,?_,hH,a0d a0b,Fr.refl _ _,?_⟩
  .simp only [Rv];exact ⟨_,rfl,by simp [Rvs]⟩
  .intro h q b β' he hg' hc';exact .inl ⟨h,q,b,β',he,hg',hc',rfl⟩
 .obtain hc|⟨β',hg',ha,hcap⟩:=hc
  .omega
  .rw [hgβ] at hg';cases hg';have hcp:0<β.cap:=by omega
   subst ha;have hHo:Go.Sort.Holds enc w β.blk β.off l.toArray:=by
    intro j hj;have hj':j<n:=by rw [<-hlen];simpa using hj
    obtain ⟨x,hx,hr⟩:=hB.cell j 0 _ hj' rfl;rw [h0h hes] at hx;refine ⟨?_,?_⟩
    .rw [hx];have:=hv l j (by omega);rw [<-this];have e1:(BCol.sc (mk l)).at j=(mk l).at j:=rfl;rw [e1] at hr;have h2:=Col.at_ok g (mk l) j;revert hr h2;cases mk l<;>simp [Col.at,Col.val,Rv]
    .have:=(hB.rw rfl j 0 (by have:=hB.cap j hj';omega) (by omega)).1
     rwa [h0h hes] at this
   have hlt:=hB.lt hcp;have hca:=hs.1 β.blk β.off c l w hHo hlt (by omega);rw [hlen] at hca;have ea:β.addr 0 0=⟨β.blk,β.off,none⟩:=by rw [h0h hes];rfl
   rw [ea];refine hca.mono ?_;rintro e w' ⟨rfl,k,os,rfl⟩;have hss:(srt l).toArray.size=n:=by simp [hp,hlen]
   have cellP:∀j,j<n->(Go.Sort.grow (Go.Sort.putRow enc (Go.Sort.ahead w k) β.blk β.off (srt l).toArray) os).cell? ⟨β.blk,β.off+j,none⟩=some (enc ((srt l).toArray[j]!)):=by
    intro j hj;rw [Go.Sort.cell?_grow _ _ _ (by simpa using hlt)];exact Go.Sort.cell?_putRow enc (Go.Sort.ahead w k) β.blk β.off l.toArray (srt l).toArray hHo (by simp [hp]) j (by omega)
   have cellO:∀j,n<=j->(Go.Sort.grow (Go.Sort.putRow enc (Go.Sort.ahead w k) β.blk β.off (srt l).toArray) os).cell? ⟨β.blk,β.off+j,none⟩=w.cell? ⟨β.blk,β.off+j,none⟩:=by
    intro j hj;rw [Go.Sort.cell?_grow _ _ _ (by simpa using hlt)];rw [Go.Sort.cell?_putRow_other _ _ _ _ _ _ (.inr (.inr (by rw [hss];show β.off+n<=β.off+j;omega)))];rfl
   refine ⟨_,rfl,_,_,_,g,⟨rfl,rfl,rfl⟩,n0q _,hu,fun _ _ _=>rfl,?_,⟨?_,?_⟩,a0d a0b,⟨rfl,rfl,rfl,by simp,?_⟩,?_⟩
   .simp only [Rv];exact ⟨_,rfl,by simp [Rvs]⟩
   .intro h q ro b he;obtain ⟨rfl,rfl,rfl,rfl⟩:=only he;refine ⟨β,hgβ,?_⟩;refine ⟨fun _=>by simp;omega,hes,?_,hB.cap,?_,?_,?_,trivial⟩
    .intro c' hc';rw [a1A] at hc';subst hc';show (mk (srt l)).len=n;rw [hl,hp,hlen]
    .intro i j sv hi hj;have hi':i<n:=hi;cases j with
     |succ j=>simp [Blk.at,nth] at hj
     |zero=>
      simp only [Blk.at,nth,Option.some.injEq] at hj;subst hj;rw [h0h hes];refine ⟨_,cellP i hi',?_⟩;rw [<-hv (srt l) i (by rw [hp];omega)];exact Col.at_ok g _ i
    .intro i j v hi hj hx;have hi':i<n:=hi;obtain rfl:j=0:=by omega
     rw [h0h hes,cellP i hi'] at hx;cases hx;exact h1 _
    .intro _ i j hi hj;obtain rfl:j=0:=by omega
     have hx:=hB.rw rfl i 0 hi (by omega);rw [h0h hes] at hx⊢;refine ⟨?_,?_⟩
     .rw [Go.Sort.frozen?_grow _ _ _ (by simpa using hlt),Go.Sort.frozen?_putRow];exact hx.1
     .by_cases hi2:i<n
      .exact ⟨_,cellP i hi2⟩
      .rw [cellO i (by omega)];exact hx.2
   .intro h q h' q' b ro' b' β1 β2 hne he he' _ _ _ _;obtain ⟨rfl,rfl,_,_⟩:=only he;obtain ⟨rfl,rfl,_,_⟩:=only he';exact absurd ⟨rfl,rfl⟩ hne
   .intro x hx hW;have hne:x≠β.blk:=fun e=>hW ⟨1,0,_,β,hE,hgβ,hcp,e.symm⟩
    rw [Go.Sort.heap_grow_old _ _ (by simpa using hx)];simp only [Go.Sort.putRow,Go.Sort.mapBlock,j1V,if_neg (Ne.symm hne),Go.Sort.heap_ahead]
   .intro h q b β' he hg' hc';obtain ⟨rfl,rfl,_,_⟩:=only he;rw [hgβ] at hg';cases hg';exact .inl ⟨1,0,_,β,hE,hgβ,hc',rfl⟩
def toB (b:List UInt8):ByteArray:=⟨b.toArray⟩
def ofB (s:ByteArray):List UInt8:=s.data.toList
theorem w0C (s:ByteArray):toB (ofB s)=s:=rfl
def sortS (l:List ByteArray):List ByteArray:=((l.map ofB).mergeSort (fun x y=>decide (x<=y))).map toB
def sortI (l:List Int):List Int:=l.mergeSort (fun x y=>decide (x<=y))
theorem a0S (l:List ByteArray):(sortS l).length=l.length:=by simp [sortS]
theorem f0k (l:List Int):(sortI l).length=l.length:=by simp [sortI]
theorem k0l (l:List ByteArray):(l.map ofB).map toB=l:=by rw [k1b];exact List.map_id l
theorem b0L (l:List ByteArray):(sortS l).Perm l:=by
 have:=(l1Z (l.map ofB) (fun x y=>decide (x<=y))).map toB
 rwa [k0l] at this
theorem a1w {f:FuncId} (hs:d1M P f Go.Proofs.encStr (fun ss:List (List UInt8)=>ss.mergeSort fun x y=>decide (x<=y))) (hbd:e0Q P f) (n:Nat) (l:List ByteArray) (hn:n<4611686018427387904):
  FC P 2 f [.sl 1 0 0 n] [(1,some (.one false (.cols n [.sc (.strs l)])))] (a0h (.tup []) [(1,some (.one false (.cols n [.sc (.strs (sortS l))])))] 2):=by
 have h:=w0B (fun ss=> .strs (ss.map toB)) hs hbd (by intro l;simp [Col.len]) (by
  intro l i hi;simp only [Col.val,Go.Proofs.encStr];rw [getElem!_pos _ _ (by simpa using hi)];simp [List.getD,hi,toB]) (fun x=>rfl) (by intro l;simp) n (l.map ofB) hn
 rw [k0l] at h;exact h
theorem a1x {f:FuncId} (hs:d1M P f (Value.int .i64) (fun ss:List Int=>ss.mergeSort fun x y=>decide (x<=y))) (hbd:e0Q P f) (n:Nat) (l:List Int) (hn:n<4611686018427387904):
  FC P 2 f [.sl 1 0 0 n] [(1,some (.one false (.cols n [.sc (.ints .i64 l)])))] (a0h (.tup []) [(1,some (.one false (.cols n [.sc (.ints .i64 (sortI l))])))] 2):=
 w0B (fun ss=> .ints .i64 ss) hs hbd (by intro l;rfl) (by
  intro l i hi;simp only [Col.val];rw [getElem!_pos _ _ (by simpa using hi)];simp [List.getD,hi]) (fun x=>rfl) (by intro l;simp) n l hn
theorem u0R {k:TypeId} (hk:P.underlying k=some .string) {g:G} {w:World} {b n ck:Nat} {ea:Bool} {ks:List ByteArray} {vs:List BCol} {bs:List Nat} {es:Array MapEntry} (hb:w.heap[b]? =some (.map es ck)) (hm:MapOk g false ea n [.strs ks] vs bs ck es) (hn:n<=maxLen) (hs:∀s∈ks,s.size<=maxLen) (hnd:ks.Nodup):
  ∃D:DataW Unit,w.ownsMap P k (fun _=>some (.nil,[])) b n D/\(strKeys D).Perm (ks.map ofB)/\Maps.size D=n:=by
 have hkl:ks.length=n:=hm.kl _ (a1A.2 rfl);have hky:es.toList.map (·.key)=ks.map Value.string:=by
  refine k1T (by simp [hm.size,hkl]) ?_;intro i h1 h2;have hi:i<es.size:=by simpa using h1
  have:=(hm.row i es[i] (w0y hi)).2.1;have hi2:i<ks.length:=by rw [hkl,<-hm.size];exact hi
  simp only [l1p,l1V,this,v0B,Col.val];simp [List.getD,hi2]
 have hrd:∀x∈es.toList,∃s:ByteArray,x.key= .string s/\WideElems.rd P k (fun _=>some (DataW.nil,[])) x=some (Lit.string s.data.toList,(DataW.nil:DataW Unit)):=by
  intro x hx;have:x.key∈ks.map Value.string:=by rw [<-hky];exact l1a hx
  obtain ⟨s,hs1,hs2⟩:=h1T.1 this;refine ⟨s,hs2.symm,?_⟩;unfold WideElems.rd;rw [<-hs2];simp [keyOf,hk,mapKey,hs s hs1]
 refine ⟨_,⟨es,ck,hb,⟨by rw [hm.size];exact hn,⟨?_,?_,?_⟩,fun x hx=> ?_⟩,by rw [hm.size];exact n0q _,rfl⟩,?_,?_⟩
 .intro x hx;obtain ⟨i,hi,rfl⟩:=k1J.1 hx;have hi':i<es.size:=by simpa using hi
  have:=(hm.row i es[i] (w0y hi')).1;simp only [l1V];rw [this];refine hm.lt _ ?_;have:i<bs.length:=by rw [hm.bl,<-hm.size];exact hi'
  simp [List.getD,this]
 .have:es.toList.map (·.born)=bs:=by
   refine k1T (by simp [hm.size,hm.bl]) ?_;intro i h1 h2;have hi:i<es.size:=by simpa using h1
   have:=(hm.row i es[i] (w0y hi)).1;simp only [l1p,l1V,this];simp [List.getD,h2]
  rw [this];exact hm.nd
 .rw [hky];exact List.Pairwise.map _ (fun a b h e=>h (by injection e)) hnd
 .obtain ⟨s,_,h⟩:=hrd x hx;exact ⟨_,h⟩
 .show ((((es.toList.map (WideElems.rg P k _)).foldr DataW.insert []).map fun p=>strOf p.1)).Perm _;refine ((WideShapes.sorted_perm _).map _).trans (List.Perm.of_eq ?_);rw [k1b];have:(fun x:MapEntry=>strOf (WideElems.rg P k (fun _=>some (DataW.nil,[])) x:Lit×DataW Unit).1)=fun x=>strOf (WideElems.rg P k (fun _=>some ((DataW.nil:DataW Unit),[])) x).1:=rfl
  refine (m1D (g:=fun x:MapEntry=>match x.key with| .string s=>ofB s|_=> []) ?_).trans ?_
  .intro x hx;obtain ⟨s,hk',h⟩:=hrd x hx;show strOf (WideElems.rg P k _ x).1=_;unfold WideElems.rg;rw [h,hk'];rfl
  .have e1:es.toList.map (fun x:MapEntry=>match x.key with| .string s=>ofB s|_=> [])=(es.toList.map (·.key)).map (fun v=>match v with| .string s=>ofB s|_=> []):=by rw [k1b];rfl
   rw [e1,hky,k1b];rfl
 .show List.length _=n;rw [(WideShapes.sorted_perm _).length_eq];simp [hm.size]
end
end Go.Sy
namespace Go.Sy
open Go.RowKit Go.Maps Go.Sort Go.Shelf Go.Proofs
section
variable {P:Program} {ρ:Ren}
set_option maxRecDepth 100000 in
set_option maxHeartbeats 1000000 in
theorem a1y (L:SlLaysZ.n10 P ρ) {H:Type} (F:Fence) (n:Nat) (h10:F.fn (ρ.f 10)) (hro:F.round=none) (hn:1<=n) (l Bm o b nn:Nat) (D0:DataW H) {R:Value->Option (DataW H×List MemPlace)} (J:List (List UInt8)->World->Prop)
  (hY:∀pre x W,J pre W->pre.length<Maps.size D0->YieldAt F (n-1) P l #[encStr x] W fun e W'=>e= .returned (.bool true)/\J (pre++ [x]) W'/\KeepsWalks W W')
  (W:World) (hJ:AbidesFrom W.heap.size J) (hm:W.cell? ⟨Bm,o,none⟩=some (.map (some b))) (hown:W.ownsMap P (ρ.t 26) R b nn D0) (h0:J [] W):
  CallsIn F n P (ρ.f 10) #[.func (.yield l) #[] #[],.pointer (some ⟨Bm,o,none⟩)] W fun e W'=>(∃v,e= .returned v)/\∃ss:List (List UInt8),ss.Perm (strKeys D0)/\J ss W':=by
 have mixed:=L.mixed;have t0:=L.t0;have a0:=L.a0;have z0:=L.z0;have v0:=L.v0;have t4:=L.t4;have a4:=L.a4;have z4:=L.z4;have v4:=L.v4;have t23:=L.t23;have a23:=L.a23;have z23:=L.z23;have v23:=L.v23;have t26:=L.t26;have a26:=L.a26;have z26:=L.z26;have v26:=L.v26;have t33:=L.t33;have a33:=L.a33;have z33:=L.z33;have v33:=L.v33;have u0:=run_underlying L.t0;have u4:=run_underlying L.t4;have u23:=run_underlying L.t23;have u26:=run_underlying L.t26;have u33:=run_underlying L.t33;obtain ⟨_,_,FG⟩:=L.f10;refine callsIn_of_wp FG rfl h10 ?_ hro;simp only [SlBodyZ.n10_ntmps ρ,List.size_toArray,d1G,j1p,Nat.reduceAdd,Nat.reduceSub,Array.replicate_succ,Array.replicate_zero,List.push_toArray,List.append_toArray,k1F,g1u]
 gi_wp2_with (first
  |(gi_at_range;refine wpListIn_range_own _ rfl _ (ρ.t 23) rfl (ρ.t 26) (ρ.t 3) (string_keyed L.t26) L.t23 _ b nn _ rfl hown ?_;intro w0 hrg0 hg0 hs0)
  |gi_in)
 go_frame
 gi_loopw [3] (fun _ wr=>∃(left:Lit->Bool) (cnt:Nat) (ss:List (List UInt8)),wr.ranges P (ρ.t 26) R b W.heap.size nn D0 left cnt/\ss.length+cnt<=Maps.size D0/\Collected D0 left ss/\J ss wr)
  (fun _ wr=>wr.rangeLeft b W.heap.size)
 case atStart=>
  exact ⟨_,_,[],hrg0,by simp,Collected.start D0,hJ [] W w0 none h0 hg0 (fun r e=>by cases e)⟩
 case round=>
  obtain ⟨left,cnt,ss,hrg,hcs,hC,hJs⟩:=hrel
  gi_wp2_with (first
   |(gi_at_next;refine wpListIn_next_ranges _ rfl _ rfl (ρ.t 26) (string_keyed L.t26) R encStr id (fun key kl hk=>by obtain ⟨x,hx,_⟩:=Maps.keyOf_str L.t26 hk;exact ⟨x,hx⟩) (fun v _ _=>⟨v,rfl⟩) b W.heap.size nn _ _ _ rfl hrg ?_ ?_)
   |gi_in)
  .intro hc0 hl0
   gi_wp2
   go_end0
   exact ⟨⟨_,rfl⟩,ss,hC.perm hown (string_keyed L.t26) L.t26 hl0,hJs⟩
  .intro x c kl yd yp w2 cnt2 hkey hlk hv hat hrg2 hlt hg2 hs2 hen;obtain ⟨x',ex,rfl,_⟩:=Maps.keyOf_str L.t26 hkey;obtain rfl:x=x':=encStr_inj ex;have hJ2:J ss w2:=hJ ss wr w2 (some W.heap.size) hJs hg2 (fun r e=>by cases e;exact ⟨n0q _,hrg.iter_walk⟩);obtain ⟨fn,tmps,assign,body,hy,hR⟩:=hY ss x w2 hJ2 (by omega);clear hs2
   gi_wp2
   refine hR.mono ?_;rintro e W3 ⟨rfl,hJ3,hk3⟩
   gi_wp2
   have hrg3:=hrg2.of_walks hk3
   go_roundw
   case rel=>exact ⟨_,cnt2,ss++ [x],hrg3,by simp;omega,hC.step hlk hat,hJ3⟩
   case measure=>rw [hrg3.left_eq,hrg.left_eq];exact hlt
theorem r0a (L:SlLaysZ.n10 P ρ) {H:Type} (F:Fence) (n:Nat) (h10:F.fn (ρ.f 10)) (hro:F.round=none) (hn:1<=n) (Bm o b nn:Nat) (D0:DataW H) {R:Value->Option (DataW H×List MemPlace)} (w:World) (hBm:Bm<w.heap.size)
  (hm:w.cell? ⟨Bm,o,none⟩=some (.map (some b))) (hown:w.ownsMap P (ρ.t 26) R b nn D0):
  SeqGives F n P (ρ.f 10) #[.pointer (some ⟨Bm,o,none⟩)] encStr (fun ss=>ss.Perm (strKeys D0)) (Maps.size D0) w:=fun l J W hW hJ hY h0=>by
 have hown':W.ownsMap P (ρ.t 26) R b nn D0:=by
  have hbl:=hown.lt;obtain ⟨es,clock,hb,Ft,hs,hD⟩:=hown;exact ⟨es,clock,(hW.block b hbl).trans hb,Ft,hs,hD⟩
 exact a1y { L with} F n h10 hro hn l Bm o b nn D0 J hY W hJ ((hW.cell (p:=⟨Bm,o,none⟩) hBm).trans hm) hown' h0
theorem w0D {ρ':Ren} {f it:FuncId} {kt:TypeId} (hf:ρ'.f 6=f) (hi:ρ.f 10=it) (hkt:ρ.t 26=kt) (Lk:SlLaysZ.n10 P ρ) (Ls:SlLaysZ.n6 P ρ') (hsrt:∀m,AnyZ.SortsIn P ρ' Fence.wide m) (hbd:e0Q P f) (e9:∀args w,(callFunc (ρ'.f 9) args).run P w= .ok (.enter (ρ'.f 9) args) w) (eit:∀args w,(callFunc it args).run P w= .ok (.enter it args) w) (hk:P.underlying kt=some .string)
  {ea:Bool} {n:Nat} {ks:List ByteArray} {vs:List BCol} {bs:List Nat} {ck:Nat} (hn:n<=100000) (hz:∀s∈ks,s.size<=maxLen) (hnd:ks.Nodup):
  FC P 3 f [.fn it [.ptr 2 0 0 0]] [(1,some (.one true (.obj (.map false ea n [.strs ks] vs bs ck)))),(2,some (.one true (.cells [.map 1 0])))] (a0h (.sl 3 0 0 n) [(3,some (.one false (.cols n [.sc (.strs (sortS ks))])))] 4):=by
 subst hf hi hkt;refine Or.inl ⟨hbd,fun g w vals hg hu hH hvs=> ?_⟩;obtain ⟨v,vs',rfl,hv0,hv1⟩:=hvs;simp only [Rvs] at hv1;subst hv1;simp only [Rv] at hv0;obtain ⟨cap,rfl,hcap⟩:=hv0;obtain ⟨pv,vs2,hp1,hp2,hp3⟩:=hcap;simp only [Rvs] at hp3;subst hp3;obtain ⟨β2,hg2,rfl⟩:=rpv hp2;have hcap':cap= #[.pointer (some (β2.addr 0 0))]:=by rw [<-j1N,hp1]
 subst hcap';have hE1:Ent [(1,some (HB.one true (Blk.obj (.map false ea n [.strs ks] vs bs ck)))),(2,some (HB.one true (Blk.cells [.map 1 0])))] 1 0 true (Blk.obj (.map false ea n [.strs ks] vs bs ck)):=⟨_,rfl,⟨rfl,rfl⟩,rfl⟩;have hE2:Ent [(1,some (HB.one true (Blk.obj (.map false ea n [.strs ks] vs bs ck)))),(2,some (HB.one true (Blk.cells [.map 1 0])))] 2 0 true (Blk.cells [.map 1 0]):=⟨_,rfl,⟨rfl,rfl⟩,rfl⟩;obtain ⟨β1,hg1,hB1⟩:=hH.blk 1 0 true _ hE1;obtain ⟨β2',hg2',hB2⟩:=hH.blk 2 0 true _ hE2;rw [hg2] at hg2';cases hg2';obtain ⟨_,_,es,hb1,hm1⟩:=hB1.obj;obtain ⟨x,hx,hrx⟩:=hB2.cell 0 0 _ rfl rfl;simp only [Rv] at hrx;obtain ⟨β1',hg1',rfl⟩:=hrx;rw [hg1] at hg1';cases hg1';have hc2:0<β2.cap:=hB2.cap 0 rfl;have hlt2:=hB2.lt hc2;have hml:n<=maxLen:=g1x hn (by decide);obtain ⟨D,hown,hperm,hsz⟩:=u0R hk hb1 hm1 hml hz hnd;have hseq:=r0a Lk Fence.wide 2 trivial rfl (by omega) β2.blk (β2.off+0*β2.es+0) β1.blk n D w hlt2 hx hown;rw [hsz] at hseq;have hca:=AnyZ.sorted_in Ls Fence.wide 5 trivial trivial trivial trivial rfl (by omega) (hsrt _) e9 _ _ trivial eit _ n hml (by omega) w hseq;refine (callsIn_wide.1 hca).mono ?_;rintro e w' ⟨v,ss,rfl,hS,hrow,hnil,hbel⟩;have hpm:ss.Perm (ks.map ofB):=hS.trans hperm;have hkl:ks.length=n:=hm1.kl _ (a1A.2 rfl);have hsl:ss.length=n:=by rw [hpm.length_eq,j1G,hkl]
 have hso:(ss.mergeSort (fun x y=>decide (x<=y)))=((ks.map ofB).mergeSort (fun x y=>decide (x<=y))):=mergeSort_of_perm hpm;rw [hso,hsl] at hrow;have hs':((ks.map ofB).mergeSort (fun x y=>decide (x<=y))).map encStr=(sortS ks).map Value.string:=by
  unfold sortS;rw [k1b];rfl
 rw [hs'] at hrow;obtain ⟨hl0,hr⟩:=hrow;have frm:Fr (l0z g [(1,some (HB.one true (Blk.obj (.map false ea n [.strs ks] vs bs ck)))),(2,some (HB.one true (Blk.cells [.map 1 0])))]) w w':=⟨hbel.os,hbel.tape,hbel.output,hbel.size,fun k hk _=>hbel.block k hk⟩;have only:∀{b:Blk} {h q:Nat} {ro:Bool} {b':Blk},Ent [(3,some (HB.one false b))] h q ro b'->h=3/\q=0/\ro=false/\b'=b:=by
  rintro b h q ro b' ⟨hb,e,hi,hr⟩;rw [a0M] at e;split at e
  .cases e;rename_i e1;exact ⟨e1.symm,hi.1,hr.symm,hi.2⟩
  .cases e
 obtain ⟨β,hβ,hrv,hB,horg⟩:∃β:Base,β.off=0/\Rv (g.add 3 β) (.sl 3 0 0 n) v/\BlkAt (g.add 3 β) β false (Blk.cols n [.sc (.strs (sortS ks))]) w'/\(0<β.cap->w.heap.size<=β.blk):=by
  rcases hr with ⟨rfl,hz0⟩|⟨gb,cp,cur,rfl,hbase,hgb,r1,r2,r3,r4⟩
  .subst hz0;refine ⟨⟨0,0,1,0⟩,rfl,?_,?_,fun h=>absurd h (by decide)⟩
   .simp only [Rv];exact ⟨none,0,rfl,n0q _,.inl rfl⟩
   .refine ⟨fun h=>absurd h (by decide),rfl,?_,fun i hi=>absurd hi (k1G _),fun i j sv hi=>absurd hi (k1G _),fun i j v hi=>absurd hi (k1G _),fun _ i j hi=>absurd hi (k1G _),trivial⟩;intro c hc;rw [a1A] at hc;subst hc;show (sortS ks).length=0;rw [a0S,hkl]
  .have hcs:cur.size=cp:=by rw [r3];simp
   have hcell:∀i,i<n->cur[i]? =some (Value.string ((sortS ks).getD i ⟨#[]⟩)):=by
    intro i hi;have h1:(cur.toList.take (n*1))[i]? =((sortS ks).map Value.string)[i]?:=by rw [r4]
    rw [j1U,if_pos (by omega)] at h1;rw [<-j1J,h1,a1u];have:i<(sortS ks).length:=by rw [a0S,hkl];exact hi
    simp [List.getD,this]
   have hglt:gb<w'.heap.size:=(h1X.1 hgb).1;refine ⟨⟨gb,0,1,cp⟩,rfl,?_,?_,fun _=>hbase⟩
   .simp only [Rv];refine ⟨_,_,rfl,r1,.inr ⟨⟨gb,0,1,cp⟩,by simp [G.add],rfl,by simp⟩⟩
   .refine ⟨fun _=>hglt,rfl,?_,fun i hi=>k1V hi r1,?_,?_,?_,trivial⟩
    .intro c hc;rw [a1A] at hc;subst hc;show (sortS ks).length=n;rw [a0S,hkl]
    .intro i j sv hi hj;have hi':i<n:=hi;cases j with
     |succ j=>simp [Blk.at,nth] at hj
     |zero=>
      simp only [Blk.at,nth,Option.some.injEq] at hj;subst hj;refine ⟨(Col.strs (sortS ks)).val i,?_,Col.at_ok _ (Col.strs (sortS ks)) i⟩;rw [h0h (β:=⟨gb,0,1,cp⟩) rfl];simp only [World.cell?,hgb,z0z,hcell i hi'];rfl
    .intro i j v hi hj hx;have hi':i<n:=hi;obtain rfl:j=0:=by have:j<1:=hj;omega
     rw [h0h (β:=⟨gb,0,1,cp⟩) rfl] at hx;simp only [World.cell?,hgb,z0z,hcell i hi'] at hx;cases hx;rfl
    .intro _ i j hi hj;obtain rfl:j=0:=by have:j<1:=hj;omega
     have hi':i<cp:=hi;rw [h0h (β:=⟨gb,0,1,cp⟩) rfl];refine ⟨by simp [World.frozen?,hgb],?_⟩;have:i<cur.size:=by omega
     exact ⟨cur[i],by simp [World.cell?,hgb,this]⟩
 refine ⟨v,rfl,_,_,_,g.add 3 β,⟨rfl,rfl,rfl⟩,by omega,?_,?_,hrv,⟨?_,?_⟩,a0d a0b,frm,?_⟩
 .intro h q hh;simp only [G.add];rw [if_neg (by omega)];exact hu h q (by omega)
 .intro h q hh;simp only [G.add];rw [if_neg (by omega)]
 .intro h q ro b he;obtain ⟨rfl,rfl,rfl,rfl⟩:=only he;exact ⟨β,by simp [G.add],hB⟩
 .intro h q h' q' b ro' b' β1 β2 hne he he' _ _ _ _;obtain ⟨rfl,rfl,_,_⟩:=only he;obtain ⟨rfl,rfl,_,_⟩:=only he';exact absurd ⟨rfl,rfl⟩ hne
 .intro h q b β' he hg' hc';obtain ⟨rfl,rfl,_,_⟩:=only he;simp only [G.add,and_self,if_true,Option.some.injEq] at hg';subst hg';exact .inr (horg hc')
end
end Go.Sy
namespace Go.Sy
open Go.RowKit
theorem w0E {g:G} {w w':World} {n:Nat} {H:a0j} {cs:List BCol} {v:Value} (hl:h0P cs=true) (h:Out g w n H (fun r H' n'=>a0h .nsl [] n r H' n'\/a0h (.sl n 0 0 0) [(n,some (.one false (.cols 0 cs)))] (n+1) r H' n') v w'):Out g w n H (a0h (.sl n 0 0 0) [(n,some (.one false (.cols 0 cs)))] (n+1)) v w':=by
 obtain ⟨sv,H',n',g',hp,hn,hu,hk,hv,hH,hrw,hfr,hown⟩:=h;rcases hp with ⟨rfl,rfl,rfl⟩|hp
 .have h0:∀q,g' n' q=none:=fun q=>hu n' q (n0q _)
  have ent:∀{h q:Nat} {ro:Bool} {b:Blk},Ent [(n',some (.one false (.cols 0 cs)))] h q ro b->h=n'/\q=0/\ro=false/\b= .cols 0 cs:=by
   rintro h q ro b ⟨hb,e,hi,hr⟩;simp only [a0s] at e;cases hc:Nat.beq n' h with
   |false=>rw [hc] at e;simp at e
   |true=>
    rw [hc] at e;simp only [cond_true,Option.some.injEq] at e;subst e;exact ⟨(l0q hc).symm,hi.1,hr.symm,hi.2⟩
  refine ⟨_,_,_,g'.add n' ⟨0,0,cs.length,0⟩,⟨rfl,rfl,rfl⟩,l1L _,?_,?_,?_,⟨?_,?_⟩,a0d a0b,hfr,?_⟩
  .intro h q hh;have e:h≠n':=by omega
   simp only [G.add];rw [if_neg (fun x=>e x.1)];exact hu h q (by omega)
  .intro h q hh;have e:h≠n':=by omega
   rw [<-hk h q hh];simp only [G.add];rw [if_neg (fun x=>e x.1)]
  .rw [w0a hv];simp only [Rv];exact ⟨none,0,rfl,n0q _,.inl rfl⟩
  .intro h q ro b he;obtain ⟨rfl,rfl,rfl,rfl⟩:=ent he;exact ⟨_,w0A,fun h=>by simp at h,rfl,h0Z cs hl,fun i hi=>by simp only [Blk.has] at hi;omega,fun i j sv hi=>by simp only [Blk.has] at hi;omega,fun i j v hi=>by simp only [Blk.has] at hi;omega,fun _ i j hi=>by simp at hi,trivial⟩
  .intro h q h2 q2 b ro2 b2 β β2 _ he _ hg _ hc;obtain ⟨rfl,rfl,_,_⟩:=ent he;rw [w0A] at hg;cases hg;simp at hc
  .intro h q b β he hg hc;obtain ⟨rfl,rfl,_,_⟩:=ent he;rw [w0A] at hg;cases hg;simp at hc
 .exact ⟨sv,H',n',g',hp,hn,hu,hk,hv,hH,hrw,hfr,hown⟩
theorem p0s {P:Program} {n:Nat} {f:FuncId} {args:List SV} {H:a0j} {cs:List BCol} (hl:h0P cs=true) (h:FC P n f args H (fun r H' n'=>a0h .nsl [] n r H' n'\/a0h (.sl n 0 0 0) [(n,some (.one false (.cols 0 cs)))] (n+1) r H' n')):FC P n f args H (a0h (.sl n 0 0 0) [(n,some (.one false (.cols 0 cs)))] (n+1)):=by
 rcases h with ⟨hb,h⟩|h
 .refine .inl ⟨hb,fun g w vals h1 h2 h3 h4=>(h g w vals h1 h2 h3 h4).mono ?_⟩;rintro e w' ⟨v,rfl,ho⟩;exact ⟨v,rfl,w0E hl ho⟩
 .refine .inr (fun g w vals h1 h2 h3 h4=> ?_);obtain ⟨v,w',hr,ho⟩:=h g w vals h1 h2 h3 h4;exact ⟨v,w',hr,w0E hl ho⟩
theorem d0q {n0:Nat} {p q:SV->a0j->Nat->Prop} {r:SV} {vs:VS} (h:∀a b c,p a b c->q a b c):a0P n0 p r vs->a0P n0 q r vs:=fun ⟨l,u,r0,H0,n1,a,b⟩=>⟨l,u,r0,H0,n1,a,h _ _ _ b⟩
end Go.Sy
namespace Go.Sy
open Go.RowKit
theorem a0H {n:Nat} {R:Nat->Nat->Option (Nat×Nat)} (s:SV):SLe n R s s:=fun g g1 v hle _ h=>Rv.mono hle s v h
theorem h0i {n:Nat} {R:Nat->Nat->Option (Nat×Nat)} {h q h' q' i k:Nat} (hn:n<=h') (e:R h' q'=some (h,q)):SLe n R (.sl h q i k) (.sl h' q' i k):=by
 intro g g1 v hle hR hv;simp only [Rv] at hv⊢;obtain ⟨a,c,e1,e2,e3⟩:=hv;refine ⟨a,c,e1,e2,?_⟩;rcases e3 with e3|⟨β,e3,e4⟩
 .exact .inl e3
 .exact .inr ⟨β,hR h' q' _ hn e β e3,e4⟩
theorem k0m {h q:Nat} {ro:Bool} {b:Blk}:¬Ent [] h q ro b:=fun ⟨hb,e,_⟩=>by simp [a0s] at e
end Go.Sy
namespace Go.Sy
open Go.RowKit
theorem w0I (l:List Int) (x:Int):a0F l x<=l.length:=by
 induction l with
 |nil=>simp [a0F]
 |cons a l ih=>
  simp only [a0F];cases decide (a=x)<;>simp;exact ih
theorem b0e {l:List Int} {s:Int}:a0F l s<l.length↔s∈l:=by
 induction l with
 |nil=>simp [a0F]
 |cons x l ih=>
  simp only [a0F];by_cases h:x=s
  .rw [decide_eq_true h];simp [h]
  .rw [decide_eq_false h];have:¬s=x:=fun e=>h e.symm
   simp [this,ih]
theorem e0D {l:List Int} {s:Int} (h:a0F l s<l.length):l[a0F l s]? =some s:=by
 induction l with
 |nil=>simp [a0F] at h
 |cons x l ih=>
  simp only [a0F] at h⊢;by_cases e:x=s
  .rw [decide_eq_true e];simp [e]
  .rw [decide_eq_false e] at h⊢;simp only [cond_false,d1G,k1d] at h⊢;exact ih (by omega)
theorem r0c {l:List Int} (hd:l.Nodup) {i:Nat} {s:Int} (h:l[i]? =some s):a0F l s=i:=by
 have hm:s∈l:=j1o.2 ⟨i,h⟩;have h2:=e0D (b0e.2 hm);obtain ⟨_,e1⟩:=j1M.1 h;obtain ⟨_,e2⟩:=j1M.1 h2;exact (k1v hd).1 (e2.trans e1.symm)
theorem n0r {l:List Int} {s:Int}:a0Z (a0F l s) s l=if a0F l s<l.length then l else l++ [s]:=by
 unfold a0Z;split
 .rename_i h;have:=e0D h;refine k1M fun i=> ?_
  rw [j1H];by_cases e:a0F l s=i
  .subst e;rw [if_pos rfl,if_pos h,this]
  .rw [if_neg e]
 .rfl
theorem f0H (l:List Int):(sortI l).Perm l:=l1Z l _
theorem d0V (l:List Int):(sortI l).Pairwise (fun a b=>a<=b):=by
 have h:=l1E (le:=fun x y:Int=>decide (x<=y)) (fun a b c h1 h2=>by simp only [decide_eq_true_eq] at*;omega) (fun a b=>by simp only [j1E,decide_eq_true_eq];omega) l;exact h.imp (fun {a b} h=>by simpa using h)
theorem k0p {l m:List Int} (h:l.Perm m):sortI l=sortI m:=
 k1x (le:=fun a b:Int=>a<=b) (fun a b _ _ h1 h2=>by omega) (d0V l) (d0V m) ((f0H l).trans (h.trans (f0H m).symm))
end Go.Sy
namespace Go.Sy
open Go.RowKit Go.ChangeShapes Go.WideShapes Go.Deep
inductive CK where
 |int (k:IntKind)
 |bool
 |str
def c0I:CK->Value->Prop
 | .int k,v=>∃n,v= .int k n/\(Lit.int k n).wf=true
 | .bool,v=>∃b,v= .bool b
 | .str,v=>∃s,v= .string s/\s.size<=maxLen
def AllOk:List CK->List Value->Prop
 | [],vs=>vs= []
 |c::cs,vs=>∃v r,vs=v::r/\c0I c v/\AllOk cs r
theorem AllOk.length:∀(ks:List CK) (vs:List Value),AllOk ks vs->vs.length=ks.length
 | [],vs,h=>by simp only [AllOk] at h;simp [h]
 |c::cs,vs,h=>by simp only [AllOk] at h;obtain ⟨v,r,rfl,_,h⟩:=h;simp [AllOk.length cs r h]
theorem AllOk.append:∀(a b:List CK) (vs:List Value),AllOk a (vs.take a.length)->AllOk b (vs.drop a.length)->AllOk (a++b) vs
 | [],b,vs,_,h=>by simpa using h
 |c::a,b,vs,h1,h2=>by
  cases vs with
  |nil=>simp only [d1G,List.take_nil,AllOk] at h1;obtain ⟨v,r,e,_⟩:=h1;cases e
  |cons v vs=>
   simp only [d1G,k1y,AllOk] at h1;obtain ⟨v',r,e,hc,hr⟩:=h1;simp only [List.cons.injEq] at e;obtain ⟨rfl,rfl⟩:=e;simp only [g1u,AllOk];exact ⟨v,vs,rfl,hc,AllOk.append a b vs hr (by simpa using h2)⟩
mutual
def i0h (P:Program):Nat->TypeId->Option (List CK)
 |0,_=>none
 |n+1,t=>match P.underlying t with
  |some .bool=>some [.bool]
  |some (.int k)=>some [.int k]
  |some .string=>some [.str]
  |some (.struct fs)=>match g0e P n 0 fs.toList with
   |some ks=>bif Nat.beq (P.cellsOf t) ks.length then some ks else none
   |none=>none
  |_=>none
def g0e (P:Program):Nat->Nat->List Field->Option (List CK)
 |0,_,_=>none
 |_+1,_,[]=>some []
 |n+1,o,f::r=>bif Nat.beq f.offset o then (match i0h P n f.type with
  |some a=>bif Nat.beq (P.cellsOf f.type) a.length then (match g0e P n (o+a.length) r with|some b=>some (a++b)|none=>none) else none
  |none=>none) else none
end
section
variable {H:Type} {enc:TypeId×Value->H} {P:Program} {w:World} {base:Nat} {spare:Nat->Bool} {held:Bool}
theorem l0p:∀m:Nat,(∀(t:TypeId) (ks:List CK) (fuel:Nat) (cs:List Value) (x:DataW H×List MemPlace),i0h P m t=some ks->DataW.trod enc P w base spare held fuel t cs=some x->AllOk ks cs)/\
  (∀(o:Nat) (fs:List Field) (ks:List CK) (cs:List Value) (n:Nat),g0e P m o fs=some ks->cs.length=o+ks.length->(∀f∈fs,∃y,DataW.trod enc P w base spare held n f.type ((cs.drop f.offset).take (P.cellsOf f.type))=some y)->AllOk ks (cs.drop o)):=by
 intro m;induction m with
 |zero=>exact ⟨fun t ks fuel cs x h=>by simp [i0h] at h,fun o fs ks cs n h=>by simp [g0e] at h⟩
 |succ m ih=>
  refine ⟨?_,?_⟩
  .intro t ks fuel cs x h ht;simp only [i0h] at h;split at h
   .rename_i hu;simp only [Option.some.injEq] at h;subst h;obtain ⟨b,rfl,_⟩:=DataW.trod_bool hu ht;simp only [AllOk,c0I];exact ⟨_,_,rfl,⟨b,rfl⟩,rfl⟩
   .rename_i k hu;simp only [Option.some.injEq] at h;subst h;obtain ⟨n,rfl,_,hw⟩:=DataW.trod_int hu ht;simp only [AllOk,c0I];exact ⟨_,_,rfl,⟨n,rfl,hw⟩,rfl⟩
   .rename_i hu;simp only [Option.some.injEq] at h;subst h;obtain ⟨s,rfl,_,hw⟩:=DataW.trod_string hu ht;simp only [AllOk,c0I];exact ⟨_,_,rfl,⟨s,rfl,hw⟩,rfl⟩
   .rename_i fs hu;split at h
    .rename_i ks' hks;cases hb:Nat.beq (P.cellsOf t) ks'.length with
     |false=>rw [hb] at h;simp at h
     |true=>
      rw [hb] at h;simp only [cond_true,Option.some.injEq] at h;subst h;obtain ⟨xs,n,_,_,hlen,hxl,hf⟩:=DataW.trod_struct hu ht;have:=ih.2 0 fs.toList ks' cs n hks (by rw [hlen,l0q hb];simp) (by
       intro f hf';obtain ⟨i,hi,rfl⟩:=d1O hf';have hi':i<fs.size:=by simpa using hi
       have h1:=hf i fs[i] (by simp [hi']);have h2:xs[i]? =some (xs[i]'(by omega)):=k0n (by omega);refine ⟨xs[i]'(by omega),?_⟩;have:fs.toList[i]=fs[i]:=by simp
       rw [this,h1,h2])
      simpa using this
    .cases h
   .cases h
  .intro o fs ks cs n h hlen hall;cases fs with
   |nil=>
    simp only [g0e,Option.some.injEq] at h;subst h;simp only [AllOk];exact k1k (by simp at hlen;omega)
   |cons f r=>
    simp only [g0e] at h;cases ho:Nat.beq f.offset o with
    |false=>rw [ho] at h;simp at h
    |true=>
     rw [ho] at h;simp only [cond_true] at h;split at h
     .rename_i a ha;cases hb:Nat.beq (P.cellsOf f.type) a.length with
      |false=>rw [hb] at h;simp at h
      |true=>
       rw [hb] at h;simp only [cond_true] at h;split at h
       .rename_i b hbb;simp only [Option.some.injEq] at h;subst h;have eo:=l0q ho;have ea:=l0q hb;obtain ⟨y,hy⟩:=hall f (by simp);have h1:=ih.1 f.type a n _ y ha hy;rw [eo,ea] at h1;refine AllOk.append a b (cs.drop o) h1 ?_;rw [l1P];exact ih.2 (o+a.length) r b cs n hbb (by simp at hlen;omega) (fun f' hf'=>hall f' (by simp [hf']))
       .cases h
     .cases h
theorem k0A {m:Nat} {t:TypeId} {ks:List CK} {fuel:Nat} {cs:List Value} {x:DataW H×List MemPlace} (h:i0h P m t=some ks) (ht:DataW.trod enc P w base spare held fuel t cs=some x):AllOk ks cs:=(l0p m).1 t ks fuel cs x h ht
def c1v:Value->Int| .int _ n=>n|_=>0
def c1w:Value->ByteArray| .string s=>s|_=>⟨#[]⟩
def x0e:Value->Bool| .bool b=>b|_=>false
def f0W:CK->Col->Nat->Prop
 | .int k,c,n=>∃l,c= .ints k l/\l.length=n/\∀x∈l,(Lit.int k x).wf=true
 | .bool,c,n=>∃l,c= .bools l/\l.length=n
 | .str,c,n=>∃l,c= .strs l/\l.length=n/\∀x∈l,x.size<=maxLen
def b0q:List CK->List Col->Nat->Prop
 | [],l,_=>l= []
 |c::cs,l,n=>∃x r,l=x::r/\f0W c x n/\b0q cs r n
def h0r (n:Nat) (v:Nat->Value):CK->Col
 | .int k=> .ints k ((List.range n).map fun i=>c1v (v i))
 | .bool=> .bools ((List.range n).map fun i=>x0e (v i))
 | .str=> .strs ((List.range n).map fun i=>c1w (v i))
def a0V (n:Nat) (v:Nat->Nat->Value):Nat->List CK->List Col
 |_,[]=> []
 |j,c::cs=>h0r n (fun i=>v i j) c::a0V n v (j+1) cs
theorem c0D {α:Type} (n:Nat) (f:Nat->α) (d:α) (i:Nat) (h:i<n):((List.range n).map f).getD i d=f i:=by
 simp [List.getD,h]
theorem k0B {n:Nat} {v:Nat->Value} {c:CK} {g:G} {i:Nat} (hi:i<n) (h:c0I c (v i)):Rv g ((h0r n v c).at i) (v i):=by
 cases c with
 |int k=>obtain ⟨m,e,_⟩:=h;simp only [h0r,Col.at,c0D n _ _ i hi,e,c1v,Rv]
 |bool=>obtain ⟨b,e⟩:=h;simp only [h0r,Col.at,c0D n _ _ i hi,e,x0e,Rv]
 |str=>obtain ⟨s,e,_⟩:=h;simp only [h0r,Col.at,c0D n _ _ i hi,e,c1w,Rv]
theorem g0t (n:Nat) (v:Nat->Nat->Value):∀(cs:List CK) (j k:Nat),nth (a0V n v j cs) k=(nth cs k).map (fun c=>h0r n (fun i=>v i (j+k)) c)
 | [],j,k=>by simp [a0V,nth]
 |c::cs,j,0=>by simp [a0V,nth]
 |c::cs,j,k+1=>by
  simp only [a0V,nth];rw [g0t n v cs (j+1) k,show j+1+k=j+(k+1) from by omega]
theorem e0o (n:Nat) (v:Nat->Nat->Value):∀(cs:List CK) (j:Nat),(∀i,i<n->∀k c,nth cs k=some c->c0I c (v i (j+k)))->b0q cs (a0V n v j cs) n
 | [],j,_=>by simp [a0V,b0q]
 |c::cs,j,h=>by
  simp only [a0V,b0q];refine ⟨_,_,rfl,?_,e0o n v cs (j+1) (fun i hi k c' hc=>by rw [show j+1+k=j+(k+1) from by omega];exact h i hi (k+1) c' hc)⟩;have h0:∀i,i<n->c0I c (v i j):=fun i hi=>h i hi 0 c rfl
  cases c with
  |int k=>
   refine ⟨_,rfl,by simp,?_⟩;intro x hx;simp only [h1T,k1h] at hx;obtain ⟨i,hi,rfl⟩:=hx;obtain ⟨m,e,hw⟩:=h0 i hi;rw [e];exact hw
  |bool=>exact ⟨_,rfl,by simp⟩
  |str=>
   refine ⟨_,rfl,by simp,?_⟩;intro x hx;simp only [h1T,k1h] at hx;obtain ⟨i,hi,rfl⟩:=hx;obtain ⟨m,e,hw⟩:=h0 i hi;rw [e];exact hw
theorem AllOk.nth:∀(ks:List CK) (vs:List Value) (j:Nat) (c:CK),AllOk ks vs->Sy.nth ks j=some c->∃v,vs[j]? =some v/\c0I c v
 | [],vs,j,c,_,h=>by simp [Sy.nth] at h
 |k::ks,vs,j,c,h,hj=>by
  simp only [AllOk] at h;obtain ⟨v,r,rfl,h1,h2⟩:=h;cases j with
  |zero=>simp [Sy.nth] at hj;subst hj;exact ⟨v,by simp,h1⟩
  |succ j=>simp only [Sy.nth] at hj;obtain ⟨u,h3,h4⟩:=AllOk.nth ks r j c h2 hj;exact ⟨u,by simpa using h3,h4⟩
theorem i0i {c:CK} {v:Value} (h:c0I c v):v.oneCell'=true:=by
 cases c with
 |int k=>obtain ⟨n,rfl,_⟩:=h;rfl
 |bool=>obtain ⟨b,rfl⟩:=h;rfl
 |str=>obtain ⟨b,rfl,_⟩:=h;rfl
theorem f0M:∀(ks:List CK) (cols:List Col) (n:Nat),b0q ks cols n->cols.length=ks.length/\∀c∈cols,c.len=n
 | [],cols,n,h=>by simp only [b0q] at h;subst h;simp
 |k::ks,cols,n,h=>by
  simp only [b0q] at h;obtain ⟨x,r,rfl,h1,h2⟩:=h;obtain ⟨i1,i2⟩:=f0M ks r n h2;refine ⟨by simp [i1],?_⟩;intro c hc;rcases a1q.1 hc with rfl|hc
  .cases k with
   |int k=>obtain ⟨l,rfl,e,_⟩:=h1;exact e
   |bool=>obtain ⟨l,rfl,e⟩:=h1;exact e
   |str=>obtain ⟨l,rfl,e,_⟩:=h1;exact e
  .exact i2 c hc
theorem n0H {t e:TypeId} {m fuel:Nat} {v:Value} {ks:List CK} {x:DataW H×List MemPlace} (ht:P.underlying t=some (.slice e)) (hk:i0h P m e=some ks) (hlen:P.cellsOf e=ks.length) (h0:0<ks.length)
  (h:DataW.trod enc P w base (fun _=>true) held fuel t [v]=some x):
  ∃(n:Nat) (β:Base) (cols:List Col),n<=maxLen/\b0q ks cols n/\(∀(g:G) (h:Nat),g h 0=some β->Rv g (.sl h 0 0 n) v)/\(∀g:G,BlkAt g β true (.cols n (a0A cols)) w):=by
 have dead:∀a,v= .slice a 0 0->∃(n:Nat) (β:Base) (cols:List Col),n<=maxLen/\b0q ks cols n/\(∀(g:G) (h:Nat),g h 0=some β->Rv g (.sl h 0 0 n) v)/\(∀g:G,BlkAt g β true (.cols n (a0A cols)) w):=by
  intro a hv;have hok:b0q ks (a0V 0 (fun _ _=>undef) 0 ks) 0:=e0o _ _ _ _ (fun i hi=>absurd hi (k1G _));obtain ⟨l1,l2⟩:=f0M _ _ _ hok;refine ⟨0,⟨0,0,ks.length,0⟩,a0V 0 (fun _ _=>undef) 0 ks,w0F _,hok,?_,?_⟩
  .intro g h _;subst hv;simp only [Rv];exact ⟨a,0,rfl,n0q _,.inl rfl⟩
  .intro g;refine ⟨fun h=>by simp at h,by simp [Blk.es,(d0l _).1,l1],?_,fun i hi=>by simp only [Blk.has] at hi;omega,fun i j sv hi=>by simp only [Blk.has] at hi;omega,fun i j v hi=>by simp only [Blk.has] at hi;omega,(fun h=>by cases h),trivial⟩;intro c hc;obtain ⟨j,hj⟩:=c0h hc;rw [(d0l _).2 j] at hj;cases hn:nth (a0V 0 (fun _ _=>undef) 0 ks) j with
   |none=>rw [hn] at hj;cases hj
   |some y=>rw [hn] at hj;cases hj;exact l2 y (b0d hn)
 rcases open_slice ht h with ⟨hv,_⟩|⟨a,len,cap,mm,nn,D,Pl,hv,_,hl,hm,hmm,hx,hi⟩
 .simp only [List.cons.injEq,and_true] at hv;exact dead none hv
 .simp only [List.cons.injEq,and_true] at hv;simp only [if_true] at hmm;subst hmm;have cell:∀i,i<mm->∀j c,nth ks j=some c->∃u,w.cell? (a.add (i*ks.length+j))=some u/\c0I c u:=by
   intro i him j c hj;obtain ⟨cs',hc,ht'⟩:=hi i him;have hall:=k0A hk ht';obtain ⟨u,hu,hok⟩:=AllOk.nth ks cs' j c hall hj;rw [hlen] at hc;obtain ⟨_,hcl,hat⟩:=World.cells?_some hc;have hjl:=b0F hj;refine ⟨u,?_,hok⟩;rw [<-Go.Deep.add_add,hat j hjl];exact hu
  by_cases hz:mm=0
  .subst hz;have hl0:len=0:=by omega
   subst hl0;exact dead (some a) hv
  .subst hv;obtain ⟨c0,hc0⟩:∃c0,nth ks 0=some c0:=by
    cases ks with
    |nil=>simp at h0
    |cons c r=>exact ⟨c,rfl⟩
   obtain ⟨u0,hu0,_⟩:=cell 0 (by omega) 0 c0 hc0;simp only [l1Q,w0G] at hu0;have ha0:a.add 0=a:=by simp [Addr.add]
   rw [ha0] at hu0;have hspot:a.spot=none:=by
    unfold World.cell? at hu0;split at hu0
    .split at hu0
     .cases hu0
     .rename_i hs;simpa using hs
    .cases hu0
   have hblk:a.block<w.heap.size:=by
    unfold World.cell? at hu0;split at hu0
    .rename_i hh;exact (h1X.1 hh).1
    .cases hu0
   let β:Base:=⟨a.block,a.off,ks.length,mm⟩
   have haddr:∀i j,a.add (i*ks.length+j)=β.addr i j:=by
    intro i j;obtain ⟨b,o,s⟩:=a;simp only at hspot;subst hspot;unfold Addr.add Base.addr;split
    .rename_i h;simp only [β];congr 1;omega
    .simp only [β];congr 1;omega
   let val:Nat->Nat->Value:=fun i j=>(w.cell? (β.addr i j)).getD undef
   have hcols:b0q ks (a0V len val 0 ks) len:=by
    refine e0o len val ks 0 (fun i hi' k c hc=> ?_);obtain ⟨u,hu,hok⟩:=cell i (by omega) k c hc;rw [haddr] at hu;simp only [val,z0z,hu,j1A];exact hok
   obtain ⟨l1,l2⟩:=f0M _ _ _ hcols;obtain ⟨u1,u2⟩:=d0l (a0V len val 0 ks);refine ⟨len,β,a0V len val 0 ks,g1x hl hm,hcols,?_,?_⟩
   .intro g h hg;simp only [Rv];refine ⟨some a,mm,rfl,hl,.inr ⟨β,hg,?_,by simp [β]⟩⟩;have:=haddr 0 0;simp only [l1Q,w0G,ha0] at this;rw [this]
   .intro g;refine ⟨fun _=>hblk,by simp [Blk.es,u1,l1,β],?_,fun i hi=>by simp only [Blk.has] at hi;simp only [β];omega,?_,?_,(fun h=>by cases h),trivial⟩
    .intro c hc;obtain ⟨j,hj⟩:=c0h hc;rw [u2 j] at hj;cases hn:nth (a0V len val 0 ks) j with
     |none=>rw [hn] at hj;cases hj
     |some y=>rw [hn] at hj;cases hj;exact l2 y (b0d hn)
    .intro i j sv hi' hj;simp only [Blk.has] at hi';simp only [Blk.at,u2 j,g0t] at hj;cases hc:nth ks j with
     |none=>rw [hc] at hj;simp at hj
     |some c=>
      rw [hc] at hj;simp only [c1m,Option.some.injEq,z0z] at hj;subst hj;obtain ⟨u,hu,hok⟩:=cell i (by omega) j c hc;rw [haddr] at hu;have hval:val i j=u:=by simp only [val,hu,j1A]
      refine ⟨u,hu,?_⟩;rw [<-hval];exact k0B (v:=fun i=>val i j) hi' (by rw [hval];exact hok)
    .intro i j v' hi' hj hv';simp only [Blk.has] at hi';obtain ⟨c,hc⟩:∃c,nth ks j=some c:=⟨ks[j],by rw [a0R];exact k0n hj⟩;obtain ⟨u,hu,hok⟩:=cell i (by omega) j c hc;rw [haddr,hv'] at hu;cases hu;exact i0i hok
end
end Go.Sy
namespace Go.Sy
open Go.RowKit Go.ChangeShapes Go.WideShapes Go.Deep
theorem n0I {α:Type} {l:List α} {n:Nat} (h:l.length=n+1):∃a r,l=a::r/\r.length=n:=by
 cases l with
 |nil=>cases h
 |cons a r=>exact ⟨a,r,rfl,by simpa using h⟩
theorem e1g {α:Type} {l:List α} (h:l.length=0):l= []:=l1D.1 h
theorem x0f {g:G} {l:List SV} {vs:Array Value} (h:Rvs g l vs.toList):Rv g (.agg l) (.agg vs):=by simp only [Rv];exact ⟨_,rfl,h⟩
theorem g0u {g:G} {x:SV} {l:List SV} {v:Value} {vs:List Value} (h:Rv g x v) (k:Rvs g l vs):Rvs g (x::l) (v::vs):=by simp only [Rvs];exact ⟨_,_,rfl,h,k⟩
theorem v0c {g:G}:Rvs g [] []:=by simp only [Rvs]
mutual
def e1h {H:Type}:DataW H->Option (List Value)
 | .lit l=>some [l.value]
 | .agg ds=>x0g ds
 |_=>none
def x0g {H:Type}:List (DataW H)->Option (List Value)
 | []=>some []
 |d::ds=>match e1h d,x0g ds with
  |some a,some b=>some (a++b)
  |_,_=>none
end
section
variable {H:Type} {enc:TypeId×Value->H} {P:Program} {w:World} {base:Nat} {spare:Nat->Bool} {held:Bool}
theorem r0s (s:ByteArray):(⟨s.data.toList.toArray⟩:ByteArray)=s:=by cases s;simp
theorem n0J:∀m:Nat,(∀(t:TypeId) (ks:List CK) (fuel:Nat) (cs:List Value) (x:DataW H×List MemPlace),i0h P m t=some ks->DataW.trod enc P w base spare held fuel t cs=some x->e1h x.1=some cs)/\
  (∀(o:Nat) (fs:List Field) (ks:List CK) (cs:List Value) (n:Nat) (xs:List (DataW H×List MemPlace)),g0e P m o fs=some ks->cs.length=o+ks.length->xs.length=fs.length->(∀(i:Nat) f,fs[i]? =some f->DataW.trod enc P w base spare held n f.type ((cs.drop f.offset).take (P.cellsOf f.type))=xs[i]?)->x0g (xs.map (·.1))=some (cs.drop o)):=by
 intro m;induction m with
 |zero=>exact ⟨fun t ks fuel cs x h=>by simp [i0h] at h,fun o fs ks cs n xs h=>by simp [g0e] at h⟩
 |succ m ih=>
  refine ⟨?_,?_⟩
  .intro t ks fuel cs x h ht;simp only [i0h] at h;split at h
   .rename_i hu;obtain ⟨b,rfl,rfl⟩:=DataW.trod_bool hu ht;rfl
   .rename_i k hu;obtain ⟨n,rfl,rfl,hw⟩:=DataW.trod_int hu ht;rfl
   .rename_i hu;obtain ⟨s,rfl,rfl,hw⟩:=DataW.trod_string hu ht;simp only [e1h,Lit.value,r0s]
   .rename_i fs hu;split at h
    .rename_i ks' hks;cases hb:Nat.beq (P.cellsOf t) ks'.length with
     |false=>rw [hb] at h;simp at h
     |true=>
      rw [hb] at h;simp only [cond_true,Option.some.injEq] at h;subst h;obtain ⟨xs,n,_,rfl,hlen,hxl,hf⟩:=DataW.trod_struct hu ht;have:=ih.2 0 fs.toList ks' cs n xs hks (by rw [hlen,l0q hb];simp) (by simpa using hxl) (by
       intro i f hf';exact hf i f (by simpa using hf'))
      simpa [e1h] using this
    .cases h
   .cases h
  .intro o fs ks cs n xs h hlen hxl hall;cases fs with
   |nil=>
    simp only [g0e,Option.some.injEq] at h;subst h;cases xs with
    |nil=>
     simp only [k1H,x0g,Option.some.injEq];exact (k1k (by simp at hlen;omega)).symm
    |cons x xs=>simp at hxl
   |cons f r=>
    cases xs with
    |nil=>simp at hxl
    |cons x xs=>
     simp only [g0e] at h;cases ho:Nat.beq f.offset o with
     |false=>rw [ho] at h;simp at h
     |true=>
      rw [ho] at h;simp only [cond_true] at h;split at h
      .rename_i a ha;cases hb:Nat.beq (P.cellsOf f.type) a.length with
       |false=>rw [hb] at h;simp at h
       |true=>
        rw [hb] at h;simp only [cond_true] at h;split at h
        .rename_i b hbb;simp only [Option.some.injEq] at h;subst h;have eo:=l0q ho;have ea:=l0q hb;have h0:=hall 0 f rfl;simp only [k1e] at h0;have h1:=ih.1 f.type a n _ x ha h0;have h2:=ih.2 (o+a.length) r b cs n xs hbb (by simp at hlen;omega) (by simpa using hxl) (fun i f' hf'=>by
          have:=hall (i+1) f' (by simpa using hf');simpa using this)
         simp only [j1D,x0g,h1,h2,Option.some.injEq,eo,ea];rw [<-l1P,k1o]
        .cases h
      .cases h
theorem a1O {m:Nat} {t:TypeId} {ks:List CK} {fuel:Nat} {cs:List Value} {x:DataW H×List MemPlace} (h:i0h P m t=some ks) (ht:DataW.trod enc P w base spare held fuel t cs=some x):e1h x.1=some cs:=(n0J m).1 t ks fuel cs x h ht
theorem p0G {β:Base} {n:Nat} {ks:List CK} {val:Nat->Nat->Value} (hes:β.es=ks.length) (hcap:n<=β.cap) (hlt:0<β.cap->β.blk<w.heap.size) (cell:∀i,i<n->∀j c,nth ks j=some c->w.cell? (β.addr i j)=some (val i j)/\c0I c (val i j)) (g:G):
  BlkAt g β true (.cols n (a0A (a0V n val 0 ks))) w:=by
 have hcols:b0q ks (a0V n val 0 ks) n:=by
  refine e0o n val ks 0 (fun i hi' k c hc=> ?_);rw [z0z];exact (cell i hi' k c hc).2
 obtain ⟨l1,l2⟩:=f0M _ _ _ hcols;obtain ⟨u1,u2⟩:=d0l (a0V n val 0 ks);refine ⟨hlt,by simp [Blk.es,u1,l1,hes],?_,fun i hi=>by simp only [Blk.has] at hi;omega,?_,?_,(fun h=>by cases h),trivial⟩
 .intro c hc;obtain ⟨j,hj⟩:=c0h hc;rw [u2 j] at hj;cases hn:nth (a0V n val 0 ks) j with
  |none=>rw [hn] at hj;cases hj
  |some y=>rw [hn] at hj;cases hj;exact l2 y (b0d hn)
 .intro i j sv hi' hj;simp only [Blk.has] at hi';simp only [Blk.at,u2 j,g0t] at hj;cases hc:nth ks j with
  |none=>rw [hc] at hj;simp at hj
  |some c=>
   rw [hc] at hj;simp only [c1m,Option.some.injEq,z0z] at hj;subst hj;obtain ⟨hu,hok⟩:=cell i hi' j c hc;exact ⟨_,hu,k0B (v:=fun i=>val i j) hi' hok⟩
 .intro i j v' hi' hj hv';simp only [Blk.has] at hi';obtain ⟨c,hc⟩:∃c,nth ks j=some c:=⟨ks[j]'(by omega),by rw [a0R];exact k0n (by omega)⟩;obtain ⟨hu,hok⟩:=cell i hi' j c hc;rw [hv'] at hu;cases hu;exact i0i hok
def e1i {H:Type} (ds:List (DataW H)) (i j:Nat):Value:=(((ds[i]?).bind e1h).getD []).getD j undef
theorem v0d {nm:String} {v:Nat} {t e:TypeId} {m fuel n:Nat} {cs:Array Value} {ks:List CK} {ds:List (DataW H)} {p:List MemPlace} {cols:List Col} (hg:P.globalNamed nm=some v) (hv:w.var? P nm=some cs)
  (ht:P.underlying t=some (.array n e)) (hk:i0h P m e=some ks) (hlen:P.cellsOf e=ks.length) (hs:P.cellsOf t=n*ks.length) (h0:0<n*ks.length)
  (h:DataW.trod enc P w base spare held fuel t cs.toList=some (.agg ds,p)) (hc:a0V n (e1i ds) 0 ks=cols) (g:G):BlkAt g ⟨v,0,ks.length,n⟩ true (.cols n (a0A cols)) w:=by
 obtain ⟨xs,m1,_,hx,hl,hxl,hel⟩:=DataW.trod_array ht h;simp only [Prod.mk.injEq,DataW.agg.injEq] at hx;have hcl:cs.size=n*ks.length:=by simpa [hs] using hl
 have hcell:=World.var?_cell (w:=w) hg hv;have hblk:v<w.heap.size:=by
  have:=hcell 0;rw [w0y (by omega)] at this;unfold World.cell? at this;split at this
  .rename_i hh;exact (h1X.1 hh).1
  .cases this
 have key:∀i,i<n->∃y,xs[i]? =some y/\e1h y.1=some ((cs.toList.drop (i*ks.length)).take ks.length)/\AllOk ks ((cs.toList.drop (i*ks.length)).take ks.length):=by
  intro i hi;have h1:=hel i hi;have h2:xs[i]? =some (xs[i]'(by omega)):=k0n (by omega);rw [h2,hlen] at h1;exact ⟨_,h2,a1O hk h1,k0A hk h1⟩
 subst hc;refine p0G rfl (n0q _) (fun _=>hblk) ?_ g;intro i hi j c hj;obtain ⟨y,e1,e2,e3⟩:=key i hi;obtain ⟨u,hu,hok⟩:=AllOk.nth ks _ j c e3 hj;have hjl:=b0F hj;have hd:e1i ds i j=u:=by
  unfold e1i;rw [hx.1,a1u,e1];simp only [c1m,Option.bind_some,e2,j1A,List.getD,hu]
 rw [hd];refine ⟨?_,hok⟩;have:Base.addr ⟨v,0,ks.length,n⟩ i j=⟨v,i*ks.length+j,none⟩:=by simp [Base.addr]
 rw [this,hcell];rw [j1U,if_pos hjl,k1W] at hu;simpa using hu
end
end Go.Sy
namespace Go.Sy
open Go.RowKit
def n0K (n:Nat):List SV->List SV->Prop
 | [],[]=>True
 |a::l,b::m=>(b=a\/(a= .nsl/\b= .sl n 0 0 0))/\n0K n l m
 |_,_=>False
theorem i0j {g g1:G} {n:Nat} (hle:G.le g g1):∀(l m:List SV) (vs:List Value),n0K n l m->Rvs g l vs->Rvs g1 m vs
 | [],[],vs,_,h=>by simp only [Rvs] at h⊢;exact h
 |a::l,b::m,vs,hn,h=>by
  simp only [Rvs] at h⊢;obtain ⟨v,vs',rfl,h1,h2⟩:=h;refine ⟨v,vs',rfl,?_,i0j hle l m vs' hn.2 h2⟩;rcases hn.1 with rfl|⟨rfl,rfl⟩
  .exact (Rvs.mono hle [b] [v] (by simp only [Rvs];exact ⟨v,[],rfl,h1,rfl⟩))|>fun q=>by
    simp only [Rvs] at q;obtain ⟨v2,_,e,q2,_⟩:=q;obtain ⟨rfl,_⟩:=List.cons.inj e;exact q2
  .simp only [Rv] at h1⊢;exact ⟨none,0,h1,n0q _,.inl rfl⟩
 | [],_::_,_,hn,_=>hn.elim
 |_::_,[],_,hn,_=>hn.elim
theorem t0c {P:Program} {n:Nat} {f:FuncId} {args args1:List SV} {H:a0j} {cs:List BCol} {post:SV->a0j->Nat->Prop} (hl:h0P cs=true) (ha:∀{g g1:G},G.le g g1->∀vs,Rvs g args vs->Rvs g1 args1 vs) (h:FC P (n+1) f args1 ((n,some (.one true (.cols 0 cs)))::H) post):FC P n f args H post:=by
 have key:∀(g:G) (w:World) (vals:List Value),g.glob->g.upto n->Holds g H w->Rvs g args vals->
   ∃g1:G,g1.glob/\g1.upto (n+1)/\Holds g1 ((n,some (.one true (.cols 0 cs)))::H) w/\Rvs g1 args1 vals/\∀v w',Out g1 w (n+1) ((n,some (.one true (.cols 0 cs)))::H) post v w'->Out g w n H post v w':=by
  intro g w vals hg hu hH hv;have hle:G.le g (g.add n ⟨0,0,cs.length,0⟩):=G.le_add _ (hu n 0 (n0q _));have hns:∀h q ro b,Ent H h q ro b->h≠n:=by
   intro h q ro b he e;obtain ⟨β,hb,_⟩:=hH.blk _ _ _ _ he;rw [hu h q (by omega)] at hb;cases hb
  have hsame:∀h q,h≠n->(g.add n ⟨0,0,cs.length,0⟩) h q=g h q:=by
   intro h q hh;simp only [G.add];rw [if_neg (fun x=>hh x.1)]
  have hent:∀h q ro b,Ent ((n,some (.one true (.cols 0 cs)))::H) h q ro b->(n=h/\q=0/\ro=true/\b= .cols 0 cs)\/(h≠n/\Ent H h q ro b):=by
   intro h q ro b he;rcases a0t.1 he with ⟨e,hb,e1,e2,e3⟩|⟨e,he⟩
   .cases e1;simp only [HB.is] at e2;exact .inl ⟨e,e2.1,e3.symm,e2.2⟩
   .exact .inr ⟨fun x=>e x.symm,he⟩
  have hW:∀k,l0z (g.add n ⟨0,0,cs.length,0⟩) ((n,some (.one true (.cols 0 cs)))::H) k->l0z g H k:=by
   rintro k ⟨h,q,b,β,he,hb,hc,e⟩;rcases hent _ _ _ _ he with ⟨_,_,e2,_⟩|⟨hh,he⟩
   .cases e2
   .exact ⟨h,q,b,β,he,by rw [<-hsame h q hh];exact hb,hc,e⟩
  refine ⟨_,?_,?_,⟨?_,?_⟩,ha hle _ hv,?_⟩
  .intro q;obtain ⟨es,cap,e⟩:=hg q;exact ⟨es,cap,hle _ _ _ e⟩
  .intro h q hh;rw [hsame h q (by omega)];exact hu h q (by omega)
  .intro h q ro b he;rcases hent _ _ _ _ he with ⟨rfl,rfl,rfl,rfl⟩|⟨hh,he⟩
   .exact ⟨_,w0A,fun h=>by simp at h,rfl,h0Z cs hl,fun i hi=>by simp only [Blk.has] at hi;omega,fun i j sv hi=>by simp only [Blk.has] at hi;omega,fun i j v hi=>by simp only [Blk.has] at hi;omega,fun _ i j hi=>by simp at hi,trivial⟩
   .obtain ⟨β,hb,hB⟩:=hH.blk _ _ _ _ he;exact ⟨β,hle _ _ _ hb,b0h hB hle (n0q _) (fun _=>rfl)⟩
  .intro h q h2 q2 b ro2 b2 β β2 hne he he2 hb hb2 hc hc2;rcases hent _ _ _ _ he with ⟨_,_,e,_⟩|⟨hh,he⟩
   .cases e
   .rcases hent _ _ _ _ he2 with ⟨rfl,rfl,_,_⟩|⟨hh2,he2⟩
    .rw [w0A] at hb2;cases hb2;simp at hc2
    .exact hH.sep h q h2 q2 b ro2 b2 β β2 hne he he2 (by rw [<-hsame h q hh];exact hb) (by rw [<-hsame h2 q2 hh2];exact hb2) hc hc2
  .rintro v w' ⟨sv,H',n',g',hp,hn,hu',hk,hv',hH',hrw,hfr,hown⟩;refine ⟨sv,H',n',g',hp,by omega,hu',fun h q hh=> ?_,hv',hH',hrw,?_,?_⟩
   .rw [hk h q (by omega),hsame h q (by omega)]
   .exact ⟨hfr.os,hfr.tape,hfr.output,hfr.size,fun k hk1 hk2=>hfr.block k hk1 (fun hq=>hk2 (hW k hq))⟩
   .intro h q b β he hb hc;rcases hown h q b β he hb hc with hh|hh
    .exact .inl (hW _ hh)
    .exact .inr hh
 rcases h with ⟨hb,h⟩|h
 .refine .inl ⟨hb,fun g w vals h1 h2 h3 h4=> ?_⟩;obtain ⟨g1,k1,k2,k3,k4,k5⟩:=key g w vals h1 h2 h3 h4;refine (h g1 w vals k1 k2 k3 k4).mono ?_;rintro e w' ⟨v,rfl,ho⟩;exact ⟨v,rfl,k5 v w' ho⟩
 .refine .inr (fun g w vals h1 h2 h3 h4=> ?_);obtain ⟨g1,k1,k2,k3,k4,k5⟩:=key g w vals h1 h2 h3 h4;obtain ⟨v,w',hr,ho⟩:=h g1 w vals k1 k2 k3 k4;exact ⟨v,w',hr,k5 v w' ho⟩
theorem x0h {P:Program} {n:Nat} {f:FuncId} {args args1:List SV} {H:a0j} {cs:List BCol} {post:SV->a0j->Nat->Prop} (hl:h0P cs=true) (ha:n0K n args args1) (h:FC P (n+1) f args1 ((n,some (.one true (.cols 0 cs)))::H) post):FC P n f args H post:=
 t0c hl (fun hle vs hv=>i0j hle _ _ _ ha hv) h
end Go.Sy
namespace Go.Sy
open Go.RowKit
mutual
def SV.mem (μ:Nat->Nat):SV->SV
 | .ptr h q i j=> .ptr h (q+μ h) i j
 | .sl h q i n=> .sl h (q+μ h) i n
 | .map h q=> .map h (q+μ h)
 | .fn f l=> .fn f (SV.mems μ l)
 | .iface t v=> .iface t (SV.mem μ v)
 | .agg l=> .agg (SV.mems μ l)
 | .tup l=> .tup (SV.mems μ l)
 | .bool b=> .bool b
 | .int k n=> .int k n
 | .str s=> .str s
 | .nptr=> .nptr
 | .nsl=> .nsl
 | .zsl=> .zsl
 | .nmap=> .nmap
 | .nif=> .nif
 | .arr n l=> .arr n l
 | .raw v=> .raw v
 | .unk=> .unk
def SV.mems (μ:Nat->Nat):List SV->List SV
 | []=> []
 |s::r=>SV.mem μ s::SV.mems μ r
end
def BCol.mem (μ:Nat->Nat):BCol->BCol
 | .sc c=> .sc c
 | .svs l=> .svs (SV.mems μ l)
 | .own h ns=> .own h ns
 | .arrs n k r=> .arrs n k r
 | .ptrs h n=> .ptrs h n
def c0T (μ:Nat->Nat):List BCol->List BCol
 | []=> []
 |c::l=>c.mem μ::c0T μ l
def ObjS.mem (μ:Nat->Nat):ObjS->ObjS
 | .map ka ea n ks vs bs ck=> .map ka ea n ks (c0T μ vs) bs ck
 | .iter h q a b c=> .iter h (q+μ h) a b c
 | .niter=> .niter
 | .siter s p=> .siter s p
 | .bld0 T=> .bld0 T
 | .bld T h q n=> .bld T h (q+μ h) n
 | .brow T s=> .brow T s
 | .bag Q=> .bag Q
def Blk.mem (μ:Nat->Nat):Blk->Blk
 | .cells l=> .cells (SV.mems μ l)
 | .cols n l=> .cols n (c0T μ l)
 | .obj o=> .obj (o.mem μ)
def BCol.mok (μ:Nat->Nat):BCol->Bool
 | .own h _=>Nat.beq (μ h) 0
 | .ptrs h _=>Nat.beq (μ h) 0
 |_=>true
def d0y (μ:Nat->Nat):List BCol->Bool
 | []=>true
 |c::l=>c.mok μ&&d0y μ l
def Blk.mok (μ:Nat->Nat):Blk->Bool
 | .cells _=>true
 | .cols _ l=>d0y μ l
 | .obj (.map _ _ _ _ vs _ _)=>d0y μ vs
 | .obj _=>true
def Sm (μ:Nat->Nat) (g g':G):Prop:=∀h q,g h q=g' h (q+μ h)
mutual
theorem Rv.mem {μ:Nat->Nat} {g g':G} (hs:Sm μ g g'):∀(sv:SV) (v:Value),Rv g sv v↔Rv g' (SV.mem μ sv) v
 | .bool _,_=>by simp only [SV.mem,Rv]
 | .int _ _,_=>by simp only [SV.mem,Rv]
 | .str _,_=>by simp only [SV.mem,Rv]
 | .ptr h q i j,v=>by simp only [SV.mem,Rv,hs h q]
 | .nptr,_=>by simp only [SV.mem,Rv]
 | .sl h q i m,v=>by simp only [SV.mem,Rv,hs h q]
 | .nsl,_=>by simp only [SV.mem,Rv]
 | .zsl,_=>by simp only [SV.mem,Rv]
 | .map h q,v=>by simp only [SV.mem,Rv,hs h q]
 | .nmap,_=>by simp only [SV.mem,Rv]
 | .fn f l,v=>by
   simp only [SV.mem,Rv];constructor
   .rintro ⟨vs,e,k⟩;exact ⟨vs,e,(Rvs.mem hs l _).1 k⟩
   .rintro ⟨vs,e,k⟩;exact ⟨vs,e,(Rvs.mem hs l _).2 k⟩
 | .iface t s,v=>by
   simp only [SV.mem,Rv];constructor
   .rintro ⟨u,e,k⟩;exact ⟨u,e,(Rv.mem hs s _).1 k⟩
   .rintro ⟨u,e,k⟩;exact ⟨u,e,(Rv.mem hs s _).2 k⟩
 | .nif,_=>by simp only [SV.mem,Rv]
 | .agg l,v=>by
   simp only [SV.mem,Rv];constructor
   .rintro ⟨vs,e,k⟩;exact ⟨vs,e,(Rvs.mem hs l _).1 k⟩
   .rintro ⟨vs,e,k⟩;exact ⟨vs,e,(Rvs.mem hs l _).2 k⟩
 | .arr _ _,_=>by simp only [SV.mem,Rv]
 | .tup l,v=>by
   simp only [SV.mem,Rv];constructor
   .rintro ⟨vs,e,k⟩;exact ⟨vs,e,(Rvs.mem hs l _).1 k⟩
   .rintro ⟨vs,e,k⟩;exact ⟨vs,e,(Rvs.mem hs l _).2 k⟩
 | .raw _,_=>by simp only [SV.mem,Rv]
 | .unk,_=>by simp only [SV.mem,Rv]
theorem Rvs.mem {μ:Nat->Nat} {g g':G} (hs:Sm μ g g'):∀(l:List SV) (vs:List Value),Rvs g l vs↔Rvs g' (SV.mems μ l) vs
 | [],_=>by simp only [SV.mems,Rvs]
 |s::l,vs=>by
  simp only [SV.mems,Rvs];constructor
  .rintro ⟨v,vs',e,h1,h2⟩;exact ⟨v,vs',e,(Rv.mem hs s v).1 h1,(Rvs.mem hs l vs').1 h2⟩
  .rintro ⟨v,vs',e,h1,h2⟩;exact ⟨v,vs',e,(Rv.mem hs s v).2 h1,(Rvs.mem hs l vs').2 h2⟩
end
theorem k0C (μ:Nat->Nat):∀l:List SV,SV.mems μ l=l.map (SV.mem μ)
 | []=>rfl
 |s::l=>by simp [SV.mems,k0C μ l]
theorem f0N (μ:Nat->Nat):∀l:List BCol,c0T μ l=l.map (BCol.mem μ)
 | []=>rfl
 |s::l=>by simp [c0T,f0N μ l]
theorem g0v {μ:Nat->Nat}:∀{l:List BCol} {c:BCol},d0y μ l=true->c∈l->c.mok μ=true
 | [],s,_,h=>by cases h
 |x::l,s,hw,h=>by
  simp only [d0y,k0o] at hw;rcases a1q.1 h with rfl|h
  .exact hw.1
  .exact g0v hw.2 h
theorem BCol.mem_at (μ:Nat->Nat) (c:BCol) (i:Nat) (h:c.mok μ=true):(c.mem μ).at i=SV.mem μ (c.at i):=by
 cases c with
 |sc c=>cases c<;>rfl
 |svs l=>
  simp only [BCol.mem,BCol.at,k0C,List.getD,a1u];cases l[i]?<;>rfl
 |own hh ns=>
  have e:μ hh=0:=by simpa [BCol.mok] using h
  simp only [BCol.mem,BCol.at,SV.mem,e,w0G]
 |arrs n k r=>rfl
 |ptrs hh m=>
  have e:μ hh=0:=by simpa [BCol.mok] using h
  simp only [BCol.mem,BCol.at,SV.mem,e,w0G]
theorem Blk.mem_at (μ:Nat->Nat) (b:Blk) (i j:Nat) (h:b.mok μ=true):(b.mem μ).at i j=(b.at i j).map (SV.mem μ):=by
 cases b with
 |cells l=>simp only [Blk.mem,Blk.at,k0C,a0R,a1u]
 |cols n l=>
  simp only [Blk.mem,Blk.at,f0N,a0R,a1u];cases hc:l[j]? with
  |none=>rfl
  |some c=>simp [BCol.mem_at μ c i (g0v h (j1w hc))]
 |obj o=>rfl
theorem Blk.mem_has (μ:Nat->Nat) (b:Blk) (i:Nat):(b.mem μ).has i↔b.has i:=by cases b<;>exact Iff.rfl
theorem Blk.mem_es (μ:Nat->Nat) (b:Blk):(b.mem μ).es=b.es:=by
 cases b<;>simp [Blk.mem,Blk.es,k0C,f0N]
theorem g0w (μ:Nat->Nat) {l:List BCol} {n:Nat}:(∀c∈c0T μ l,c.len=n)↔∀c∈l,c.len=n:=by
 have:∀c:BCol,(c.mem μ).len=c.len:=by intro c;cases c<;>simp [BCol.mem,BCol.len,k0C]
 simp [f0N,this]
theorem Blk.mem_len (μ:Nat->Nat) (b:Blk):(b.mem μ).lenOk↔b.lenOk:=by
 cases b with
 |cells l=>exact Iff.rfl
 |cols n l=>exact g0w μ
 |obj o=>exact Iff.rfl
theorem k0D (μ:Nat->Nat):∀(l:List BCol) (i:Nat),d0y μ l=true->a0v (c0T μ l) i=SV.mems μ (a0v l i)
 | [],_,_=>rfl
 |c::l,i,h=>by
  simp only [d0y,k0o] at h;simp only [c0T,a0v,SV.mems,BCol.mem_at μ c i h.1,k0D μ l i h.2]
theorem p0H (μ:Nat->Nat) (ea:Bool) (l:List BCol) (i:Nat) (h:d0y μ l=true):a0T ea (c0T μ l) i=SV.mem μ (a0T ea l i):=by
 cases ea with
 |true=>simp only [a0T,SV.mem,k0D μ l i h]
 |false=>
  match l,h with
  | [],_=>rfl
  | [c],h=>simp only [c0T,a0T];exact BCol.mem_at μ c i (g0v h (a1A.2 rfl))
  |_::_::_,_=>rfl
theorem p0I {μ:Nat->Nat} {g g':G} (hs:Sm μ g g') {β:Base} {b:Blk} {w:World} (hm:b.mok μ=true):b.Ok g w β↔(b.mem μ).Ok g' w β:=by
 cases b with
 |cells l=>exact Iff.rfl
 |cols n l=>exact Iff.rfl
 |obj o=>
  cases o with
  |map ka ea m ks vs bs ck=>
   have hm':d0y μ vs=true:=hm;constructor
   .rintro ⟨c1,c2,es,e,k⟩;exact ⟨c1,c2,es,e,k.size,k.kl,(g0w μ).2 k.vl,k.bl,k.nd,k.lt,fun i x hx=>⟨(k.row i x hx).1,(k.row i x hx).2.1,by rw [p0H μ ea vs i hm'];exact (Rv.mem hs _ _).1 (k.row i x hx).2.2⟩⟩
   .rintro ⟨c1,c2,es,e,k⟩;exact ⟨c1,c2,es,e,k.size,k.kl,(g0w μ).1 k.vl,k.bl,k.nd,k.lt,fun i x hx=>⟨(k.row i x hx).1,(k.row i x hx).2.1,(Rv.mem hs _ _).2 (by have:=(k.row i x hx).2.2;rwa [p0H μ ea vs i hm'] at this)⟩⟩
  |iter h q bs ck sn=>
   constructor
   .rintro ⟨c1,c2,β',e1,e⟩;exact ⟨c1,c2,β',by rw [<-hs];exact e1,e⟩
   .rintro ⟨c1,c2,β',e1,e⟩;exact ⟨c1,c2,β',by rw [hs];exact e1,e⟩
  |niter=>exact Iff.rfl
  |siter s p=>exact Iff.rfl
  |bld0 T=>exact Iff.rfl
  |bld T h q n=>
   constructor
   .rintro ⟨c1,c2,β',e1,e⟩;exact ⟨c1,c2,β',by rw [<-hs];exact e1,e⟩
   .rintro ⟨c1,c2,β',e1,e⟩;exact ⟨c1,c2,β',by rw [hs];exact e1,e⟩
  |brow T s=>exact Iff.rfl
  |bag Q=>exact Iff.rfl
theorem p0J {μ:Nat->Nat} {g g':G} (hs:Sm μ g g') {β:Base} {ro:Bool} {b:Blk} {w:World} (hm:b.mok μ=true):BlkAt g β ro b w↔BlkAt g' β ro (b.mem μ) w:=by
 constructor
 .intro h;refine ⟨h.lt,by rw [h.es,Blk.mem_es],(Blk.mem_len μ b).2 h.len,fun i hi=>h.cap i ((Blk.mem_has μ b i).1 hi),?_,fun i j v hi=>h.one i j v ((Blk.mem_has μ b i).1 hi),h.rw,(p0I hs hm).1 h.obj⟩;intro i j sv hi hj;rw [Blk.mem_at μ b i j hm] at hj;cases hb:b.at i j with
  |none=>rw [hb] at hj;cases hj
  |some s=>
   rw [hb] at hj;simp only [c1m,Option.some.injEq] at hj;subst hj;obtain ⟨v,h1,h2⟩:=h.cell i j s ((Blk.mem_has μ b i).1 hi) hb;exact ⟨v,h1,(Rv.mem hs s v).1 h2⟩
 .intro h;refine ⟨h.lt,by rw [h.es,Blk.mem_es],(Blk.mem_len μ b).1 h.len,fun i hi=>h.cap i ((Blk.mem_has μ b i).2 hi),?_,fun i j v hi=>h.one i j v ((Blk.mem_has μ b i).2 hi),h.rw,(p0I hs hm).2 h.obj⟩;intro i j sv hi hj;obtain ⟨v,h1,h2⟩:=h.cell i j (SV.mem μ sv) ((Blk.mem_has μ b i).2 hi) (by rw [Blk.mem_at μ b i j hm,hj];rfl);exact ⟨v,h1,(Rv.mem hs sv v).2 h2⟩
theorem g1w {P:Program} {n:Nat} {f:FuncId} {args:List SV} {H H1:a0j} {post post1:SV->a0j->Nat->Prop} (μ:Nat->Nat) (h0:μ 0=0) (hn:∀h,n<=h->μ h=0)
  (hin:∀h q ro b,Ent H h q ro b->b.mok μ=true/\Ent H1 h (q+μ h) ro (b.mem μ))
  (hout:∀sv H' n',post sv H' n'->∃H1',post1 (sv.mem μ) H1' n'/\g0h H1'/\∀h q1 b1,Ent H1' h q1 false b1->(∃q b,q1=q+μ h/\b1=b.mem μ/\b.mok μ=true/\Ent H' h q false b)\/(h<n/\Ent H1 h q1 false b1/\∀q ro b,q1=q+μ h->¬Ent H h q ro b))
  (h:FC P n f args H post):FC P n f (SV.mems μ args) H1 post1:=by
 have key:∀(g':G) (w:World) (vals:List Value),g'.glob->g'.upto n->Holds g' H1 w->Rvs g' (SV.mems μ args) vals->
   ∃g:G,g.glob/\g.upto n/\Holds g H w/\Rvs g args vals/\∀v w',Out g w n H post v w'->Out g' w n H1 post1 v w':=by
  intro g' w vals hg hu hH hv;have hs:Sm μ (fun h q=>g' h (q+μ h)) g':=fun h q=>rfl
  refine ⟨fun h q=>g' h (q+μ h),fun q=>by dsimp only;rw [h0,w0G];exact hg q,fun h q hh=>hu h _ hh,⟨?_,?_⟩,(Rvs.mem hs args vals).2 hv,?_⟩
  .intro h q ro b he;obtain ⟨hm,h1⟩:=hin h q ro b he;obtain ⟨β,hb,hB⟩:=hH.blk _ _ _ _ h1;exact ⟨β,hb,(p0J hs hm).2 hB⟩
  .intro h q h' q' b ro' b' β β' hne he he' hb hb' hc hc';refine hH.sep h (q+μ h) h' (q'+μ h') _ ro' _ β β' (fun e=>hne ⟨e.1,?_⟩) (hin _ _ _ _ he).2 (hin _ _ _ _ he').2 hb hb' hc hc';have e1:=e.1;subst e1;omega
  .rintro v w' ⟨sv,H',n',g1,hp,hnn,hu',hk,hv',hH',hrw,hfr,hown⟩;obtain ⟨H1',p1,p2,p3⟩:=hout sv H' n' hp;have hkk:∀h q,h<n->g1 h q=g' h (q+μ h):=fun h q hh=>hk h q hh
   let g1':G:=fun h q=>if h<n then g' h q else g1 h q
   have hs1:Sm μ g1 g1':=by
    intro h q;by_cases hh:h<n
    .simp only [g1',hh,if_true];exact hkk h q hh
    .simp only [g1',hh,if_false];rw [hn h (by omega),w0G]
   have hle:G.le g' g1':=by
    intro h q β e;by_cases hh:h<n
    .simp only [g1',hh,if_true];exact e
    .rw [hu h q (by omega)] at e;cases e
   have hW:∀k,l0z (fun h q=>g' h (q+μ h)) H k->l0z g' H1 k:=by
    rintro k ⟨h,q,b,β,he,hb,hc,e⟩;exact ⟨h,q+μ h,_,β,(hin _ _ _ _ he).2,hb,hc,e⟩
   have apart:∀h q1 ro1 b1 β,Ent H1 h q1 ro1 b1->(∀q ro b,q1=q+μ h->¬Ent H h q ro b)->g' h q1=some β->0<β.cap->¬l0z (fun h q=>g' h (q+μ h)) H β.blk:=by
    rintro h q1 ro1 b1 β he hno hb hc ⟨h2,q2,b2,β2,he2,hb2,hc2,e2⟩;refine hH.sep h2 (q2+μ h2) h q1 _ ro1 b1 β2 β (fun e=> ?_) (hin _ _ _ _ he2).2 he hb2 hb hc2 hc e2;have e1:=e.1;subst e1;exact hno q2 _ b2 e.2.symm he2
   have cls:∀h q1 b1,Ent H1' h q1 false b1->(∃q b β,q1=q+μ h/\b1=b.mem μ/\b.mok μ=true/\Ent H' h q false b/\g1 h q=some β/\g1' h q1=some β/\BlkAt g1 β false b w')\/(∃β,h<n/\Ent H1 h q1 false b1/\g' h q1=some β/\g1' h q1=some β/\BlkAt g' β false b1 w/\(0<β.cap->¬l0z (fun h q=>g' h (q+μ h)) H β.blk)):=by
    intro h q1 b1 he;rcases p3 h q1 b1 he with ⟨q,b,e1,e2,e3,e4⟩|⟨e1,e2,e3⟩
    .obtain ⟨β,hb,hB⟩:=hH'.blk _ _ _ _ e4;exact .inl ⟨q,b,β,e1,e2,e3,e4,hb,by rw [e1,<-hs1];exact hb,hB⟩
    .obtain ⟨β,hb,hB⟩:=hH.blk _ _ _ _ e2;exact .inr ⟨β,e1,e2,hb,hle _ _ _ hb,hB,fun hc=>apart h q1 false b1 β e2 e3 hb hc⟩
   refine ⟨sv.mem μ,H1',n',g1',p1,hnn,?_,?_,(Rv.mem hs1 sv v).1 hv',⟨?_,?_⟩,p2,?_,?_⟩
   .intro h q hh;simp only [g1'];rw [if_neg (by omega)];exact hu' h q hh
   .intro h q hh;simp only [g1',hh,if_true]
   .intro h q1 ro b1 he;have:=p2 _ _ _ _ he;subst this;rcases cls h q1 b1 he with ⟨q,b,β,e1,e2,e3,e4,e5,e6,e7⟩|⟨β,e1,e2,e3,e4,e5,e6⟩
    .exact ⟨β,e6,by rw [e2];exact (p0J hs1 e3).1 e7⟩
    .exact ⟨β,e4,b0h e5 hle hfr.size (fun hc=>hfr.block _ (e5.lt hc) (e6 hc))⟩
   .intro h q h' q' b ro' b' β β' hne he he' hb hb' hc hc';have:=p2 _ _ _ _ he';subst this;rcases cls h q b he with ⟨q0,b0,β0,e1,e2,e3,e4,e5,e6,e7⟩|⟨β0,e1,e2,e3,e4,e5,e6⟩
    .rw [hb] at e6;cases e6;rcases cls h' q' b' he' with ⟨q2,b2,β2,k1,k2,k3,k4,k5,k6,k7⟩|⟨β2,k1,k2,k3,k4,k5,k6⟩
     .rw [hb'] at k6;cases k6;refine hH'.sep h q0 h' q2 b0 false b2 β β' (fun e=>hne ⟨e.1,?_⟩) e4 k4 e5 k5 hc hc';rw [e1,k1,e.2,e.1]
     .rw [hb'] at k4;cases k4;rcases hown h q0 b0 β e4 e5 hc with ho|ho
      .intro e;rw [e] at ho;exact k6 hc' ho
      .have:=k5.lt hc';omega
    .rw [hb] at e4;cases e4;rcases cls h' q' b' he' with ⟨q2,b2,β2,k1,k2,k3,k4,k5,k6,k7⟩|⟨β2,k1,k2,k3,k4,k5,k6⟩
     .rw [hb'] at k6;cases k6;rcases hown h' q2 b2 β' k4 k5 hc' with ho|ho
      .intro e;rw [<-e] at ho;exact e6 hc ho
      .have:=e5.lt hc;omega
     .rw [hb'] at k4;cases k4;exact hH.sep h q h' q' b false b' β β' hne e2 k2 e3 k3 hc hc'
   .exact ⟨hfr.os,hfr.tape,hfr.output,hfr.size,fun k hk1 hk2=>hfr.block k hk1 (fun hq=>hk2 (hW k hq))⟩
   .intro h q b β he hb hc;rcases cls h q b he with ⟨q0,b0,β0,e1,e2,e3,e4,e5,e6,e7⟩|⟨β0,e1,e2,e3,e4,e5,e6⟩
    .rw [hb] at e6;cases e6;rcases hown h q0 b0 β e4 e5 hc with ho|ho
     .exact .inl (hW _ ho)
     .exact .inr ho
    .rw [hb] at e4;cases e4;exact .inl ⟨h,q,b,β,e2,e3,hc,rfl⟩
 rcases h with ⟨hb,h⟩|h
 .refine .inl ⟨hb,fun g w vals h1 h2 h3 h4=> ?_⟩;obtain ⟨g1,k1,k2,k3,k4,k5⟩:=key g w vals h1 h2 h3 h4;refine (h g1 w vals k1 k2 k3 k4).mono ?_;rintro e w' ⟨v,rfl,ho⟩;exact ⟨v,rfl,k5 v w' ho⟩
 .refine .inr (fun g w vals h1 h2 h3 h4=> ?_);obtain ⟨g1,k1,k2,k3,k4,k5⟩:=key g w vals h1 h2 h3 h4;obtain ⟨v,w',hr,ho⟩:=h g1 w vals k1 k2 k3 k4;exact ⟨v,w',hr,k5 v w' ho⟩
structure FamAt where
 q:Nat
 dom:Nat->Prop
 f:Nat->Blk
abbrev v0e:=List (Nat×FamAt)
def fmu (L:v0e) (h:Nat):Nat:=match a0B L h with|some a=>a.q|none=>0
def l0r (L:v0e) (h:Nat):HB->HB
 | .one ro b=>match a0B L h with|some a=> .fam ro a.dom a.f|none=> .one ro (b.mem (fmu L))
 | .fam ro dom f=> .fam ro dom (fun x=>(f x).mem (fmu L))
def a1P (L:v0e):a0j->a0j
 | []=> []
 |(h,some hb)::r=>(h,some (l0r L h hb))::a1P L r
 |(h,none)::r=>(h,none)::a1P L r
def r0t (L:v0e) (h:Nat):HB->HB
 | .one ro b=>match a0B L h with|some a=> .fam ro a.dom (fun x=>if x=a.q then b.mem (fmu L) else a.f x)|none=> .one ro (b.mem (fmu L))
 | .fam ro dom f=> .fam ro dom (fun x=>(f x).mem (fmu L))
def k0E (L:v0e):a0j->a0j
 | []=> []
 |(h,some hb)::r=>(h,some (r0t L h hb))::k0E L r
 |(h,none)::r=>(h,none)::k0E L r
def t0d (L:v0e) (H H':a0j) (n:Nat):v0e->Prop
 | []=>True
 |(h,a)::r=>(0<h/\h<n/\∃ro b,a0s H h=some (.one ro b)/\a.dom a.q/\a.f a.q=b.mem (fmu L)/\(a0s H' h=none\/(ro=false/\∃b1,a0s H' h=some (.one false b1))))/\t0d L H H' n r
def HB.mok (μ:Nat->Nat):HB->Prop
 | .one _ b=>b.mok μ=true
 | .fam _ dom f=>∀q,dom q->(f q).mok μ=true
def g0x (μ:Nat->Nat):a0j->Prop
 | []=>True
 |(_,some hb)::r=>hb.mok μ/\g0x μ r
 |(_,none)::r=>g0x μ r
theorem e0p (L:v0e) (h:Nat):∀H:a0j,a0s (a1P L H) h=(a0s H h).map (l0r L h)
 | []=>rfl
 |(k,some hb)::r=>by
  simp only [a1P,a0M];by_cases e:k=h
  .rw [if_pos e,if_pos e,e];rfl
  .rw [if_neg e,if_neg e];exact e0p L h r
 |(k,none)::r=>by
  simp only [a1P,a0M];by_cases e:k=h
  .rw [if_pos e,if_pos e];rfl
  .rw [if_neg e,if_neg e];exact e0p L h r
theorem e0H (L:v0e) (h:Nat):∀H:a0j,a0s (k0E L H) h=(a0s H h).map (r0t L h)
 | []=>rfl
 |(k,some hb)::r=>by
  simp only [k0E,a0M];by_cases e:k=h
  .rw [if_pos e,if_pos e,e];rfl
  .rw [if_neg e,if_neg e];exact e0H L h r
 |(k,none)::r=>by
  simp only [k0E,a0M];by_cases e:k=h
  .rw [if_pos e,if_pos e];rfl
  .rw [if_neg e,if_neg e];exact e0H L h r
theorem e0I {μ:Nat->Nat} {h:Nat} {hb:HB}:∀{H:a0j},g0x μ H->a0s H h=some hb->hb.mok μ
 | [],_,e=>by cases e
 |(k,some x)::r,hm,e=>by
  simp only [g0x] at hm;rw [a0M] at e;split at e
  .cases e;exact hm.1
  .exact e0I hm.2 e
 |(k,none)::r,hm,e=>by
  simp only [g0x] at hm;rw [a0M] at e;split at e
  .cases e
  .exact e0I hm e
theorem c0y {L0:v0e} {H H':a0j} {n h:Nat} {a:FamAt}:∀{L:v0e},t0d L0 H H' n L->a0B L h=some a->0<h/\h<n/\∃ro b,a0s H h=some (.one ro b)/\a.dom a.q/\a.f a.q=b.mem (fmu L0)/\(a0s H' h=none\/(ro=false/\∃b1,a0s H' h=some (.one false b1)))
 | [],_,e=>by cases e
 |(k,x)::r,hm,e=>by
  simp only [t0d] at hm;rw [b0E] at e;split at e
  .rename_i q;subst q;cases e;exact hm.1
  .exact c0y hm.2 e
theorem f0r {P:Program} {n:Nat} {f:FuncId} {args:List SV} {H H':a0j} {r:SV} {n':Nat} (L:v0e) (hL:t0d L H H' n L) (hm:g0x (fmu L) H) (hm':g0x (fmu L) H') (hrw:g0h H') (h:FC P n f args H (a0h r H' n')):
  FC P n f (SV.mems (fmu L) args) (a1P L H) (a0h (r.mem (fmu L)) (k0E L H') n'):=by
 have hno:∀{x:Nat},a0B L x=none->fmu L x=0:=fun {x} e=>by unfold fmu;rw [e]
 have hyes:∀{x:Nat} {a:FamAt},a0B L x=some a->fmu L x=a.q:=fun {x a} e=>by unfold fmu;rw [e]
 refine g1w (fmu L) ?_ ?_ ?_ ?_ h
 .cases e:a0B L 0 with
  |none=>exact hno e
  |some a=>exact absurd (c0y hL e).1 (k1r _)
 .intro x hx;cases e:a0B L x with
  |none=>exact hno e
  |some a=>have:=(c0y hL e).2.1;omega
 .rintro x q ro b ⟨hb,e1,e2,e3⟩;have hmo:=e0I hm e1;cases hb with
  |one r0 b0=>
   simp only [HB.is] at e2;obtain ⟨rfl,rfl⟩:=e2;refine ⟨hmo,?_⟩;cases e:a0B L x with
   |none=>
    rw [hno e];refine ⟨.one r0 (b.mem (fmu L)),?_,⟨rfl,rfl⟩,e3⟩;rw [e0p,e1];simp only [c1m,l0r,e]
   |some a=>
    obtain ⟨_,_,ro1,b1,k1,k2,k3,_⟩:=c0y hL e;rw [e1] at k1;cases k1;rw [hyes e,z0z];refine ⟨.fam r0 a.dom a.f,?_,⟨k2,k3.symm⟩,e3⟩;rw [e0p,e1];simp only [c1m,l0r,e]
  |fam r0 dom F=>
   simp only [HB.is] at e2;obtain ⟨h1,rfl⟩:=e2;refine ⟨hmo q h1,?_⟩;cases e:a0B L x with
   |none=>
    rw [hno e];refine ⟨.fam r0 dom (fun y=>(F y).mem (fmu L)),?_,⟨h1,rfl⟩,e3⟩;rw [e0p,e1];simp only [c1m,l0r]
   |some a=>
    obtain ⟨_,_,ro1,b1,k1,_⟩:=c0y hL e;rw [e1] at k1;cases k1
 .rintro sv Hx nx ⟨rfl,rfl,rfl⟩;refine ⟨k0E L Hx,⟨rfl,rfl,rfl⟩,?_,?_⟩
  .rintro x q ro b ⟨hb,e1,e2,e3⟩;rw [e0H] at e1;cases e:a0s Hx x with
   |none=>rw [e] at e1;cases e1
   |some hb0=>
    rw [e] at e1;simp only [c1m,Option.some.injEq] at e1;subst e1;cases hb0 with
    |one r0 b0=>
     have:=hrw x 0 r0 b0 ⟨_,e,⟨rfl,rfl⟩,rfl⟩;subst this;rw [<-e3];simp only [r0t];split<;>rfl
    |fam r0 dom F=>
     simp only [r0t,HB.is] at e2;have:=hrw x q r0 (F q) ⟨_,e,⟨e2.1,rfl⟩,rfl⟩;subst this;rw [<-e3];rfl
  .rintro x q1 b1 ⟨hb,e1,e2,e3⟩;rw [e0H] at e1;cases e:a0s Hx x with
   |none=>rw [e] at e1;cases e1
   |some hb0=>
    rw [e] at e1;simp only [c1m,Option.some.injEq] at e1;subst e1;have hmo:=e0I hm' e;cases hb0 with
    |one r0 b0=>
     have:=hrw x 0 r0 b0 ⟨_,e,⟨rfl,rfl⟩,rfl⟩;subst this;cases ea:a0B L x with
     |none=>
      simp only [r0t,ea,HB.is] at e2;exact .inl ⟨0,b0,by rw [hno ea];exact e2.1,e2.2,hmo,⟨_,e,⟨rfl,rfl⟩,rfl⟩⟩
     |some a=>
      simp only [r0t,ea,HB.is] at e2;obtain ⟨hx0,hxn,ro1,bb,k1,k2,k3,k4⟩:=c0y hL ea;have hro:ro1=false:=by
       rcases k4 with k4|k4
       .rw [e] at k4;cases k4
       .exact k4.1
      subst hro;by_cases hq:q1=a.q
      .refine .inl ⟨0,b0,by rw [hyes ea,z0z];exact hq,?_,hmo,⟨_,e,⟨rfl,rfl⟩,rfl⟩⟩;rw [e2.2,if_pos hq]
      .refine .inr ⟨hxn,⟨.fam false a.dom a.f,?_,⟨e2.1,?_⟩,rfl⟩,?_⟩
       .rw [e0p,k1];simp only [c1m,l0r,ea]
       .rw [e2.2,if_neg hq]
       .rintro q ro b hqe ⟨hb2,f1,f2,_⟩;rw [k1] at f1;cases f1;simp only [HB.is] at f2;rw [hyes ea,f2.1,z0z] at hqe;exact hq hqe
    |fam r0 dom F=>
     simp only [r0t,HB.is] at e2;have:=hrw x q1 r0 (F q1) ⟨_,e,⟨e2.1,rfl⟩,rfl⟩;subst this;cases ea:a0B L x with
     |none=>exact .inl ⟨q1,F q1,by rw [hno ea];rfl,e2.2,hmo q1 e2.1,⟨_,e,⟨e2.1,rfl⟩,rfl⟩⟩
     |some a=>
      obtain ⟨_,_,ro1,bb,_,_,_,k4⟩:=c0y hL ea;rcases k4 with k4|⟨_,b2,k4⟩
      .rw [e] at k4;cases k4
      .rw [e] at k4;cases k4
end Go.Sy
namespace Go.Sy
open Go.RowKit
theorem c0U {n:Nat} {R:Nat->Nat->Option (Nat×Nat)} {h q h' q' i j:Nat} (hn:n<=h') (e:R h' q'=some (h,q)):SLe n R (.ptr h q i j) (.ptr h' q' i j):=by
 intro g g1 v hle hR hv;simp only [Rv] at hv⊢;obtain ⟨β,e1,e2⟩:=hv;exact ⟨β,hR h' q' _ hn e β e1,e2⟩
theorem r0u {n:Nat} {R:Nat->Nat->Option (Nat×Nat)} {h q h' q':Nat} (hn:n<=h') (e:R h' q'=some (h,q)):SLe n R (.map h q) (.map h' q'):=by
 intro g g1 v hle hR hv;simp only [Rv] at hv⊢;obtain ⟨β,e1,e2⟩:=hv;exact ⟨β,hR h' q' _ hn e β e1,e2⟩
def i1o (n:Nat) (R:Nat->Nat->Option (Nat×Nat)):List SV->List SV->Prop
 | [],[]=>True
 |a::l,b::m=>SLe n R a b/\i1o n R l m
 |_,_=>False
theorem r0v {n:Nat} {R:Nat->Nat->Option (Nat×Nat)}:∀{l m:List SV},i1o n R l m->m.length=l.length/\∀j b,nth m j=some b->∃a,nth l j=some a/\SLe n R a b
 | [],[],_=>⟨rfl,fun j b h=>by simp [nth] at h⟩
 |a::l,b::m,h=>by
  obtain ⟨h1,h2⟩:=r0v h.2;refine ⟨by rw [d1G,d1G,h1],fun j c hc=> ?_⟩;cases j with
  |zero=>simp only [nth,Option.some.injEq] at hc;subst hc;exact ⟨a,rfl,h.1⟩
  |succ j=>simp only [nth] at hc⊢;exact h2 j c hc
 | [],_::_,h=>h.elim
 |_::_,[],h=>h.elim
theorem b0k {n:Nat} {R:Nat->Nat->Option (Nat×Nat)} {l m:List SV} (h:i1o n R l m):BLe n R (.cells l) (.cells m):= .inr ⟨(r0v h).1,(r0v h).2⟩
theorem n0L {n:Nat} {R:Nat->Nat->Option (Nat×Nat)} {ka:Bool} {m:Nat} {ks:List Col} {c c':BCol} {bs:List Nat} {ck:Nat} (hl:c'.len=m) (h:∀i,i<m->SLe n R (c.at i) (c'.at i)):BLe n R (.obj (.map ka false m ks [c] bs ck)) (.obj (.map ka false m ks [c'] bs ck)):=
 .inr ⟨rfl,rfl,rfl,rfl,rfl,rfl,fun _ c2 h2=>by rw [a1A] at h2;subst h2;exact hl,fun i hi=>h i hi⟩
def i1p (n:Nat) (R:Nat->Nat->Option (Nat×Nat)) (m:Nat):List BCol->List BCol->Prop
 | [],[]=>True
 |c::l,d::r=>((c.len=m->d.len=m)/\∀i,i<m->SLe n R (c.at i) (d.at i))/\i1p n R m l r
 |_,_=>False
theorem n0M {n m:Nat} {R:Nat->Nat->Option (Nat×Nat)}:∀{l r:List BCol},i1p n R m l r->r.length=l.length/\((∀c∈l,c.len=m)->∀c∈r,c.len=m)/\∀i j d,i<m->nth r j=some d->∃c,nth l j=some c/\SLe n R (c.at i) (d.at i)
 | [],[],_=>⟨rfl,fun _ c h=>(by cases h),fun i j d _ h=>by simp [nth] at h⟩
 |a::l,b::r,h=>by
  obtain ⟨h1,h2,h3⟩:=n0M h.2;refine ⟨by rw [d1G,d1G,h1],fun hl c hc=> ?_,fun i j d hi hd=> ?_⟩
  .rcases a1q.1 hc with rfl|hc
   .exact h.1.1 (hl a (l1f))
   .exact h2 (fun c hc=>hl c (k1K _ hc)) c hc
  .cases j with
   |zero=>simp only [nth,Option.some.injEq] at hd;subst hd;exact ⟨a,rfl,h.1.2 i hi⟩
   |succ j=>simp only [nth] at hd⊢;exact h3 i j d hi hd
 | [],_::_,h=>h.elim
 |_::_,[],h=>h.elim
theorem j0k {n m:Nat} {R:Nat->Nat->Option (Nat×Nat)} {l r:List BCol} (h:i1p n R m l r):BLe n R (.cols m l) (.cols m r):=
 .inr ⟨n0q _,(n0M h).1,(n0M h).2.1,(n0M h).2.2⟩
theorem t0e {n m h nb h':Nat} {R:Nat->Nat->Option (Nat×Nat)} (hn:n<=h') (h1:∀q,q<m->R h' q=some (h,q)) (h2:R h' m=some (nb,0)):∀i,i<m+1->SLe n R ((BCol.svs (e0d h m++ [.ptr nb 0 0 0])).at i) ((BCol.ptrs h' (m+1)).at i):=by
 intro i hi;by_cases e:i<m
 .have e1:(BCol.svs (e0d h m++ [.ptr nb 0 0 0])).at i= .ptr h i 0 0:=by
   show (e0d h m++ [SV.ptr nb 0 0 0]).getD i .unk=_;rw [List.getD,c1u (by rw [b0r];exact e)];exact e0x e
  rw [e1];exact c0U hn (h1 i e)
 .have ei:i=m:=by omega
  subst ei;have e1:(BCol.svs (e0d h i++ [.ptr nb 0 0 0])).at i= .ptr nb 0 0 0:=by
   show (e0d h i++ [SV.ptr nb 0 0 0]).getD i .unk=_;rw [List.getD,c1l (by rw [b0r];exact n0q _),b0r,j1k];rfl
  rw [e1];exact c0U hn h2
theorem a1Q {h m i:Nat} (hi:i<m):(e0d h m).set i (.ptr h i 0 0)=e0d h m:=by
 refine k1M fun j=> ?_
 rw [j1H];split
 .rename_i e;subst e;simp [e0d,hi]
 .rfl
theorem a1R {h m i:Nat} (hi:i<m):a0Z i (.ptr h i 0 0) (e0d h m)=e0d h m:=by
 unfold a0Z;rw [if_pos (by rw [b0r];exact hi)];exact a1Q hi
theorem a1S {h m:Nat} {v:SV}:a0Z m v (e0d h m)=e0d h m++ [v]:=by
 unfold a0Z;rw [if_neg (by rw [b0r];omega)]
structure GD where
 old:Nat
 nw:Nat
 f:Nat->Blk
def gdR (n m:Nat) (D:List GD) (h q:Nat):Option (Nat×Nat):=if n<=h/\q<=m then (match nth D (h-n) with|some d=>if q<m then some (d.old,q) else some (d.nw,0)|none=>none) else none
def gdN (n m:Nat):Nat->List GD->a0j
 |_,[]=> []
 |i,d::r=>(n+i,some (.fam false (fun x=>x<m) d.f))::gdN n m (i+1) r
def gdr:List GD->List Nat
 | []=> []
 |d::r=>d.old::d.nw::gdr r
theorem n0N:∀{D:List GD} {i:Nat} {d:GD},nth D i=some d->d.old∈gdr D/\d.nw∈gdr D
 | [],i,d,h=>by simp [nth] at h
 |x::D,0,d,h=>by simp only [nth,Option.some.injEq] at h;subst h;simp [gdr]
 |x::D,i+1,d,h=>by
  have:=n0N (D:=D) (i:=i) h;simp [gdr,this]
theorem r0w {n m:Nat}:∀{D:List GD} {i h q:Nat} {ro:Bool} {b:Blk},Ent (gdN n m i D) h q ro b->∃j d,h=n+(i+j)/\nth D j=some d/\q<m/\ro=false/\b=d.f q
 | [],i,h,q,ro,b,he=>(k0m he).elim
 |x::D,i,h,q,ro,b,he=>by
  simp only [gdN] at he;rcases a0t.1 he with ⟨rfl,hb2,e1,e2,e3⟩|⟨_,he⟩
  .cases e1;exact ⟨0,x,by omega,rfl,e2.1,e3.symm,e2.2⟩
  .obtain ⟨j,d,h1,h2,h3⟩:=r0w he;exact ⟨j+1,d,by omega,h2,h3⟩
theorem t0f {n m:Nat}:∀{D:List GD} {i x:Nat},x∈a0n (gdN n m i D)->n<=x
 | [],i,x,h=>by simp [gdN,a0n] at h
 |d::D,i,x,h=>by
  simp only [gdN,a0n,a1q] at h;rcases h with h|h
  .omega
  .exact t0f h
theorem t0g {α:Type}:∀{l:List α} {i:Nat} {x:α},nth l i=some x->i<l.length
 | [],i,x,h=>by simp [nth] at h
 |y::l,0,x,h=>by simp
 |y::l,i+1,x,h=>by have:=t0g (l:=l) (i:=i) h;simp;exact this
theorem h0s {n m:Nat} {D:List GD} {h q:Nat} {p:Nat×Nat} (e:gdR n m D h q=some p):n<=h/\q<=m/\∃d,nth D (h-n)=some d/\((q<m/\p=(d.old,q))\/(q=m/\p=(d.nw,0))):=by
 unfold gdR at e;split at e
 .rename_i c;split at e
  .rename_i d hd;refine ⟨c.1,c.2,d,hd,?_⟩;split at e
   .rename_i w;simp only [Option.some.injEq] at e;exact .inl ⟨w,e.symm⟩
   .rename_i w;simp only [Option.some.injEq] at e;exact .inr ⟨by omega,e.symm⟩
  .cases e
 .cases e
theorem g0y {n m i q:Nat} {D:List GD} {d:GD} (hd:nth D i=some d) (hq:q<m):gdR n m D (n+i) q=some (d.old,q):=by
 unfold gdR;rw [if_pos ⟨by omega,by omega⟩,l1F,hd];exact if_pos hq
theorem f0s {n m i:Nat} {D:List GD} {d:GD} (hd:nth D i=some d):gdR n m D (n+i) m=some (d.nw,0):=by
 unfold gdR;rw [if_pos ⟨by omega,by omega⟩,l1F,hd];exact if_neg (k1r _)
def i1q (H:a0j) (n m th:Nat) (R:Nat->Nat->Option (Nat×Nat)):List GD->Prop
 | []=>True
 |d::r=>(d.old≠th/\d.nw≠th/\(∃dom f,a0s H d.old=some (.fam false dom f)/\(∀q,q<m->dom q/\BLe n R (f q) (d.f q)))/\∃b,a0s H d.nw=some (.one false b)/\BLe n R b (d.f m))/\i1q H n m th R r
theorem r0x {H:a0j} {n m th:Nat} {R:Nat->Nat->Option (Nat×Nat)}:∀{D:List GD} {i:Nat} {d:GD},i1q H n m th R D->nth D i=some d->d.old≠th/\d.nw≠th/\(∃dom f,a0s H d.old=some (.fam false dom f)/\(∀q,q<m->dom q/\BLe n R (f q) (d.f q)))/\∃b,a0s H d.nw=some (.one false b)/\BLe n R b (d.f m)
 | [],i,d,_,e=>by simp [nth] at e
 |x::D,0,d,h,e=>by simp only [nth,Option.some.injEq] at e;subst e;exact h.1
 |x::D,i+1,d,h,e=>r0x (D:=D) (i:=i) h.2 e
def x0i (D:List GD):Bool:=j0E (gdr D)
theorem t0h:∀{l:List Nat} {x:Nat},v0T l x=true↔x∈l
 | [],x=>by simp [v0T]
 |y::l,x=>by
  simp only [v0T,j1E,t0h (l:=l),a1q];constructor
  .rintro (h|h)
   .exact .inl (l0q h).symm
   .exact .inr h
  .rintro (h|h)
   .subst h;exact .inl (by simp)
   .exact .inr h
theorem n0O:∀{l:List Nat},j0E l=true->l.Nodup
 | [],_=>k1I
 |x::l,h=>by
  simp only [j0E,k0o,d1I] at h;exact k1P.2 ⟨fun q=>(by have:=t0h.2 q;rw [h.1] at this;cases this),n0O h.2⟩
theorem x0j:∀{D:List GD},(gdr D).Nodup->∀{i j:Nat} {d e:GD},nth D i=some d->nth D j=some e->(d.old=e.old->i=j)/\(d.nw=e.nw->i=j)/\d.old≠e.nw
 | [],_,i,j,d,e,h,_=>by simp [nth] at h
 |x::D,hn,i,j,d,e,h1,h2=>by
  simp only [gdr] at hn;obtain ⟨n1,n2⟩:=k1P.1 hn;obtain ⟨n3,n4⟩:=k1P.1 n2;cases i with
  |zero=>
   simp only [nth,Option.some.injEq] at h1;subst h1;cases j with
   |zero=>
    simp only [nth,Option.some.injEq] at h2;subst h2;exact ⟨fun _=>rfl,fun _=>rfl,fun q=>n1 (by rw [q];simp)⟩
   |succ j=>
    have m:=n0N (D:=D) (i:=j) h2;refine ⟨fun q=>absurd (k1K _ (by rw [q];exact m.1)) n1,fun q=>absurd (by rw [q];exact m.2) n3,fun q=>n1 (k1K _ (by rw [q];exact m.2))⟩
  |succ i=>
   have m:=n0N (D:=D) (i:=i) h1;cases j with
   |zero=>
    simp only [nth,Option.some.injEq] at h2;subst h2;refine ⟨fun q=>absurd (k1K _ (by rw [<-q];exact m.1)) n1,fun q=>absurd (by rw [<-q];exact m.2) n3,fun q=>n3 (by rw [<-q];exact m.1)⟩
   |succ j=>
    obtain ⟨a,b,c⟩:=x0j (D:=D) n4 (i:=i) (j:=j) h1 h2;exact ⟨fun q=>by rw [a q],fun q=>by rw [b q],c⟩
theorem m0r {H:a0j} {n m th:Nat} {tb0 tb:Blk} (D:List GD) (hth:th<n) (ht:a0s H th=some (.one false tb0)) (hle:BLe n (gdR n m D) tb0 tb) (hD:i1q H n m th (gdR n m D) D) (hdist:x0i D=true):
  Relab H n (gdR n m D) (fun _=>0) ((th,some (.one false tb))::gdN n (m+1) 0 D) (gdr D) D.length:=by
 have hnd:=n0O hdist;have key:∀{h q:Nat} {ro:Bool} {b:Blk},Ent ((th,some (HB.one false tb))::gdN n (m+1) 0 D) h q ro b->(h=th/\q=0/\ro=false/\b=tb)\/∃j d,h=n+j/\nth D j=some d/\q<m+1/\ro=false/\b=d.f q:=by
  intro h q ro b he;rcases a0t.1 he with ⟨rfl,hb2,e1,e2,e3⟩|⟨_,he⟩
  .cases e1;exact .inl ⟨rfl,e2.1,e3.symm,e2.2⟩
  .obtain ⟨j,d,h1,h2⟩:=r0w he;exact .inr ⟨j,d,by omega,h2⟩
 refine ⟨?_,?_,?_,?_,?_⟩
 .intro h q p h1 h2;obtain ⟨_,_,d,h3,_⟩:=h0s h2;have:=t0g h3;omega
 .intro h q ro b he;rcases key he with ⟨_,_,e,_⟩|⟨_,_,_,_,_,e,_⟩<;>exact e
 .intro h q b' he;rcases key he with ⟨rfl,rfl,_,rfl⟩|⟨j,d,rfl,hd,hq,_,rfl⟩
  .exact .inl ⟨h,0,tb0,.inl ⟨hth,rfl,rfl⟩,⟨_,ht,⟨rfl,rfl⟩,rfl⟩,hle⟩
  .obtain ⟨_,_,⟨dom,f,g1,g2⟩,b,g3,g4⟩:=r0x hD hd;by_cases e:q<m
   .exact .inl ⟨d.old,q,f q,.inr ⟨by omega,g0y hd e⟩,⟨_,g1,⟨(g2 q e).1,rfl⟩,rfl⟩,(g2 q e).2⟩
   .have eq:q=m:=by omega
    subst eq;exact .inl ⟨d.nw,0,b,.inr ⟨by omega,f0s hd⟩,⟨_,g3,⟨rfl,rfl⟩,rfl⟩,g4⟩
 .intro h q p h1 h2;obtain ⟨_,_,d,h3,h4⟩:=h0s h2;have:=n0N h3;rcases h4 with ⟨_,rfl⟩|⟨_,rfl⟩
  .exact this.1
  .exact this.2
 .intro h q h' q' h0 q0 hk hk' h1 h2;have kk:∀{x:Nat},x∈a0n ((th,some (HB.one false tb))::gdN n (m+1) 0 D)->x=th\/n<=x:=by
   intro x hx;simp only [a0n,a1q] at hx;rcases hx with hx|hx
   .exact .inl hx
   .exact .inr (t0f hx)
  have no:∀{x y:Nat},n<=x->gdR n m D x y=some (h0,q0)->h0≠th:=by
   intro x y hx e;obtain ⟨_,_,d,h3,h4⟩:=h0s e;obtain ⟨g1,g2,_⟩:=r0x hD h3;rcases h4 with ⟨_,h4⟩|⟨_,h4⟩
   .cases h4;exact g1
   .cases h4;exact g2
  rcases h1 with ⟨a1,rfl,rfl⟩|⟨a1,a2⟩
  .rcases h2 with ⟨b1,e1,e2⟩|⟨b1,b2⟩
   .exact ⟨e1,e2⟩
   .exfalso;have e:h0=th:=by rcases kk hk with e|e<;>omega
    exact no b1 b2 e
  .rcases h2 with ⟨b1,rfl,rfl⟩|⟨b1,b2⟩
   .exfalso;have e:h0=th:=by rcases kk hk' with e|e<;>omega
    exact no a1 a2 e
   .obtain ⟨_,_,d,h3,h4⟩:=h0s a2;obtain ⟨_,_,d',h3',h4'⟩:=h0s b2;obtain ⟨i1,i2,i3⟩:=x0j hnd h3 h3';obtain ⟨_,_,i4⟩:=x0j hnd h3' h3;rcases h4 with ⟨w,h4⟩|⟨w,h4⟩<;>rcases h4' with ⟨w',h4'⟩|⟨w',h4'⟩
    .cases h4;simp only [Prod.mk.injEq] at h4';have:=i1 h4'.1;exact ⟨by omega,h4'.2⟩
    .cases h4;simp only [Prod.mk.injEq] at h4';exact absurd h4'.1 i3
    .cases h4;simp only [Prod.mk.injEq] at h4';exact absurd h4'.1.symm i4
    .cases h4;simp only [Prod.mk.injEq] at h4';have:=i2 h4'.1;exact ⟨by omega,by omega⟩
theorem m0s {H:a0j} {n th:Nat} {tb0 tb:Blk} (D:List GD) (hth:th<n) (ht:a0s H th=some (.one false tb0)) (hle:BLe n (fun _ _=>none) tb0 tb):
  Relab H n (fun _ _=>none) (fun _=>0) ((th,some (.one false tb))::gdN n 0 0 D) [] D.length:=by
 have key:∀{h q:Nat} {ro:Bool} {b:Blk},Ent ((th,some (HB.one false tb))::gdN n 0 0 D) h q ro b->h=th/\q=0/\ro=false/\b=tb:=by
  intro h q ro b he;rcases a0t.1 he with ⟨rfl,hb2,e1,e2,e3⟩|⟨_,he⟩
  .cases e1;exact ⟨rfl,e2.1,e3.symm,e2.2⟩
  .obtain ⟨j,d,h1,h2,h3,_⟩:=r0w he;omega
 refine ⟨fun h q p _ e=>(by cases e),fun h q ro b he=>(key he).2.2.1,?_,fun h q p _ e=>(by cases e),?_⟩
 .intro h q b' he;obtain ⟨rfl,rfl,_,rfl⟩:=key he;exact .inl ⟨h,0,tb0,.inl ⟨hth,rfl,rfl⟩,⟨_,ht,⟨rfl,rfl⟩,rfl⟩,hle⟩
 .intro h q h' q' h0 q0 _ _ h1 h2;rcases h1 with ⟨_,rfl,rfl⟩|⟨_,e⟩
  .rcases h2 with ⟨_,e1,e2⟩|⟨_,e⟩
   .exact ⟨e1,e2⟩
   .cases e
  .cases e
end Go.Sy
namespace Go.Sy
open Go.RowKit
structure RD where
 old:Nat
 f:Nat->Blk
def rdR (n m:Nat) (D:List RD) (h q:Nat):Option (Nat×Nat):=if n<=h/\q<m then (match nth D (h-n) with|some d=>some (d.old,q)|none=>none) else none
def rdN (n m:Nat):Nat->List RD->a0j
 |_,[]=> []
 |i,d::r=>(n+i,some (.fam false (fun x=>x<m) d.f))::rdN n m (i+1) r
def rdr:List RD->List Nat
 | []=> []
 |d::r=>d.old::rdr r
theorem n0P:∀{D:List RD} {i:Nat} {d:RD},nth D i=some d->d.old∈rdr D
 | [],i,d,h=>by simp [nth] at h
 |x::D,0,d,h=>by simp only [nth,Option.some.injEq] at h;subst h;simp [rdr]
 |x::D,i+1,d,h=>by
  have:=n0P (D:=D) (i:=i) h;simp [rdr,this]
theorem x0k {n m:Nat}:∀{D:List RD} {i h q:Nat} {ro:Bool} {b:Blk},Ent (rdN n m i D) h q ro b->∃j d,h=n+(i+j)/\nth D j=some d/\q<m/\ro=false/\b=d.f q
 | [],i,h,q,ro,b,he=>(k0m he).elim
 |x::D,i,h,q,ro,b,he=>by
  simp only [rdN] at he;rcases a0t.1 he with ⟨rfl,hb2,e1,e2,e3⟩|⟨_,he⟩
  .cases e1;exact ⟨0,x,by omega,rfl,e2.1,e3.symm,e2.2⟩
  .obtain ⟨j,d,h1,h2,h3⟩:=x0k he;exact ⟨j+1,d,by omega,h2,h3⟩
theorem t0i {n m:Nat}:∀{D:List RD} {i x:Nat},x∈a0n (rdN n m i D)->n<=x
 | [],i,x,h=>by simp [rdN,a0n] at h
 |d::D,i,x,h=>by
  simp only [rdN,a0n,a1q] at h;rcases h with h|h
  .omega
  .exact t0i h
theorem h0u {n m:Nat} {D:List RD} {h q:Nat} {p:Nat×Nat} (e:rdR n m D h q=some p):n<=h/\q<m/\∃d,nth D (h-n)=some d/\p=(d.old,q):=by
 unfold rdR at e;split at e
 .rename_i c;split at e
  .rename_i d hd;simp only [Option.some.injEq] at e;exact ⟨c.1,c.2,d,hd,e.symm⟩
  .cases e
 .cases e
theorem i0M {n m i q:Nat} {D:List RD} {d:RD} (hd:nth D i=some d) (hq:q<m):rdR n m D (n+i) q=some (d.old,q):=by
 unfold rdR;rw [if_pos ⟨by omega,hq⟩,l1F,hd]
def i1r (H:a0j) (n m th:Nat) (R:Nat->Nat->Option (Nat×Nat)):List RD->Prop
 | []=>True
 |d::r=>(d.old≠th/\∃dom f,a0s H d.old=some (.fam false dom f)/\(∀q,q<m->dom q/\BLe n R (f q) (d.f q)))/\i1r H n m th R r
theorem r0y {H:a0j} {n m th:Nat} {R:Nat->Nat->Option (Nat×Nat)}:∀{D:List RD} {i:Nat} {d:RD},i1r H n m th R D->nth D i=some d->d.old≠th/\∃dom f,a0s H d.old=some (.fam false dom f)/\(∀q,q<m->dom q/\BLe n R (f q) (d.f q))
 | [],i,d,_,e=>by simp [nth] at e
 |x::D,0,d,h,e=>by simp only [nth,Option.some.injEq] at e;subst e;exact h.1
 |x::D,i+1,d,h,e=>r0y (D:=D) (i:=i) h.2 e
theorem c1x:∀{D:List RD},(rdr D).Nodup->∀{i j:Nat} {d e:RD},nth D i=some d->nth D j=some e->d.old=e.old->i=j
 | [],_,i,j,d,e,h,_=>by simp [nth] at h
 |x::D,hn,i,j,d,e,h1,h2=>by
  simp only [rdr] at hn;obtain ⟨n1,n2⟩:=k1P.1 hn;cases i with
  |zero=>
   simp only [nth,Option.some.injEq] at h1;subst h1;cases j with
   |zero=>exact fun _=>rfl
   |succ j=>
    have m:=n0P (D:=D) (i:=j) h2;exact fun q=>absurd (by rw [q];exact m) n1
  |succ i=>
   have m:=n0P (D:=D) (i:=i) h1;cases j with
   |zero=>
    simp only [nth,Option.some.injEq] at h2;subst h2;exact fun q=>absurd (by rw [<-q];exact m) n1
   |succ j=>exact fun q=>by rw [c1x (D:=D) n2 (i:=i) (j:=j) h1 h2 q]
theorem p0K {H:a0j} {n m th:Nat} {tb0 tb:Blk} (D:List RD) (hth:th<n) (ht:a0s H th=some (.one false tb0)) (hle:BLe n (rdR n m D) tb0 tb) (hD:i1r H n m th (rdR n m D) D) (hdist:j0E (rdr D)=true):
  Relab H n (rdR n m D) (fun _=>0) ((th,some (.one false tb))::rdN n m 0 D) (rdr D) D.length:=by
 have hnd:=n0O hdist;have key:∀{h q:Nat} {ro:Bool} {b:Blk},Ent ((th,some (HB.one false tb))::rdN n m 0 D) h q ro b->(h=th/\q=0/\ro=false/\b=tb)\/∃j d,h=n+j/\nth D j=some d/\q<m/\ro=false/\b=d.f q:=by
  intro h q ro b he;rcases a0t.1 he with ⟨rfl,hb2,e1,e2,e3⟩|⟨_,he⟩
  .cases e1;exact .inl ⟨rfl,e2.1,e3.symm,e2.2⟩
  .obtain ⟨j,d,h1,h2⟩:=x0k he;exact .inr ⟨j,d,by omega,h2⟩
 refine ⟨?_,?_,?_,?_,?_⟩
 .intro h q p h1 h2;obtain ⟨_,_,d,h3,_⟩:=h0u h2;have:=t0g h3;omega
 .intro h q ro b he;rcases key he with ⟨_,_,e,_⟩|⟨_,_,_,_,_,e,_⟩<;>exact e
 .intro h q b' he;rcases key he with ⟨rfl,rfl,_,rfl⟩|⟨j,d,rfl,hd,hq,_,rfl⟩
  .exact .inl ⟨h,0,tb0,.inl ⟨hth,rfl,rfl⟩,⟨_,ht,⟨rfl,rfl⟩,rfl⟩,hle⟩
  .obtain ⟨_,dom,f,g1,g2⟩:=r0y hD hd;exact .inl ⟨d.old,q,f q,.inr ⟨by omega,i0M hd hq⟩,⟨_,g1,⟨(g2 q hq).1,rfl⟩,rfl⟩,(g2 q hq).2⟩
 .intro h q p h1 h2;obtain ⟨_,_,d,h3,rfl⟩:=h0u h2;exact n0P h3
 .intro h q h' q' h0 q0 hk hk' h1 h2;have kk:∀{x:Nat},x∈a0n ((th,some (HB.one false tb))::rdN n m 0 D)->x=th\/n<=x:=by
   intro x hx;simp only [a0n,a1q] at hx;rcases hx with hx|hx
   .exact .inl hx
   .exact .inr (t0i hx)
  have no:∀{x y:Nat},n<=x->rdR n m D x y=some (h0,q0)->h0≠th:=by
   intro x y hx e;obtain ⟨_,_,d,h3,h4⟩:=h0u e;obtain ⟨g1,_⟩:=r0y hD h3;cases h4;exact g1
  rcases h1 with ⟨a1,rfl,rfl⟩|⟨a1,a2⟩
  .rcases h2 with ⟨b1,e1,e2⟩|⟨b1,b2⟩
   .exact ⟨e1,e2⟩
   .exfalso;have e:h0=th:=by rcases kk hk with e|e<;>omega
    exact no b1 b2 e
  .rcases h2 with ⟨b1,rfl,rfl⟩|⟨b1,b2⟩
   .exfalso;have e:h0=th:=by rcases kk hk' with e|e<;>omega
    exact no a1 a2 e
   .obtain ⟨_,_,d,h3,h4⟩:=h0u a2;obtain ⟨_,_,d',h3',h4'⟩:=h0u b2;cases h4;simp only [Prod.mk.injEq] at h4';have:=c1x hnd h3 h3' h4'.1;exact ⟨by omega,h4'.2⟩
end Go.Sy
namespace Go.Sy
open Go.RowKit
theorem m0w {g:G} {w w':World} {n n0 m:Nat} {H H0 N K:a0j} {r0 r1:SV} {v:Value} {R:Nat->Nat->Option (Nat×Nat)} {E:Nat->Nat} {dr:List Nat} (ho:Out g w n H (a0h r0 H0 n0) v w') (L:Relab H0 n0 R E N dr m) (hr:SLe n0 R r0 r1)
  (hK:∀h∈a0n K,a0s K h=a0s H0 h/\¬h∈a0n N/\¬h∈dr):Out g w n H (a0h r1 (K++N) (n0+m)) v w':=by
 obtain ⟨sv,H1,n1,g',⟨rfl,rfl,rfl⟩,hn,hup,hkeep,hv,hH,hrw,hfr,hown⟩:=ho;obtain ⟨g1,hg1⟩:∃g1:G,g1=fun h q=>if h<n1 then g' h q else if h<n1+m then (match R h q with|some p=>g' p.1 p.2|none=>some ⟨0,0,E h,0⟩) else none:=⟨_,rfl⟩
 have old:∀h q,h<n1->g1 h q=g' h q:=fun h q hh=>by rw [hg1];simp only;rw [if_pos hh]
 have hle:G.le g' g1:=by
  intro h q β hb;have hh:h<n1:=by
   refine k1U fun hx=> ?_
   rw [hup h q hx] at hb;cases hb
  rw [old h q hh];exact hb
 have hR:∀h q p,n1<=h->R h q=some p->∀β,g' p.1 p.2=some β->g1 h q=some β:=by
  intro h q p h1 h2 β hb;have:=L.lim h q p h1 h2;rw [hg1];simp only;rw [if_neg (by omega),if_pos this,h2];exact hb
 have ent:∀h q ro b',Ent (K++N) h q ro b'->(h∈a0n N/\Ent N h q ro b')\/(¬h∈a0n N/\¬h∈dr/\Ent H1 h q ro b'):=by
  rintro h q ro b' ⟨hb,e1,e2⟩;rw [a0J] at e1;by_cases hk:h∈a0n K
  .rw [if_pos hk] at e1;obtain ⟨k1,k2,k3⟩:=hK h hk;exact .inr ⟨k2,k3,hb,by rw [<-k1];exact e1,e2⟩
  .rw [if_neg hk] at e1;by_cases hk2:h∈a0n N
   .exact .inl ⟨hk2,hb,e1,e2⟩
   .rw [p0o N h hk2] at e1;cases e1
 have lt:∀h q ro b,Ent H1 h q ro b->h<n1:=by
  intro h q ro b he;obtain ⟨β,hb,_⟩:=hH.blk h q ro b he;refine k1U fun hx=> ?_
  rw [hup h q hx] at hb;cases hb
 have src:∀h q ro b',Ent (K++N) h q ro b'->∃β,g1 h q=some β/\BlkAt g1 β ro b' w'/\(0<β.cap->∃h0 q0 b0,Ent H1 h0 q0 ro b0/\g' h0 q0=some β/\f1V n1 R h q h0 q0/\(h∈a0n N\/(h0=h/\q0=q/\¬h∈dr/\¬h∈a0n N))):=by
  intro h q ro b' he;rcases ent h q ro b' he with ⟨hk,heN⟩|⟨hk,hd,heH⟩
  .have hro:=L.ro h q ro b' heN;subst hro;rcases L.src h q b' heN with ⟨h0,q0,b0,f1,f2,f3⟩|⟨f1,f2,cs,rfl,f3,f4⟩
   .obtain ⟨β,hb,hB⟩:=hH.blk h0 q0 false b0 f2;refine ⟨β,?_,c1i hle hR hB f3,fun _=>⟨h0,q0,b0,f2,hb,f1,.inl hk⟩⟩;rcases f1 with ⟨x1,rfl,rfl⟩|⟨x1,x2⟩
    .rw [old _ _ x1];exact hb
    .exact hR h q _ x1 x2 β hb
   .refine ⟨⟨0,0,E h,0⟩,?_,?_,fun hc=>by simp at hc⟩
    .rw [hg1];simp only;rw [if_neg (by omega),if_pos f1.2,f2]
    .exact ⟨fun h=>by simp at h,f4,h0Z cs f3,fun i hi=>by simp only [Blk.has] at hi;omega,fun i j sv hi=>by simp only [Blk.has] at hi;omega,fun i j v hi=>by simp only [Blk.has] at hi;omega,fun _ i j hi=>by simp at hi,trivial⟩
  .obtain ⟨β,hb,hB⟩:=hH.blk h q ro b' heH;have hl:=lt h q ro b' heH;exact ⟨β,by rw [old h q hl];exact hb,b0h hB hle (n0q _) (fun _=>rfl),fun _=>⟨h,q,b',heH,hb,.inl ⟨hl,rfl,rfl⟩,.inr ⟨rfl,rfl,hd,hk⟩⟩⟩
 refine ⟨r1,K++N,n1+m,g1,⟨rfl,rfl,rfl⟩,by omega,?_,fun h q hh=>by rw [old h q (by omega)];exact hkeep h q hh,j0d hle hR hr hv,⟨?_,?_⟩,?_,hfr,?_⟩
 .intro h q hh;rw [hg1];simp only;rw [if_neg (by omega),if_neg (by omega)]
 .intro h q ro b' he;obtain ⟨β,h1,h2,_⟩:=src h q ro b' he;exact ⟨β,h1,h2⟩
 .intro h q h' q' b ro' b' β β' hne he he' hg hg' hc hc';obtain ⟨β1,k1,_,k2⟩:=src h q false b he;obtain ⟨β2,k3,_,k4⟩:=src h' q' ro' b' he';rw [hg] at k1;cases k1;rw [hg'] at k3;cases k3;obtain ⟨h0,q0,b0,x1,x2,x3,x4⟩:=k2 hc;obtain ⟨h0',q0',b0',y1,y2,y3,y4⟩:=k4 hc';refine hH.sep h0 q0 h0' q0' b0 ro' b0' β β' ?_ x1 y1 x2 y2 hc hc';rintro ⟨rfl,rfl⟩;rcases x4 with x4|⟨rfl,rfl,x5,x6⟩
  .rcases y4 with y4|⟨rfl,rfl,y5,y6⟩
   .exact hne (L.inj h q h' q' h0 q0 x4 y4 x3 y3)
   .rcases x3 with ⟨z1,rfl,rfl⟩|⟨z1,z2⟩
    .exact y6 x4
    .exact y5 (L.took h q _ z1 z2)
  .rcases y4 with y4|⟨rfl,rfl,y5,y6⟩
   .rcases y3 with ⟨z1,rfl,rfl⟩|⟨z1,z2⟩
    .exact x6 y4
    .exact x5 (L.took h' q' _ z1 z2)
   .exact hne ⟨rfl,rfl⟩
 .intro h q ro b he;rcases ent h q ro b he with ⟨_,e⟩|⟨_,_,e⟩
  .exact L.ro h q ro b e
  .exact hrw h q ro b e
 .intro h q b β he hg hc;obtain ⟨β1,k1,_,k2⟩:=src h q false b he;rw [hg] at k1;cases k1;obtain ⟨h0,q0,b0,x1,x2,_⟩:=k2 hc;exact hown h0 q0 b0 β x1 x2 hc
theorem p0Z {P:Program} {n n0 m:Nat} {f:FuncId} {args:List SV} {H H0 N:a0j} {r0 r1:SV} {R:Nat->Nat->Option (Nat×Nat)} {E:Nat->Nat} {dr:List Nat} (K:a0j) (h:FC P n f args H (a0h r0 H0 n0)) (L:Relab H0 n0 R E N dr m) (hr:SLe n0 R r0 r1)
  (hK:∀h∈a0n K,a0s K h=a0s H0 h/\¬h∈a0n N/\¬h∈dr):FC P n f args H (a0h r1 (K++N) (n0+m)):=by
 rcases h with h|h
 .left;refine ⟨h.1,fun g w vals hg hu hH hv=> ?_⟩;exact (h.2 g w vals hg hu hH hv).mono fun e w' ⟨v,he,ho⟩=>⟨v,he,m0w ho L hr hK⟩
 .right;intro g w vals hg hu hH hv;obtain ⟨v,w',hr2,ho⟩:=h g w vals hg hu hH hv;exact ⟨v,w',hr2,m0w ho L hr hK⟩
end Go.Sy
namespace Go.Sy
open Go.RowKit
structure SD where
 src:Nat->Nat×Nat
 f:Nat->Blk
def sdR (n m:Nat) (D:List SD) (h q:Nat):Option (Nat×Nat):=if n<=h/\q<m then (match nth D (h-n) with|some d=>some (d.src q)|none=>none) else none
def sdN (n m:Nat):Nat->List SD->a0j
 |_,[]=> []
 |i,d::r=>(n+i,some (.fam false (fun x=>x<m) d.f))::sdN n m (i+1) r
theorem x0V {n m:Nat}:∀{D:List SD} {i h q:Nat} {ro:Bool} {b:Blk},Ent (sdN n m i D) h q ro b->∃j d,h=n+(i+j)/\nth D j=some d/\q<m/\ro=false/\b=d.f q
 | [],i,h,q,ro,b,he=>(k0m he).elim
 |x::D,i,h,q,ro,b,he=>by
  simp only [sdN] at he;rcases a0t.1 he with ⟨rfl,hb2,e1,e2,e3⟩|⟨_,he⟩
  .cases e1;exact ⟨0,x,by omega,rfl,e2.1,e3.symm,e2.2⟩
  .obtain ⟨j,d,h1,h2,h3⟩:=x0V he;exact ⟨j+1,d,by omega,h2,h3⟩
theorem t0x {n m:Nat}:∀{D:List SD} {i x:Nat},x∈a0n (sdN n m i D)->n<=x
 | [],i,x,h=>by simp [sdN,a0n] at h
 |d::D,i,x,h=>by
  simp only [sdN,a0n,a1q] at h;rcases h with h|h
  .omega
  .exact t0x h
theorem j0q {n m:Nat} {D:List SD} {h q:Nat} {p:Nat×Nat} (e:sdR n m D h q=some p):n<=h/\q<m/\∃d,nth D (h-n)=some d/\p=d.src q:=by
 unfold sdR at e;split at e
 .rename_i c;split at e
  .rename_i d hd;simp only [Option.some.injEq] at e;exact ⟨c.1,c.2,d,hd,e.symm⟩
  .cases e
 .cases e
theorem t0y {n m i q:Nat} {D:List SD} {d:SD} (hd:nth D i=some d) (hq:q<m):sdR n m D (n+i) q=some (d.src q):=by
 unfold sdR;rw [if_pos ⟨by omega,hq⟩,l1F,hd]
theorem x0W {H:a0j} {n m th:Nat} {tb0 tb:Blk} (D:List SD) (dr:List Nat) (hth:th<n) (ht:a0s H th=some (.one false tb0)) (hle:BLe n (sdR n m D) tb0 tb)
  (hD:∀i d,nth D i=some d->∀q,q<m->(d.src q).1≠th/\(d.src q).1∈dr/\∃b,Ent H (d.src q).1 (d.src q).2 false b/\BLe n (sdR n m D) b (d.f q))
  (hinj:∀i j d e q q',nth D i=some d->nth D j=some e->q<m->q'<m->d.src q=e.src q'->i=j/\q=q'):
  Relab H n (sdR n m D) (fun _=>0) ((th,some (.one false tb))::sdN n m 0 D) dr D.length:=by
 have key:∀{h q:Nat} {ro:Bool} {b:Blk},Ent ((th,some (HB.one false tb))::sdN n m 0 D) h q ro b->(h=th/\q=0/\ro=false/\b=tb)\/∃j d,h=n+j/\nth D j=some d/\q<m/\ro=false/\b=d.f q:=by
  intro h q ro b he;rcases a0t.1 he with ⟨rfl,hb2,e1,e2,e3⟩|⟨_,he⟩
  .cases e1;exact .inl ⟨rfl,e2.1,e3.symm,e2.2⟩
  .obtain ⟨j,d,h1,h2⟩:=x0V he;exact .inr ⟨j,d,by omega,h2⟩
 have fr:∀{h q:Nat} {p:Nat×Nat},sdR n m D h q=some p->p.1≠th/\p.1∈dr:=by
  intro h q p e;obtain ⟨_,hq,d,h3,rfl⟩:=j0q e;obtain ⟨g1,g2,_⟩:=hD _ d h3 q hq;exact ⟨g1,g2⟩
 refine ⟨?_,?_,?_,?_,?_⟩
 .intro h q p h1 h2;obtain ⟨_,_,d,h3,_⟩:=j0q h2;have:=t0g h3;omega
 .intro h q ro b he;rcases key he with ⟨_,_,e,_⟩|⟨_,_,_,_,_,e,_⟩<;>exact e
 .intro h q b' he;rcases key he with ⟨rfl,rfl,_,rfl⟩|⟨j,d,rfl,hd,hq,_,rfl⟩
  .exact .inl ⟨h,0,tb0,.inl ⟨hth,rfl,rfl⟩,⟨_,ht,⟨rfl,rfl⟩,rfl⟩,hle⟩
  .obtain ⟨_,_,b,g2,g3⟩:=hD j d hd q hq;exact .inl ⟨(d.src q).1,(d.src q).2,b,.inr ⟨by omega,t0y hd hq⟩,g2,g3⟩
 .intro h q p h1 h2;exact (fr h2).2
 .intro h q h' q' h0 q0 hk hk' h1 h2;have kk:∀{x:Nat},x∈a0n ((th,some (HB.one false tb))::sdN n m 0 D)->x=th\/n<=x:=by
   intro x hx;simp only [a0n,a1q] at hx;rcases hx with hx|hx
   .exact .inl hx
   .exact .inr (t0x hx)
  rcases h1 with ⟨a1,rfl,rfl⟩|⟨a1,a2⟩
  .rcases h2 with ⟨b1,e1,e2⟩|⟨b1,b2⟩
   .exact ⟨e1,e2⟩
   .exfalso;have e:h0=th:=by rcases kk hk with e|e<;>omega
    exact (fr b2).1 e
  .rcases h2 with ⟨b1,rfl,rfl⟩|⟨b1,b2⟩
   .exfalso;have e:h0=th:=by rcases kk hk' with e|e<;>omega
    exact (fr a2).1 e
   .obtain ⟨_,hq,d,h3,h4⟩:=j0q a2;obtain ⟨_,hq',d',h3',h4'⟩:=j0q b2;obtain ⟨x1,x2⟩:=hinj _ _ d d' q q' h3 h3' hq hq' (h4.symm.trans h4');exact ⟨by omega,x2⟩
end Go.Sy
namespace Go.Sy
open Go.RowKit
theorem m0x (μ:Nat->Nat):∀cs:List Col,c0T μ (a0A cs)=a0A cs
 | []=>rfl
 |c::r=>by
  show BCol.mem μ (.sc c)::c0T μ (a0A r)=_;rw [m0x μ r];rfl
theorem m0y (μ:Nat->Nat):∀cs:List Col,d0y μ (a0A cs)=true
 | []=>rfl
 |c::r=>by
  show (BCol.mok μ (.sc c)&&d0y μ (a0A r))=true;rw [m0y μ r];rfl
theorem b1k (μ:Nat->Nat) (l:n0n) (q:Nat):(q0Z l q).mem μ=q0Z l q:=by
 unfold q0Z;cases a0B l q with
 |none=>rfl
 |some x=>
  dsimp only;cases Nat.beq x.1 0 with
  |true=>rfl
  |false=>exact congrArg (Blk.cols x.1) (m0x μ x.2)
theorem b1l (μ:Nat->Nat) (l:n0n) (q:Nat):(q0Z l q).mok μ=true:=by
 unfold q0Z;cases a0B l q with
 |none=>rfl
 |some x=>
  dsimp only;cases Nat.beq x.1 0 with
  |true=>rfl
  |false=>exact m0y μ x.2
theorem q0a (μ:Nat->Nat) (l:n0n):(GB l).mok μ:=fun q _=>b1l μ l q
theorem x0X (L:v0e) (h:Nat) (l:n0n):l0r L h (GB l)=GB l:=by
 show HB.fam true _ (fun x=>(q0Z l x).mem (fmu L))=HB.fam true _ (q0Z l);exact congrArg (HB.fam true _) (funext fun x=>b1k (fmu L) l x)
end Go.Sy
namespace Go.Sy
open Go.RowKit
section
variable {P:Program}
def c1O {α:Type} [Inhabited α] (P:Program) (f g:FuncId) (enc:α->List Value) (k:Nat) (srt:List α->List α):Prop:=
 ∀(blk off cap:Nat) (ss:List α) (W:World),Go.Sort.HoldsK enc k W blk off ss.toArray->blk<W.heap.size->ss.length<4611686018427387904->
  Calls P f #[.slice (some ⟨blk,off,none⟩) ss.length cap,.func (.func g) #[] #[]] W fun e w'=>e= .returned (.tuple #[])/\∃m os,w'=Go.Proofs.sortWorldK enc k W blk off m (srt ss).toArray os
theorem f0Q:∀(l:List Col) (j:Nat),nth (a0A l) j=(nth l j).map BCol.sc
 | [],j=>rfl
 |c::l,0=>rfl
 |c::l,j+1=>f0Q l j
theorem i0o:∀(l:List Col),(a0A l).length=l.length
 | []=>rfl
 |c::l=>by simp [a0A,i0o l]
theorem t0z {α:Type}:∀{l:List α} {j:Nat},j<l.length->∃c,nth l j=some c
 | [],j,h=>by simp at h
 |c::l,0,h=>⟨c,rfl⟩
 |c::l,j+1,h=>t0z (l:=l) (j:=j) (by simpa using h)
theorem x0Y {α:Type}:∀{l:List α} {j:Nat} {c:α},nth l j=some c->j<l.length
 | [],j,c,h=>by simp [nth] at h
 |a::l,0,c,h=>by simp
 |a::l,j+1,c,h=>by
  have:=x0Y (l:=l) (j:=j) h;simp;omega
theorem b1m {α:Type} [Inhabited α] {f gf:FuncId} {enc:α->List Value} {k:Nat} {srt:List α->List α} (mk:List α->List Col) (hs:c1O P f gf enc k srt) (hbd:e0Q P f) (hk0:0<k) (hk:∀x,(enc x).length=k) (hml:∀l,(mk l).length=k) (hl:∀l j c,nth (mk l) j=some c->c.len=l.length)
  (hv:∀l i j c,i<l.length->nth (mk l) j=some c->c.val i=(enc (l.toArray[i]!))[j]!) (h1:∀x,∀v∈enc x,v.oneCell'=true) (hp:∀l,(srt l).length=l.length)
  (n:Nat) (l:List α) (hn:n<4611686018427387904) (hln:l.length=n) (hz:n=0->FC P 2 f [.sl 1 0 0 n,.fn gf []] [(1,some (.one false (.cols n (a0A (mk l)))))] (a0h (.tup []) [(1,some (.one false (.cols n (a0A (mk l)))))] 2)):
  FC P 2 f [.sl 1 0 0 n,.fn gf []] [(1,some (.one false (.cols n (a0A (mk l)))))] (a0h (.tup []) [(1,some (.one false (.cols n (a0A (mk (srt l))))))] 2):=by
 by_cases h0:n=0
 .have hnil:l= []:=j1r (by omega);have hsn:srt l=l:=by rw [hnil];exact j1r (by rw [hp];rfl)
  rw [hsn];exact hz h0
 clear hz;refine Or.inl ⟨hbd,fun g w vals hg hu hH hvs=> ?_⟩;obtain ⟨v,vs',rfl,hv0,hv1⟩:=hvs;obtain ⟨v2,vs2,rfl,hv2,hv3⟩:=hv1;simp only [Rvs] at hv3;subst hv3;simp only [Rv] at hv2;obtain ⟨cs,rfl,hcs⟩:=hv2;have hcs0:cs= #[]:=by
  have:cs.toList= []:=by
   cases hc:cs.toList with
   |nil=>rfl
   |cons a b=>rw [hc] at hcs;simp [Rvs] at hcs
  exact j1N.1 (by rw [this])
 subst hcs0;obtain ⟨a,c,rfl,hnc,hc⟩:=rsv hv0;have hE:Ent [(1,some (HB.one false (Blk.cols n (a0A (mk l)))))] 1 0 false (Blk.cols n (a0A (mk l))):=⟨_,rfl,⟨rfl,rfl⟩,rfl⟩;obtain ⟨β,hgβ,hB⟩:=hH.blk 1 0 false _ hE;have hes:β.es=k:=by rw [hB.es];simp [Blk.es,i0o,hml]
 have only:∀{b:Blk} {h q:Nat} {ro:Bool} {b':Blk},Ent [(1,some (HB.one false b))] h q ro b'->h=1/\q=0/\ro=false/\b'=b:=by
  rintro b h q ro b' ⟨hb,e,hi,hr⟩;rw [a0M] at e;split at e
  .cases e;rename_i e1;exact ⟨e1.symm,hi.1,hr.symm,hi.2⟩
  .cases e
 obtain hc|⟨β',hg',ha,hcap⟩:=hc
 .omega
 rw [hgβ] at hg';cases hg';have hcp:0<β.cap:=by omega
 subst ha;have ea:∀i j,β.addr i j=⟨β.blk,β.off+(i*k+j),none⟩:=by intro i j;unfold Base.addr;rw [hes];congr 1;omega
 have hHo:Go.Sort.HoldsK enc k w β.blk β.off l.toArray:=by
  intro t ht;have ht':t<n*k:=by rw [Go.Sort.size_flatK] at ht;simpa [hln] using ht
  have hi:t/k<n:=(j1K hk0).2 ht';have hj:t%k<k:=j1l _ hk0;have et:t/k*k+t%k=t:=by rw [j1Z];exact j1X _ _
  obtain ⟨cc,hcc⟩:=t0z (l:=mk l) (j:=t%k) (by rw [hml];exact hj);obtain ⟨x,hx,hr⟩:=hB.cell (t/k) (t%k) (cc.at (t/k)) hi (by simp only [Blk.at,f0Q,hcc,c1m];rfl);rw [ea,et] at hx;rw [Go.Sort.get_flatK _ _ _ _ (by simpa [hln] using ht')];refine ⟨?_,?_⟩
  .rw [hx];have:=hv l (t/k) (t%k) cc (by omega) hcc;rw [id,<-this];have h2:=Col.at_ok g cc (t/k);revert hr h2;cases cc<;>simp [Col.at,Col.val,Rv]
  .have:=(hB.rw rfl (t/k) (t%k) (by have:=hB.cap _ hi;omega) (by omega)).1
   rwa [ea,et] at this
 have hlt:=hB.lt hcp;have hca:=hs β.blk β.off c l w hHo hlt (by omega);rw [hln] at hca;have ea0:β.addr 0 0=⟨β.blk,β.off,none⟩:=by rw [ea];simp
 rw [ea0];refine hca.mono ?_;rintro e w' ⟨rfl,m,os,rfl⟩;have hss:(srt l).toArray.size=n:=by simp [hp,hln]
 have hPs:(Go.Sort.putRowK enc k (Go.Sort.ahead w m) β.blk β.off (srt l).toArray).heap.size=w.heap.size:=by rw [Go.Sort.size_putRowK];rfl
 have hHo2:Go.Sort.HoldsK enc k (Go.Proofs.sortWorldK enc k w β.blk β.off m (srt l).toArray os) β.blk β.off (srt l).toArray:=by
  unfold Go.Proofs.sortWorldK;exact Go.Sort.holdsK_grow enc k _ os _ _ _ (by rw [hPs];exact hlt) (Go.Sort.holdsK_putRowK enc k _ _ _ l.toArray _ (Go.Sort.holdsK_ahead enc k w m _ _ _ hHo) (by simp [hp]))
 have cellP:∀i j,i<n->j<k->(Go.Proofs.sortWorldK enc k w β.blk β.off m (srt l).toArray os).cell? (β.addr i j)=some ((enc ((srt l).toArray[i]!))[j]!):=by
  intro i j hi hj;have:=(hHo2.cell (i:=i) (c:=j) (by rw [hss];exact hi) hj).1;rw [ea,<-Nat.add_assoc];exact this
 have frz:∀a,a.block<w.heap.size->(Go.Proofs.sortWorldK enc k w β.blk β.off m (srt l).toArray os).frozen? a=w.frozen? a:=by
  intro a ha;unfold Go.Proofs.sortWorldK Go.Sort.putRowK;rw [Go.Sort.frozen?_grow _ _ _ (by show a.block<(Go.Sort.putRowK enc k (Go.Sort.ahead w m) β.blk β.off (srt l).toArray).heap.size;rw [hPs];exact ha),Go.Sort.frozen?_putRow];rfl
 have cellO:∀i j,n<=i->(Go.Proofs.sortWorldK enc k w β.blk β.off m (srt l).toArray os).cell? (β.addr i j)=w.cell? (β.addr i j):=by
  intro i j hi;unfold Go.Proofs.sortWorldK Go.Sort.putRowK;rw [ea,Go.Sort.cell?_grow _ _ _ (by show β.blk<(Go.Sort.putRowK enc k (Go.Sort.ahead w m) β.blk β.off (srt l).toArray).heap.size;rw [hPs];exact hlt)];rw [Go.Sort.cell?_putRow_other _ _ _ _ _ _ (.inr (.inr (by
   rw [Go.Sort.size_flatK,hss];show β.off+n*k<=β.off+(i*k+j);have:=d1N k hi;omega)))]
  rfl
 refine ⟨_,rfl,_,_,_,g,⟨rfl,rfl,rfl⟩,n0q _,hu,fun _ _ _=>rfl,?_,⟨?_,?_⟩,a0d a0b,⟨rfl,rfl,rfl,?_,?_⟩,?_⟩
 .simp only [Rv];exact ⟨_,rfl,by simp [Rvs]⟩
 .intro h q ro b he;obtain ⟨rfl,rfl,rfl,rfl⟩:=only he;refine ⟨β,hgβ,?_⟩;refine ⟨fun _=> ?_,by rw [hes];simp [Blk.es,i0o,hml],?_,hB.cap,?_,?_,?_,trivial⟩
  .unfold Go.Proofs.sortWorldK;rw [Go.Sort.size_grow,hPs];omega
  .intro c' hc';obtain ⟨j,hj⟩:=c0h hc';rw [f0Q] at hj;cases hm:nth (mk (srt l)) j with
   |none=>rw [hm] at hj;cases hj
   |some cc=>
    rw [hm] at hj;simp only [c1m,Option.some.injEq] at hj;subst hj;show cc.len=n;rw [hl _ _ _ hm,hp,hln]
  .intro i j sv hi hj;have hi':i<n:=hi;simp only [Blk.at,f0Q] at hj;cases hm:nth (mk (srt l)) j with
   |none=>rw [hm] at hj;cases hj
   |some cc=>
    rw [hm] at hj;simp only [c1m,Option.some.injEq] at hj;subst hj;have hjk:j<k:=by rw [<-hml (srt l)];exact x0Y hm
    refine ⟨_,cellP i j hi' hjk,?_⟩;rw [<-hv (srt l) i j cc (by rw [hp];omega) hm];exact Col.at_ok g cc i
  .intro i j v hi hj hx;have hi':i<n:=hi;have hjk:j<k:=by omega
   rw [cellP i j hi' hjk] at hx;cases hx;generalize (srt l).toArray[i]! =a;refine h1 a _ ?_;rw [getElem!_pos (enc a) j (by rw [hk];exact hjk)];exact g1v _
  .intro _ i j hi hj;have hx:=hB.rw rfl i j hi hj;refine ⟨?_,?_⟩
   .rw [frz _ (by rw [ea];exact hlt)];exact hx.1
   .by_cases hi2:i<n
    .exact ⟨_,cellP i j hi2 (by omega)⟩
    .rw [cellO i j (by omega)];exact hx.2
 .intro h q h' q' b ro' b' β1 β2 hne he he' _ _ _ _;obtain ⟨rfl,rfl,_,_⟩:=only he;obtain ⟨rfl,rfl,_,_⟩:=only he';exact absurd ⟨rfl,rfl⟩ hne
 .unfold Go.Proofs.sortWorldK;rw [Go.Sort.size_grow,hPs];omega
 .intro x hx hW;have hne:x≠β.blk:=fun e=>hW ⟨1,0,_,β,hE,hgβ,hcp,e.symm⟩
  unfold Go.Proofs.sortWorldK Go.Sort.putRowK;rw [Go.Sort.heap_grow_old _ _ (by show x<(Go.Sort.putRowK enc k (Go.Sort.ahead w m) β.blk β.off (srt l).toArray).heap.size;rw [hPs];exact hx)];simp only [Go.Sort.putRow,Go.Sort.mapBlock,j1V,if_neg (Ne.symm hne),Go.Sort.heap_ahead]
 .intro h q b β' he hg' hc';obtain ⟨rfl,rfl,_,_⟩:=only he;rw [hgβ] at hg';cases hg';exact .inl ⟨1,0,_,β,hE,hgβ,hc',rfl⟩
end
end Go.Sy
namespace Go.Sy
open Go.RowKit Go.ChangeShapes Go.WideShapes Go.Deep
inductive K2 where
 |sc (c:CK)
 |sl (ks:List CK)
def i1V (w:World) (ks:List CK) (v:Value) (n:Nat) (β:Base) (cols:List Col):Prop:=
 n<=maxLen/\b0q ks cols n/\(∀(g:G) (h q:Nat),g h q=some β->Rv g (.sl h q 0 n) v)/\(∀g:G,BlkAt g β true (.cols n (a0A cols)) w)
def l0y (w:World):K2->Value->Prop
 | .sc c,v=>c0I c v
 | .sl ks,v=>v.oneCell'=true/\∃n β cols,i1V w ks v n β cols
def AllOk2 (w:World):List K2->List Value->Prop
 | [],vs=>vs= []
 |c::cs,vs=>∃v r,vs=v::r/\l0y w c v/\AllOk2 w cs r
theorem AllOk2.append {w:World}:∀(a b:List K2) (vs:List Value),AllOk2 w a (vs.take a.length)->AllOk2 w b (vs.drop a.length)->AllOk2 w (a++b) vs
 | [],b,vs,_,h=>by simpa using h
 |c::a,b,vs,h1,h2=>by
  cases vs with
  |nil=>simp only [d1G,List.take_nil,AllOk2] at h1;obtain ⟨v,r,e,_⟩:=h1;cases e
  |cons v vs=>
   simp only [d1G,k1y,AllOk2] at h1;obtain ⟨v',r,e,hc,hr⟩:=h1;simp only [List.cons.injEq] at e;obtain ⟨rfl,rfl⟩:=e;simp only [g1u,AllOk2];exact ⟨v,vs,rfl,hc,AllOk2.append a b vs hr (by simpa using h2)⟩
theorem AllOk2.nth {w:World}:∀(ks:List K2) (vs:List Value) (j:Nat) (c:K2),AllOk2 w ks vs->Sy.nth ks j=some c->∃v,vs[j]? =some v/\l0y w c v
 | [],vs,j,c,_,h=>by simp [Sy.nth] at h
 |k::ks,vs,j,c,h,hj=>by
  simp only [AllOk2] at h;obtain ⟨v,r,rfl,h1,h2⟩:=h;cases j with
  |zero=>simp [Sy.nth] at hj;subst hj;exact ⟨v,by simp,h1⟩
  |succ j=>simp only [Sy.nth] at hj;obtain ⟨u,h3,h4⟩:=AllOk2.nth ks r j c h2 hj;exact ⟨u,by simpa using h3,h4⟩
mutual
def s0j (P:Program):Nat->TypeId->Option (List K2)
 |0,_=>none
 |n+1,t=>match P.underlying t with
  |some .bool=>some [.sc .bool]
  |some (.int k)=>some [.sc (.int k)]
  |some .string=>some [.sc .str]
  |some (.slice e)=>(match i0h P n e with
   |some ks=>bif Nat.beq (P.cellsOf e) ks.length&&Nat.blt 0 ks.length then some [.sl ks] else none
   |none=>none)
  |some (.struct fs)=>(match i0s P n 0 fs.toList with
   |some ks=>bif Nat.beq (P.cellsOf t) ks.length then some ks else none
   |none=>none)
  |_=>none
def i0s (P:Program):Nat->Nat->List Field->Option (List K2)
 |0,_,_=>none
 |_+1,_,[]=>some []
 |n+1,o,f::r=>bif Nat.beq f.offset o then (match s0j P n f.type with
  |some a=>bif Nat.beq (P.cellsOf f.type) a.length then (match i0s P n (o+a.length) r with|some b=>some (a++b)|none=>none) else none
  |none=>none) else none
end
section
variable {H:Type} {enc:TypeId×Value->H} {P:Program} {w:World} {base:Nat} {held:Bool}
theorem h1M {v:Value} {n:Nat} {β:Base} (hR:∀(g:G) (h:Nat),g h 0=some β->Rv g (.sl h 0 0 n) v) (g:G) (h q:Nat) (hg:g h q=some β):Rv g (.sl h q 0 n) v:=by
 have:=hR (fun _ _=>some β) h rfl;simp only [Rv] at this⊢;obtain ⟨a,c,e1,e2,e3⟩:=this;refine ⟨a,c,e1,e2,?_⟩;rcases e3 with e3|⟨β',e4,e5,e6⟩
 .exact .inl e3
 .simp only [Option.some.injEq] at e4;subst e4;exact .inr ⟨_,hg,e5,e6⟩
theorem l0d:∀m:Nat,(∀(t:TypeId) (ks:List K2) (fuel:Nat) (cs:List Value) (x:DataW H×List MemPlace),s0j P m t=some ks->DataW.trod enc P w base (fun _=>true) held fuel t cs=some x->AllOk2 w ks cs)/\
  (∀(o:Nat) (fs:List Field) (ks:List K2) (cs:List Value) (n:Nat),i0s P m o fs=some ks->cs.length=o+ks.length->(∀f∈fs,∃y,DataW.trod enc P w base (fun _=>true) held n f.type ((cs.drop f.offset).take (P.cellsOf f.type))=some y)->AllOk2 w ks (cs.drop o)):=by
 intro m;induction m with
 |zero=>exact ⟨fun t ks fuel cs x h=>by simp [s0j] at h,fun o fs ks cs n h=>by simp [i0s] at h⟩
 |succ m ih=>
  refine ⟨?_,?_⟩
  .intro t ks fuel cs x h ht;simp only [s0j] at h;split at h
   .rename_i hu;simp only [Option.some.injEq] at h;subst h;obtain ⟨b,rfl,_⟩:=DataW.trod_bool hu ht;simp only [AllOk2,l0y,c0I];exact ⟨_,_,rfl,⟨b,rfl⟩,rfl⟩
   .rename_i k hu;simp only [Option.some.injEq] at h;subst h;obtain ⟨n,rfl,_,hw⟩:=DataW.trod_int hu ht;simp only [AllOk2,l0y,c0I];exact ⟨_,_,rfl,⟨n,rfl,hw⟩,rfl⟩
   .rename_i hu;simp only [Option.some.injEq] at h;subst h;obtain ⟨s,rfl,_,hw⟩:=DataW.trod_string hu ht;simp only [AllOk2,l0y,c0I];exact ⟨_,_,rfl,⟨s,rfl,hw⟩,rfl⟩
   .rename_i e hu;split at h
    .rename_i ks' hks;cases hb:(Nat.beq (P.cellsOf e) ks'.length&&Nat.blt 0 ks'.length) with
     |false=>rw [hb] at h;simp at h
     |true=>
      rw [hb] at h;simp only [cond_true,Option.some.injEq] at h;subst h;simp only [k0o] at hb;have hl:=l0q hb.1;have h0:0<ks'.length:=j1W hb.2;have key:∀a n c,cs= [.slice a n c]->AllOk2 w [.sl ks'] cs:=by
       intro a n c hv;subst hv;obtain ⟨n',β,cols,k1,k2,k3,k4⟩:=n0H hu hks hl h0 ht;simp only [AllOk2,l0y];exact ⟨_,_,rfl,⟨rfl,n',β,cols,k1,k2,h1M k3,k4⟩,rfl⟩
      rcases open_slice hu ht with ⟨hv,_⟩|⟨a,len,cap,mm,nn,D,Pl,hv,_⟩
      .exact key _ _ _ hv
      .exact key _ _ _ hv
    .cases h
   .rename_i fs hu;split at h
    .rename_i ks' hks;cases hb:Nat.beq (P.cellsOf t) ks'.length with
     |false=>rw [hb] at h;simp at h
     |true=>
      rw [hb] at h;simp only [cond_true,Option.some.injEq] at h;subst h;obtain ⟨xs,n,_,_,hlen,hxl,hf⟩:=DataW.trod_struct hu ht;have:=ih.2 0 fs.toList ks' cs n hks (by rw [hlen,l0q hb];simp) (by
       intro f hf';obtain ⟨i,hi,rfl⟩:=d1O hf';have hi':i<fs.size:=by simpa using hi
       have h1:=hf i fs[i] (by simp [hi']);have h2:xs[i]? =some (xs[i]'(by omega)):=k0n (by omega);refine ⟨xs[i]'(by omega),?_⟩;have:fs.toList[i]=fs[i]:=by simp
       rw [this,h1,h2])
      simpa using this
    .cases h
   .cases h
  .intro o fs ks cs n h hlen hall;cases fs with
   |nil=>
    simp only [i0s,Option.some.injEq] at h;subst h;simp only [AllOk2];exact k1k (by simp at hlen;omega)
   |cons f r=>
    simp only [i0s] at h;cases ho:Nat.beq f.offset o with
    |false=>rw [ho] at h;simp at h
    |true=>
     rw [ho] at h;simp only [cond_true] at h;split at h
     .rename_i a ha;cases hb:Nat.beq (P.cellsOf f.type) a.length with
      |false=>rw [hb] at h;simp at h
      |true=>
       rw [hb] at h;simp only [cond_true] at h;split at h
       .rename_i b hbb;simp only [Option.some.injEq] at h;subst h;have eo:=l0q ho;have ea:=l0q hb;obtain ⟨y,hy⟩:=hall f (by simp);have h1:=ih.1 f.type a n _ y ha hy;rw [eo,ea] at h1;refine AllOk2.append a b (cs.drop o) h1 ?_;rw [l1P];exact ih.2 (o+a.length) r b cs n hbb (by simp at hlen;omega) (fun f' hf'=>hall f' (by simp [hf']))
       .cases h
     .cases h
theorem v0A {m:Nat} {t:TypeId} {ks:List K2} {fuel:Nat} {cs:List Value} {x:DataW H×List MemPlace} (h:s0j P m t=some ks) (ht:DataW.trod enc P w base (fun _=>true) held fuel t cs=some x):AllOk2 w ks cs:=(l0d m).1 t ks fuel cs x h ht
theorem s0k {t e:TypeId} {m fuel:Nat} {v:Value} {ks:List K2} {x:DataW H×List MemPlace} (ht:P.underlying t=some (.slice e)) (hk:s0j P m e=some ks) (hlen:P.cellsOf e=ks.length) (h0:0<ks.length)
  (h:DataW.trod enc P w base (fun _=>true) held fuel t [v]=some x):
  ∃(n:Nat) (β:Base) (val:Nat->Nat->Value),n<=maxLen/\(∀(g:G) (h q:Nat),g h q=some β->Rv g (.sl h q 0 n) v)/\β.es=ks.length/\n<=β.cap/\(0<β.cap->β.blk<w.heap.size)/\
   ∀i,i<n->∀j c,nth ks j=some c->w.cell? (β.addr i j)=some (val i j)/\l0y w c (val i j):=by
 have dead:∀a,v= .slice a 0 0->∃(n:Nat) (β:Base) (val:Nat->Nat->Value),n<=maxLen/\(∀(g:G) (h q:Nat),g h q=some β->Rv g (.sl h q 0 n) v)/\β.es=ks.length/\n<=β.cap/\(0<β.cap->β.blk<w.heap.size)/\
   ∀i,i<n->∀j c,nth ks j=some c->w.cell? (β.addr i j)=some (val i j)/\l0y w c (val i j):=by
  intro a hv;refine ⟨0,⟨0,0,ks.length,0⟩,fun _ _=>undef,w0F _,?_,rfl,n0q _,fun h=>absurd h (k1r _),fun i hi=>absurd hi (k1G _)⟩;intro g h q _;subst hv;simp only [Rv];exact ⟨a,0,rfl,n0q _,.inl rfl⟩
 rcases open_slice ht h with ⟨hv,_⟩|⟨a,len,cap,mm,nn,D,Pl,hv,_,hl,hm,hmm,hx,hi⟩
 .simp only [List.cons.injEq,and_true] at hv;exact dead none hv
 .simp only [List.cons.injEq,and_true] at hv;simp only [if_true] at hmm;subst hmm;have cell:∀i,i<mm->∀j c,nth ks j=some c->∃u,w.cell? (a.add (i*ks.length+j))=some u/\l0y w c u:=by
   intro i him j c hj;obtain ⟨cs',hc,ht'⟩:=hi i him;have hall:=v0A hk ht';obtain ⟨u,hu,hok⟩:=AllOk2.nth ks cs' j c hall hj;rw [hlen] at hc;obtain ⟨_,hcl,hat⟩:=World.cells?_some hc;have hjl:=b0F hj;refine ⟨u,?_,hok⟩;rw [<-Go.Deep.add_add,hat j hjl];exact hu
  by_cases hz:mm=0
  .subst hz;have hl0:len=0:=by omega
   subst hl0;exact dead (some a) hv
  .subst hv;obtain ⟨c0,hc0⟩:∃c0,nth ks 0=some c0:=by
    cases ks with
    |nil=>simp at h0
    |cons c r=>exact ⟨c,rfl⟩
   obtain ⟨u0,hu0,_⟩:=cell 0 (by omega) 0 c0 hc0;simp only [l1Q,w0G] at hu0;have ha0:a.add 0=a:=by simp [Addr.add]
   rw [ha0] at hu0;have hspot:a.spot=none:=by
    unfold World.cell? at hu0;split at hu0
    .split at hu0
     .cases hu0
     .rename_i hs;simpa using hs
    .cases hu0
   have hblk:a.block<w.heap.size:=by
    unfold World.cell? at hu0;split at hu0
    .rename_i hh;exact (h1X.1 hh).1
    .cases hu0
   obtain ⟨β,hβ⟩:∃β:Base,β=⟨a.block,a.off,ks.length,mm⟩:=⟨_,rfl⟩;have haddr:∀i j,a.add (i*ks.length+j)=β.addr i j:=by
    intro i j;obtain ⟨b,o,s⟩:=a;simp only at hspot;subst hspot;unfold Addr.add Base.addr;split
    .rename_i h;simp only [hβ];congr 1;omega
    .simp only [hβ];congr 1;omega
   have hcap:β.cap=mm:=by rw [hβ]
   refine ⟨len,β,fun i j=>(w.cell? (β.addr i j)).getD undef,g1x hl hm,?_,by rw [hβ],by omega,fun _=>by rw [hβ];exact hblk,?_⟩
   .intro g h q hg;simp only [Rv];refine ⟨some a,mm,rfl,hl,.inr ⟨β,hg,?_,by omega⟩⟩;have:=haddr 0 0;simp only [l1Q,w0G,ha0] at this;rw [this]
   .intro i hi' j c hc;obtain ⟨u,hu,hok⟩:=cell i (by omega) j c hc;rw [haddr] at hu;refine ⟨by simp only [hu,j1A],?_⟩;simp only [hu,j1A];exact hok
def f0X (n:Nat) (val:Nat->Nat->Value) (h:Nat) (ns:List Nat):Nat->List K2->List BCol
 |_,[]=> []
 |j,.sc c::r=> .sc (h0r n (fun i=>val i j) c)::f0X n val h ns (j+1) r
 |j,.sl _::r=> .own h ns::f0X n val h ns (j+1) r
def i0Z (n h:Nat) (ns:List Nat):List K2->List BCol->Prop
 | [],l=>l= []
 | .sc c::r,l=>∃x t,l= .sc x::t/\f0W c x n/\i0Z n h ns r t
 | .sl _::r,l=>∃t,l= .own h ns::t/\i0Z n h ns r t
theorem l0e (n:Nat) (val:Nat->Nat->Value) (h:Nat) (ns:List Nat):∀(ks:List K2) (j k:Nat),nth (f0X n val h ns j ks) k=(nth ks k).map (fun c=>match c with| .sc c=> .sc (h0r n (fun i=>val i (j+k)) c)| .sl _=> .own h ns)
 | [],j,k=>by simp [f0X,nth]
 | .sc c::ks,j,0=>by simp [f0X,nth]
 | .sl c::ks,j,0=>by simp [f0X,nth]
 | .sc c::ks,j,k+1=>by simp only [f0X,nth];rw [l0e n val h ns ks (j+1) k,show j+1+k=j+(k+1) from by omega]
 | .sl c::ks,j,k+1=>by simp only [f0X,nth];rw [l0e n val h ns ks (j+1) k,show j+1+k=j+(k+1) from by omega]
theorem f0B (n:Nat) (val:Nat->Nat->Value) (h:Nat) (ns:List Nat):∀(ks:List K2) (j:Nat),(f0X n val h ns j ks).length=ks.length
 | [],j=>rfl
 | .sc c::ks,j=>by simp [f0X,f0B n val h ns ks (j+1)]
 | .sl c::ks,j=>by simp [f0X,f0B n val h ns ks (j+1)]
theorem f1C {n:Nat} {v:Nat->Value} {c:CK} (h:∀i,i<n->c0I c (v i)):f0W c (h0r n v c) n:=by
 have:=e0o n (fun i _=>v i) [c] 0 (fun i hi k c' hc=>by
  cases k with
  |zero=>simp [nth] at hc;subst hc;exact h i hi
  |succ k=>simp [nth] at hc)
 simp only [a0V,b0q] at this;obtain ⟨x,r,e,k,_⟩:=this;simp only [List.cons.injEq] at e;rw [e.1];exact k
theorem j0v {n:Nat} {val:Nat->Nat->Value} {h:Nat} {ns:List Nat}:∀(ks:List K2) (j:Nat),(∀i,i<n->∀k c,nth ks k=some c->l0y w c (val i (j+k)))->i0Z n h ns ks (f0X n val h ns j ks)
 | [],j,_=>by simp [f0X,i0Z]
 | .sc c::cs,j,hh=>by
   simp only [f0X,i0Z];exact ⟨_,_,rfl,f1C (fun i hi=>hh i hi 0 (.sc c) rfl),j0v cs (j+1) (fun i hi k c' hc=>by rw [show j+1+k=j+(k+1) from by omega];exact hh i hi (k+1) c' hc)⟩
 | .sl c::cs,j,hh=>by
   simp only [f0X,i0Z];exact ⟨_,rfl,j0v cs (j+1) (fun i hi k c' hc=>by rw [show j+1+k=j+(k+1) from by omega];exact hh i hi (k+1) c' hc)⟩
theorem z0t:∀{k:CK} {c:Col} {n:Nat},f0W k c n->c.len=n
 | .int k,c,n,h=>by obtain ⟨l,rfl,e,_⟩:=h;exact e
 | .bool,c,n,h=>by obtain ⟨l,rfl,e⟩:=h;exact e
 | .str,c,n,h=>by obtain ⟨l,rfl,e,_⟩:=h;exact e
theorem s0l {n h:Nat} {ns:List Nat} (hn:ns.length=n):∀{ks:List K2} {cols:List BCol},i0Z n h ns ks cols->∀c∈cols,c.len=n
 | [],cols,hh,c,hc=>by simp only [i0Z] at hh;subst hh;cases hc
 | .sc k::ks,cols,hh,c,hc=>by
   simp only [i0Z] at hh;obtain ⟨x,t,rfl,h1,h2⟩:=hh;rcases a1q.1 hc with rfl|hc
   .exact z0t h1
   .exact s0l hn h2 c hc
 | .sl k::ks,cols,hh,c,hc=>by
   simp only [i0Z] at hh;obtain ⟨t,rfl,h2⟩:=hh;rcases a1q.1 hc with rfl|hc
   .exact hn
   .exact s0l hn h2 c hc
def i1K:K2->Bool
 | .sc _=>true
 | .sl _=>false
def m0I:Nat->List K2->Bool
 |_,[]=>true
 |0,_::r=>r.all i1K
 |p+1,.sc _::r=>m0I p r
 |_+1,.sl _::_=>false
theorem h1N:∀{r:List K2} {j:Nat} {k:List CK},r.all i1K=true->nth r j≠some (.sl k)
 | [],j,k,h=>by simp [nth]
 |c::r,0,k,h=>by
  simp only [List.all_cons,k0o] at h;intro e;simp only [nth,Option.some.injEq] at e;rw [e] at h;exact absurd h.1 (by simp [i1K])
 |c::r,j+1,k,h=>by
  simp only [List.all_cons,k0o] at h;exact h1N (r:=r) (j:=j) h.2
theorem z0u:∀{ks:List K2} {p j:Nat} {k:List CK},m0I p ks=true->nth ks j=some (.sl k)->j=p
 | [],p,j,k,_,h=>by simp [nth] at h
 |c::r,0,0,k,_,_=>rfl
 |c::r,0,j+1,k,h,e=>by
  simp only [m0I] at h;exact absurd e (h1N (r:=r) (j:=j) h)
 | .sl c::r,p+1,j,k,h,e=>by simp [m0I] at h
 | .sc c::r,p+1,0,k,h,e=>by simp [nth] at e
 | .sc c::r,p+1,j+1,k,h,e=>by
   simp only [m0I] at h;simp only [nth] at e;rw [z0u h e]
theorem z0v {t e:TypeId} {m fuel:Nat} {v:Value} {ks:List K2} {x:DataW H×List MemPlace} (h' p:Nat) (k:List CK) (hp:nth ks p=some (.sl k)) (hu:m0I p ks=true) (ht:P.underlying t=some (.slice e)) (hk:s0j P m e=some ks) (hlen:P.cellsOf e=ks.length)
  (h:DataW.trod enc P w base (fun _=>true) held fuel t [v]=some x):
  ∃(n:Nat) (β:Base) (ns:List Nat) (rows:Nat->List Col) (bs:Nat->Base) (cols:List BCol),n<=maxLen/\ns.length=n/\i0Z n h' ns ks cols/\(∀i,i<n->ns.getD i 0<=maxLen/\b0q k (rows i) (ns.getD i 0)/\∀g:G,BlkAt g (bs i) true (.cols (ns.getD i 0) (a0A (rows i))) w)/\
   (∀(g:G) (h q:Nat),g h q=some β->Rv g (.sl h q 0 n) v)/\(∀g:G,(∀i,i<n->g h' i=some (bs i))->BlkAt g β true (.cols n cols) w):=by
 have h0:0<ks.length:=Nat.lt_of_le_of_lt (w0F _) (b0F hp);obtain ⟨n,β,val,h1,h2,h3,h4,h5,h6⟩:=s0k ht hk hlen h0 h;have hin:∀i,∃y:Nat×Base×List Col,i<n->i1V w k (val i p) y.1 y.2.1 y.2.2:=by
  intro i;by_cases hi:i<n
  .obtain ⟨_,m',β',cols',hc⟩:=(h6 i hi p _ hp).2;exact ⟨⟨m',β',cols'⟩,fun _=>hc⟩
  .exact ⟨⟨0,β,[]⟩,fun q=>absurd q hi⟩
 obtain ⟨F,hF⟩:=Classical.axiomOfChoice hin;have hns:∀i,i<n->((List.range n).map (fun i=>(F i).1)).getD i 0=(F i).1:=fun i hi=>c0D n _ 0 i hi
 refine ⟨n,β,(List.range n).map (fun i=>(F i).1),fun i=>(F i).2.2,fun i=>(F i).2.1,f0X n val h' ((List.range n).map (fun i=>(F i).1)) 0 ks,h1,by simp,j0v ks 0 (fun i hi k c hc=>by rw [z0z];exact (h6 i hi k c hc).2),?_,h2,?_⟩
 .intro i hi;obtain ⟨a1,a2,_,a4⟩:=hF i hi;rw [hns i hi];exact ⟨a1,a2,a4⟩
 .intro g hg;refine ⟨h5,by rw [h3];simp [Blk.es,f0B],s0l (by simp) (j0v (w:=w) ks 0 (fun i hi k c hc=>by rw [z0z];exact (h6 i hi k c hc).2)),fun i hi=>by simp only [Blk.has] at hi;omega,?_,?_,(fun h=>by cases h),trivial⟩
  .intro i j sv hi hj;simp only [Blk.has] at hi;simp only [Blk.at,l0e] at hj;cases hc:nth ks j with
   |none=>rw [hc] at hj;simp at hj
   |some c=>
    rw [hc] at hj;obtain ⟨k1,k2⟩:=h6 i hi j c hc;cases c with
    |sc c=>
     simp only [c1m,Option.some.injEq,z0z] at hj;subst hj;exact ⟨_,k1,k0B (v:=fun i=>val i j) hi k2⟩
    |sl k'=>
     have ej:=z0u hu hc;subst ej;simp only [c1m,Option.some.injEq] at hj;subst hj;obtain ⟨_,_,a3,_⟩:=hF i hi;refine ⟨_,k1,?_⟩;show Rv g (.sl h' i 0 (((List.range n).map (fun i=>(F i).1)).getD i 0)) _;rw [hns i hi];exact a3 g h' i (hg i hi)
  .intro i j v' hi hj hv';simp only [Blk.has] at hi;rw [h3] at hj;obtain ⟨c,hc⟩:∃c,nth ks j=some c:=⟨ks[j],by rw [a0R];exact k0n hj⟩;obtain ⟨k1,k2⟩:=h6 i hi j c hc;rw [hv'] at k1;cases k1;cases c with
   |sc c=>exact i0i k2
   |sl k'=>exact k2.1
def gS (k:Nat) (l:List Col):List ByteArray:=match nth l k with|some (.strs m)=>m|_=> []
def gI (k:Nat) (l:List Col):List Int:=match nth l k with|some (.ints _ m)=>m|_=> []
def f1D (g:G) (w:World) (p:Nat×Option HB):Prop:=
 (∃b β,p.2=some (.one true b)/\g p.1 0=some β/\BlkAt g β true b w)\/(∃dom f,p.2=some (.fam true dom f)/\∀q,dom q->∃β,g p.1 q=some β/\BlkAt g β true (f q) w)
theorem z0w {g:G} {w:World}:∀(Hp:a0j),(∀p∈Hp,f1D g w p)->Holds g Hp w/\∀h q ro b,Ent Hp h q ro b->ro=true:=by
 intro Hp hall;have key:∀h q ro b,Ent Hp h q ro b->ro=true/\∃β,g h q=some β/\BlkAt g β ro b w:=by
  intro h q ro b he;have:∀(L:a0j),(∀p∈L,f1D g w p)->Ent L h q ro b->ro=true/\∃β,g h q=some β/\BlkAt g β ro b w:=by
   intro L;induction L with
   |nil=>intro _ he;obtain ⟨hb,e,_⟩:=he;simp [a0s] at e
   |cons p L ih=>
    intro hL he;obtain ⟨k,o⟩:=p;rcases a0t.1 he with ⟨rfl,hb',e1,e2,e3⟩|⟨_,he⟩
    .rcases hL (k,o) (by simp) with ⟨b',β,f1,f2,f3⟩|⟨dom,f,f1,f2⟩
     .simp only at f1 f2;rw [f1] at e1;cases e1;simp only [HB.is] at e2;obtain ⟨rfl,rfl⟩:=e2;simp only [HB.ro] at e3;subst e3;exact ⟨rfl,β,f2,f3⟩
     .simp only at f1 f2;rw [f1] at e1;cases e1;simp only [HB.is] at e2;obtain ⟨e2,rfl⟩:=e2;simp only [HB.ro] at e3;subst e3;exact ⟨rfl,f2 q e2⟩
    .exact ih (fun p hp=>hL p (by simp [hp])) he
  exact this Hp hall he
 refine ⟨⟨fun h q ro b he=>(key h q ro b he).2,?_⟩,fun h q ro b he=>(key h q ro b he).1⟩;intro h q h' q' b ro' b' β β' _ he;have:=(key h q false b he).1;cases this
end
end Go.Sy
namespace Go.Sy
open Go.RowKit
section
variable {w:World}
theorem z0x {g:G} {Hp:a0j} {l:n0n} (hl:∀q,(a0B l q).isSome=true->∃β,g 0 q=some β/\BlkAt g β true (q0Z l q) w) (hall:∀p∈Hp,f1D g w p):
  Holds g ((0,some (GB l))::Hp) w/\∀h q ro b,Ent ((0,some (GB l))::Hp) h q ro b->ro=true:=by
 obtain ⟨h1,h2⟩:=z0w (g:=g) (w:=w) Hp hall;have ro:∀h q ro b,Ent ((0,some (GB l))::Hp) h q ro b->ro=true:=by
  intro h q ro b he;rcases a0t.1 he with ⟨rfl,hb,e1,e2,e3⟩|⟨_,he⟩
  .cases e1;exact e3.symm
  .exact h2 h q ro b he
 refine ⟨⟨?_,?_⟩,ro⟩
 .intro h q r b he;rcases a0t.1 he with ⟨rfl,hb,e1,e2,e3⟩|⟨_,he⟩
  .cases e1;obtain ⟨d,rfl⟩:=e2;simp only [GB,HB.ro] at e3;subst e3;exact hl q d
  .exact h1.blk h q r b he
 .intro h q h' q' b ro' b' β β' _ he;have:=ro h q false b he;cases this
end
end Go.Sy
