/- Several texts in one: YCalls YPlain YSort YKeys YNil YGrp YIdx YLaw YLaid YArg YMem YFam YRen YBag YOwn YMeth YJoin YFresh YDfr YGath YSrc YLaw2 YLaid2 YGb. -/
import Derived.Test.YtmnjebhdclmcfaaGreatDoorP2
import Derived.Sort.KeysCollected
import Derived.Sort.Grow
import Derived.Shelf.SlIter.Nil
import Derived.Shelf.SortM.Plain
import Derived.Shelf.SortM.SortNone
import Derived.Deep.Slices
import Derived.OpenShut
import Derived.ChangeOld
import Derived.ChangeBears2
import Derived.MakeChecks
import Derived.LaidLaws
import Derived.Shelf.Strings.OnBuilder
import Derived.Defers
set_option linter.unusedVariables false
set_option linter.unusedSimpArgs false
open Option.some (injEq)
namespace Go.Sy
abbrev p1R:=@Nat.not_lt_zero
abbrev s1D:=@List.eq_nil_of_length_eq_zero
abbrev s1O:=@List.not_mem_nil
abbrev s1P:=@List.ext_getElem?
abbrev s1f:=@Nat.le_succ
abbrev s1n:=@List.mem_cons_of_mem
abbrev t1D:=@List.nodup_cons
abbrev t1H:=@List.mem_cons_self
abbrev t1K:=@List.mem_iff_getElem
abbrev t1Z:=@Nat.add_sub_cancel_left
abbrev t1d:=@List.drop_eq_nil_of_le
abbrev t1g:=@List.take_append_drop
abbrev u1M:=@List.perm_ext_iff_of_nodup
abbrev u1S:=@List.map_map
abbrev u1T:=@List.Perm.eq_of_pairwise
abbrev u1X:=@List.pairwise_mergeSort
abbrev u1m:=@List.mergeSort_perm
abbrev u1n:=@List.map_congr_left
end Go.Sy
namespace Go.Sy
open Go.RowKit
theorem c0G {P:Program} {f:FuncId} {fn:Func} (h:P.funcs[f]? =some fn) (hb:fn.body.isSome=true) (hn:(fn.name=="runtime.NumGoroutine")=false):d0C P f:=by
 obtain ⟨c,hc⟩:=s1q.1 hb;exact ⟨fn,c,h,hc,hn⟩
theorem q0c {P:Program} {f:FuncId} {args:List SV} {vals:List Value} {r:SV} {v:Value} (hbd:d0C P f) (hv:∀g vs,Rvs g args vs->vs=vals) (hr:∀g,Rv g r v) (hc:∀w,Calls P f vals.toArray w (fun e w'=>e= .returned v/\Below w.heap.size w w')):a0K P f args r:=by
 refine Or.inl ⟨hbd,fun g w vs hg hu hH hvs=> ?_⟩;rw [hv g vs hvs];refine (hc w).mono ?_;rintro e w' ⟨rfl,hb⟩;refine ⟨v,rfl,r,[],1,g,rX,m0c _,hu,fun _ _ _=>rfl,hr g,⟨?_,?_⟩,a0c,⟨hb.os,hb.tape,hb.output,hb.size,fun k hk _=>hb.block k hk⟩,?_⟩
 .intro h q ro b he;obtain ⟨hb,e,_⟩:=he;trivial
 .intro h q h' q' b ro' b' β β' _ he;obtain ⟨hb,e,_⟩:=he;trivial
 .intro h q b β he;obtain ⟨hb,e,_⟩:=he;trivial
theorem f0W {P:Program} {f:FuncId} {fn:Func} (h:P.funcs[f]? =some fn) (hb:fn.body.isSome=true) (hn:(fn.name=="runtime.NumGoroutine")=false):d0C P f:=by
 obtain ⟨c,hc⟩:=s1q.1 hb;exact ⟨fn,c,h,hc,hn⟩
theorem f0X:∀(n:Nat) (sn:List Nat),sn.Nodup->(∀i∈sn,i<n)->sn.length<=n
 |0,sn,_,h=>by cases sn with|nil=>simp|cons x r=>exact absurd (h x (by simp)) oM
 |n+1,sn,hd,h=>by
  by_cases hm:n∈sn
  .have:=f0X n (sn.erase n) (hd.erase n) (fun i hi=>by
    grind)
   simp_all
  .have:=f0X n sn hd (fun i hi=>by
    grind)
   omega
theorem c0O {n i:Nat} {sn:List Nat} (hd:sn.Nodup) (h:∀i∈sn,i<n) (hi:i<n) (hn:¬i∈sn):sn.length<n:=by
 have:=f0X n (i::sn) (t1D.2 ⟨hn,hd⟩) (fun x hx=>by grind);trivial
theorem o0D {n:Nat} {sn:List Nat} (hd:sn.Nodup) (hl:∀i∈sn,i<n) (ha:∀i,i<n->i∈sn):sn.Perm (List.range n):=by
 grind
theorem h0w {α:Type} (l:List α) (d:α):(List.range l.length).map (fun i=>l.getD i d)=l:=by
 refine u1F (by simp) ?_;simp_all
def h0M:Code->List Code
 | .seq a b=>h0M a++h0M b
 | .cond _ a b=>h0M a++h0M b
 | .block _ c=>h0M c
 | .loop c=>c::h0M c
 |_=> []
def lpc (f:Func) (k:Nat):Code:=match f.body with|some c=>(h0M c).getD k .skip|none=> .skip
def lpK {α:Type} (n0:Nat) (st:α->VS) (inv:α->Prop) (μ:α->Nat) (K:Exit->VS->Prop) (x:α):Exit->VS->Prop:=fun e v'=>match e with| .normal=>∃y l u,inv y/\μ y<μ x/\upK u v' (fun v=>Weak n0 l v (st y))|e=>K e v'
theorem b0g {α:Type} {n0:Nat} {body:VS->(Exit->VS->Prop)->Prop} {vs:VS} {K:Exit->VS->Prop} (st:α->VS) (inv:α->Prop) (μ:α->Nat) (x0:α) (l0:List Nat) (u0:List Up) (hw:upK u0 vs (fun v=>Weak n0 l0 v (st x0))) (hi:inv x0)
  (hr:∀x,inv x->body (st x) (lpK n0 st inv μ K x)):a0o n0 body vs K:=⟨α,st,inv,μ,x0,l0,u0,hw,hi,hr⟩
section
variable {P:Program}
theorem f0Y {β:Base} (h:β.es=1) (i:Nat):β.addr i 0=⟨β.blk,β.off+i,none⟩:=by simp_all [Base.addr]
def k1n {α:Type} [Inhabited α] (P:Program) (f:FuncId) (enc:α->Value) (srt:List α->List α):Prop:=
 (∀(blk off cap:Nat) (ss:List α) (W:World),Go.Sort.Holds enc W blk off ss.toArray->blk<W.heap.size->ss.length<4611686018427387904->
  Calls P f #[.slice (some ⟨blk,off,none⟩) ss.length cap] W fun e w'=>e= .returned (.tuple #[])/\∃k os,w'=Go.Sort.grow (Go.Sort.putRow enc (Go.Sort.ahead W k) blk off (srt ss).toArray) os)/\
 (∀(p:Option Addr) (cap:Nat) (W:World),Calls P f #[.slice p 0 cap] W fun e w'=>e= .returned (.tuple #[])/\w'=W)
theorem b1b {α:Type} [Inhabited α] {f:FuncId} {enc:α->Value} {srt:List α->List α} (mk:List α->Col) (hs:k1n P f enc srt) (hbd:d0C P f) (hl:∀l,(mk l).len=l.length) (hv:∀l i,i<l.length->(mk l).val i=enc (l.toArray[i]!)) (h1:∀x,(enc x).oneCell'=true) (hp:∀l,(srt l).length=l.length)
  (n:Nat) (l:List α) (hn:n<4611686018427387904):FC P 2 f [.sl 1 0 0 n] [(1,some (.one false (.cols n [.sc (mk l)])))] (a0g (.tup []) [(1,some (.one false (.cols n [.sc (mk (srt l))])))] 2):=by
 refine Or.inl ⟨hbd,fun g w vals hg hu hH hvs=> ?_⟩;obtain ⟨v,vs',rfl,hv0,hv1⟩:=hvs;subst hv1;obtain ⟨a,c,rfl,hnc,hc⟩:=rsv hv0;have hE:Ent [(1,some (HB.one false (Blk.cols n [.sc (mk l)])))] 1 0 false (Blk.cols n [.sc (mk l)]):=⟨_,rfl,⟨rfl,rfl⟩,rfl⟩;obtain ⟨β,hgβ,hB⟩:=hH.blk 1 0 false _ hE;have hlen:l.length=n:=by rw [<-hl];exact hB.len _ (b1h.2 rfl)
 have hes:β.es=1:=hB.es;have only:∀{b:Blk} {h q:Nat} {ro:Bool} {b':Blk},Ent [(1,some (HB.one false b))] h q ro b'->h=1/\q=0/\ro=false/\b'=b:=by
  rintro b h q ro b' ⟨hb,e,hi,hr⟩;rw [a0T] at e;split at e
  .cases e;rename_i e1;exact ⟨e1.symm,hi.1,hr.symm,hi.2⟩
  .cases e
 by_cases h0:n=0
 .subst h0;refine (hs.2 a c w).mono ?_;rintro e w' ⟨rfl,rfl⟩;have hsn:srt l=l:=by grind
  rw [hsn];refine ⟨_,rfl,_,_,_,g,rX,m0c _,hu,fun _ _ _=>rfl,?_,hH,a0b a0c,Fr.refl _ _,?_⟩
  .exact ⟨_,rfl,by rfl⟩
  .intro h q b β' he hg' hc';exact .inl ⟨h,q,b,β',he,hg',hc',rfl⟩
 .obtain hc|⟨β',hg',ha,hcap⟩:=hc
  .omega
  .rw [hgβ] at hg';cases hg';have hcp:0<β.cap:=oM
   subst ha;have hHo:Go.Sort.Holds enc w β.blk β.off l.toArray:=by
    intro j hj;have hj':j<n:=by grind
    obtain ⟨x,hx,hr⟩:=hB.cell j 0 _ hj' rfl;rw [f0Y hes] at hx;refine ⟨?_,?_⟩
    .rw [hx];have:=hv l j oM;rw [<-this];have e1:(BCol.sc (mk l)).at j=(mk l).at j:=rfl;rw [e1] at hr;have h2:=Col.at_ok g (mk l) j;revert hr h2;cases mk l<;>simp [Col.at,Col.val,Rv]
    .have:=(hB.rw rfl j 0 oM oM).1
     rwa [f0Y hes] at this
   have hlt:=hB.lt hcp;have hca:=hs.1 β.blk β.off c l w hHo hlt oM;rw [hlen] at hca;have ea:β.addr 0 0=⟨β.blk,β.off,none⟩:=by rw [f0Y hes];rfl
   rw [ea];refine hca.mono ?_;rintro e w' ⟨rfl,k,os,rfl⟩;have hss:(srt l).toArray.size=n:=by grind
   have cellP:∀j,j<n->(Go.Sort.grow (Go.Sort.putRow enc (Go.Sort.ahead w k) β.blk β.off (srt l).toArray) os).cell? ⟨β.blk,β.off+j,none⟩=some (enc ((srt l).toArray[j]!)):=by
    intro j hj;rw [Go.Sort.cell?_grow _ _ _ (by simpa using hlt)];exact Go.Sort.cell?_putRow enc (Go.Sort.ahead w k) β.blk β.off l.toArray (srt l).toArray hHo (by grind) j oM
   have cellO:∀j,n<=j->(Go.Sort.grow (Go.Sort.putRow enc (Go.Sort.ahead w k) β.blk β.off (srt l).toArray) os).cell? ⟨β.blk,β.off+j,none⟩=w.cell? ⟨β.blk,β.off+j,none⟩:=by
    intro j hj;rw [Go.Sort.cell?_grow _ _ _ (by simpa using hlt)];rw [Go.Sort.cell?_putRow_other _ _ _ _ _ _ (.inr (.inr (by rw [hss];show β.off+n<=β.off+j;omega)))];rfl
   refine ⟨_,rfl,_,_,_,g,rX,m0c _,hu,fun _ _ _=>rfl,?_,⟨?_,?_⟩,a0b a0c,⟨rfl,rfl,rfl,by simp,?_⟩,?_⟩
   .exact ⟨_,rfl,by simp [Rvs]⟩
   .intro h q ro b he;obtain ⟨rfl,rfl,rfl,rfl⟩:=only he;refine ⟨β,hgβ,?_⟩;refine ⟨fun _=>by simp;omega,hes,?_,hB.cap,?_,?_,?_,trivial⟩
    .intro c' hc';rw [b1h] at hc';subst hc';show (mk (srt l)).len=n;rw [hl,hp,hlen]
    .intro i j sv hi hj;have hi':i<n:=hi;cases j with
     |succ j=>simp [Blk.at,nth] at hj
     |zero=>
      simp only [Blk.at,nth,injEq] at hj;subst hj;rw [f0Y hes];refine ⟨_,cellP i hi',?_⟩;rw [<-hv (srt l) i (by rw [hp];omega)];exact Col.at_ok g _ i
    .intro i j v hi hj hx;have hi':i<n:=hi;obtain rfl:j=0:=oM
     rw [f0Y hes,cellP i hi'] at hx;cases hx;exact h1 _
    .intro _ i j hi hj;obtain rfl:j=0:=oM
     have hx:=hB.rw rfl i 0 hi oM;rw [f0Y hes] at hx⊢;refine ⟨?_,?_⟩
     .rw [Go.Sort.frozen?_grow _ _ _ (by simpa using hlt),Go.Sort.frozen?_putRow];exact hx.1
     .by_cases hi2:i<n
      .exact ⟨_,cellP i hi2⟩
      .rw [cellO i oM];exact hx.2
   .intro h q h' q' b ro' b' β1 β2 hne he he' _ _ _ _;obtain ⟨rfl,rfl,_,_⟩:=only he;obtain ⟨rfl,rfl,_,_⟩:=only he';exact absurd ⟨rfl,rfl⟩ hne
   .intro x hx hW;have hne:x≠β.blk:=fun e=>hW ⟨1,0,_,β,hE,hgβ,hcp,e.symm⟩
    rw [Go.Sort.heap_grow_old _ _ (by simpa using hx)];simp only [Go.Sort.putRow,Go.Sort.mapBlock,r1Y,if_neg (Ne.symm hne),Go.Sort.heap_ahead]
   .intro h q b β' he hg' hc';obtain ⟨rfl,rfl,_,_⟩:=only he;rw [hgβ] at hg';cases hg';exact .inl ⟨1,0,_,β,hE,hgβ,hc',rfl⟩
def toB (b:List UInt8):ByteArray:=⟨b.toArray⟩
def ofB (s:ByteArray):List UInt8:=s.data.toList
theorem b1c (s:ByteArray):toB (ofB s)=s:=rfl
def sortS (l:List ByteArray):List ByteArray:=((l.map ofB).mergeSort (fun x y=>decide (x<=y))).map toB
def sortI (l:List Int):List Int:=l.mergeSort (fun x y=>decide (x<=y))
theorem c0o (l:List ByteArray):(sortS l).length=l.length:=by simp [sortS]
theorem f0Z (l:List Int):(sortI l).length=l.length:=by simp [sortI]
theorem l0Z (l:List ByteArray):(l.map ofB).map toB=l:=by rw [u1S];exact List.map_id l
theorem d0M (l:List ByteArray):(sortS l).Perm l:=by
 have:=(u1m (l.map ofB) (fun x y=>decide (x<=y))).map toB
 rwa [l0Z] at this
theorem f1M {f:FuncId} (hs:k1n P f Go.Proofs.encStr (fun ss:List (List UInt8)=>ss.mergeSort fun x y=>decide (x<=y))) (hbd:d0C P f) (n:Nat) (l:List ByteArray) (hn:n<4611686018427387904):
  FC P 2 f [.sl 1 0 0 n] [(1,some (.one false (.cols n [.sc (.strs l)])))] (a0g (.tup []) [(1,some (.one false (.cols n [.sc (.strs (sortS l))])))] 2):=by
 have h:=b1b (fun ss=> .strs (ss.map toB)) hs hbd (by simp [Col.len]) (by
  simp only [Col.val];grind [toB]) (fun x=>rfl) (by simp) n (l.map ofB) hn
 rw [l0Z] at h;exact h
theorem f1N {f:FuncId} (hs:k1n P f (Value.int .i64) (fun ss:List Int=>ss.mergeSort fun x y=>decide (x<=y))) (hbd:d0C P f) (n:Nat) (l:List Int) (hn:n<4611686018427387904):
  FC P 2 f [.sl 1 0 0 n] [(1,some (.one false (.cols n [.sc (.ints .i64 l)])))] (a0g (.tup []) [(1,some (.one false (.cols n [.sc (.ints .i64 (sortI l))])))] 2):=
 b1b (fun ss=> .ints .i64 ss) hs hbd (by intro l;rfl) (by
  simp [Col.val]) (fun x=>rfl) (by simp) n l hn
theorem y0G {k:TypeId} (hk:P.underlying k=some .string) {g:G} {w:World} {b n ck:Nat} {ea:Bool} {ks:List ByteArray} {vs:List BCol} {bs:List Nat} {es:Array MapEntry} (hb:w.heap[b]? =some (.map es ck)) (hm:MapOk g false ea n [.strs ks] vs bs ck es) (hn:n<=maxLen) (hs:∀s∈ks,s.size<=maxLen) (hnd:ks.Nodup):
  ∃D:DataW Unit,w.ownsMap P k (fun _=>some (.nil,[])) b n D/\(strKeys D).Perm (ks.map ofB)/\Maps.size D=n:=by
 have hkl:ks.length=n:=hm.kl _ (b1h.2 rfl);have hky:es.toList.map (·.key)=ks.map Value.string:=by
  refine u1F (by simp [hm.size,hkl]) ?_;intro i h1 h2;have hi:i<es.size:=by simp_all
  have:=(hm.row i es[i] (f1P hi)).2.1;have hi2:i<ks.length:=by simp_all
  simp_all [a1b,Col.val]
 have hrd:∀x∈es.toList,∃s:ByteArray,x.key= .string s/\WideElems.rd P k (fun _=>some (DataW.nil,[])) x=some (Lit.string s.data.toList,(DataW.nil:DataW Unit)):=by
  intro x hx;have:x.key∈ks.map Value.string:=by grind
  obtain ⟨s,hs1,hs2⟩:=r1U.1 this;unfold WideElems.rd;rw [<-hs2];simp [keyOf,hk,mapKey,hs s hs1]
 refine ⟨_,⟨es,ck,hb,⟨by rw [hm.size];omega,⟨?_,?_,?_⟩,fun x hx=> ?_⟩,by rw [hm.size];omega,rfl⟩,?_,?_⟩
 .intro x hx;obtain ⟨i,hi,rfl⟩:=t1K.1 hx;have hi':i<es.size:=oM
  have:=(hm.row i es[i] (f1P hi')).1;refine hm.lt _ ?_;have:i<bs.length:=by rw [hm.bl,<-hm.size];omega
  simp_all
 .have:es.toList.map (·.born)=bs:=by
   refine u1F (by simp [hm.size,hm.bl]) ?_;intro i h1 h2;have hi:i<es.size:=by simp_all
   have:=(hm.row i es[i] (f1P hi)).1;simp_all
  rw [this];exact hm.nd
 .grind
 .grind
 .refine ((WideShapes.sorted_perm _).map _).trans (List.Perm.of_eq ?_);rw [u1S];refine (u1n (g:=fun x:MapEntry=>match x.key with| .string s=>ofB s|_=> []) ?_).trans ?_
  .intro x hx;obtain ⟨s,hk',h⟩:=hrd x hx;show strOf (WideElems.rg P k _ x).1=_;unfold WideElems.rg;rw [h,hk'];rfl
  .have e1:es.toList.map (fun x:MapEntry=>match x.key with| .string s=>ofB s|_=> [])=(es.toList.map (·.key)).map (fun v=>match v with| .string s=>ofB s|_=> []):=by simp
   simp_all
 .show List.length _=n;rw [(WideShapes.sorted_perm _).length_eq];simp [hm.size]
end
end Go.Sy
namespace Go.Sy
open Go.RowKit Go.Maps Go.Sort Go.Shelf Go.Proofs
section
variable {P:Program} {ρ:Ren}
set_option maxRecDepth 100000 in
set_option maxHeartbeats 1000000 in
theorem f1O (L:SlLaysZ.n10 P ρ) {H:Type} (F:Fence) (n:Nat) (h10:F.fn (ρ.f 10)) (hro:F.round=none) (hn:1<=n) (l Bm o b nn:Nat) (D0:DataW H) {R:Value->Option (DataW H×List MemPlace)} (J:List (List UInt8)->World->Prop)
  (hY:∀pre x W,J pre W->pre.length<Maps.size D0->YieldAt F (n-1) P l #[encStr x] W fun e W'=>e= .returned (.bool true)/\J (pre++ [x]) W'/\KeepsWalks W W')
  (W:World) (hJ:AbidesFrom W.heap.size J) (hm:W.cell? ⟨Bm,o,none⟩=some (.map (some b))) (hown:W.ownsMap P (ρ.t 26) R b nn D0) (h0:J [] W):
  CallsIn F n P (ρ.f 10) #[.func (.yield l) #[] #[],.pointer (some ⟨Bm,o,none⟩)] W fun e W'=>(∃v,e= .returned v)/\∃ss:List (List UInt8),ss.Perm (strKeys D0)/\J ss W':=by
 have mixed:=L.mixed;have t0:=L.t0;have a0:=L.a0;have z0:=L.z0;have v0:=L.v0;have t4:=L.t4;have a4:=L.a4;have z4:=L.z4;have v4:=L.v4;have t23:=L.t23;have a23:=L.a23;have z23:=L.z23;have v23:=L.v23;have t26:=L.t26;have a26:=L.a26;have z26:=L.z26;have v26:=L.v26;have t33:=L.t33;have a33:=L.a33;have z33:=L.z33;have v33:=L.v33;have u0:=run_underlying L.t0;have u4:=run_underlying L.t4;have u23:=run_underlying L.t23;have u26:=run_underlying L.t26;have u33:=run_underlying L.t33;obtain ⟨_,_,FG⟩:=L.f10;refine callsIn_of_wp FG rfl h10 ?_ hro;simp only [SlBodyZ.n10_ntmps ρ,t1k,i1y,s1M,Nat.reduceAdd,Nat.reduceSub,Array.replicate_succ,Array.replicate_zero,List.push_toArray,List.append_toArray,s1L,k1p]
 gi_wp2_with (first
  |(gi_at_range;refine wpListIn_range_own _ rfl _ (ρ.t 23) rfl (ρ.t 26) (ρ.t 3) (string_keyed L.t26) L.t23 _ b nn _ rfl hown ?_;intro w0 hrg0 hg0 hs0)
  |gi_in)
 go_frame
 gi_loopw [3] (fun _ wr=>∃(left:Lit->Bool) (cnt:Nat) (ss:List (List UInt8)),wr.ranges P (ρ.t 26) R b W.heap.size nn D0 left cnt/\ss.length+cnt<=Maps.size D0/\Collected D0 left ss/\J ss wr)
  (fun _ wr=>wr.rangeLeft b W.heap.size)
 case atStart=>
  exact ⟨_,_,[],hrg0,by simp,Collected.start D0,hJ [] W w0 none h0 hg0 (fun r e=>by cases e)⟩
 case round=>
  obtain ⟨left,cnt,ss,hrg,hcs,hC,hJs⟩:=hrel
  gi_wp2_with (first
   |(gi_at_next;refine wpListIn_next_ranges _ rfl _ rfl (ρ.t 26) (string_keyed L.t26) R encStr id (fun key kl hk=>by obtain ⟨x,hx,_⟩:=Maps.keyOf_str L.t26 hk;exact ⟨x,hx⟩) (fun v _ _=>⟨v,rfl⟩) b W.heap.size nn _ _ _ rfl hrg ?_ ?_)
   |gi_in)
  .intro hc0 hl0
   gi_wp2
   go_end0
   exact ⟨⟨_,rfl⟩,ss,hC.perm hown (string_keyed L.t26) L.t26 hl0,hJs⟩
  .intro x c kl yd yp w2 cnt2 hkey hlk hv hat hrg2 hlt hg2 hs2 hen;obtain ⟨x',ex,rfl,_⟩:=Maps.keyOf_str L.t26 hkey;obtain rfl:x=x':=encStr_inj ex;have hJ2:J ss w2:=hJ ss wr w2 (some W.heap.size) hJs hg2 (fun r e=>by cases e;exact ⟨m0c _,hrg.iter_walk⟩);obtain ⟨fn,tmps,assign,body,hy,hR⟩:=hY ss x w2 hJ2 (by omega);clear hs2
   gi_wp2
   refine hR.mono ?_;rintro e W3 ⟨rfl,hJ3,hk3⟩
   gi_wp2
   have hrg3:=hrg2.of_walks hk3
   go_roundw
   case rel=>exact ⟨_,cnt2,ss++ [x],hrg3,by simp;omega,hC.step hlk hat,hJ3⟩
   case measure=>rw [hrg3.left_eq,hrg.left_eq];exact hlt
theorem u0e (L:SlLaysZ.n10 P ρ) {H:Type} (F:Fence) (n:Nat) (h10:F.fn (ρ.f 10)) (hro:F.round=none) (hn:1<=n) (Bm o b nn:Nat) (D0:DataW H) {R:Value->Option (DataW H×List MemPlace)} (w:World) (hBm:Bm<w.heap.size)
  (hm:w.cell? ⟨Bm,o,none⟩=some (.map (some b))) (hown:w.ownsMap P (ρ.t 26) R b nn D0):
  SeqGives F n P (ρ.f 10) #[.pointer (some ⟨Bm,o,none⟩)] encStr (fun ss=>ss.Perm (strKeys D0)) (Maps.size D0) w:=fun l J W hW hJ hY h0=>by
 have hown':W.ownsMap P (ρ.t 26) R b nn D0:=by
  have hbl:=hown.lt;obtain ⟨es,clock,hb,Ft,hs,hD⟩:=hown;exact ⟨es,clock,(hW.block b hbl).trans hb,Ft,hs,hD⟩
 exact f1O { L with} F n h10 hro hn l Bm o b nn D0 J hY W hJ ((hW.cell (p:=⟨Bm,o,none⟩) hBm).trans hm) hown' h0
theorem b1d {ρ':Ren} {f it:FuncId} {kt:TypeId} (hf:ρ'.f 6=f) (hi:ρ.f 10=it) (hkt:ρ.t 26=kt) (Lk:SlLaysZ.n10 P ρ) (Ls:SlLaysZ.n6 P ρ') (hsrt:∀m,AnyZ.SortsIn P ρ' Fence.wide m) (hbd:d0C P f) (e9:∀args w,(callFunc (ρ'.f 9) args).run P w= .ok (.enter (ρ'.f 9) args) w) (eit:∀args w,(callFunc it args).run P w= .ok (.enter it args) w) (hk:P.underlying kt=some .string)
  {ea:Bool} {n:Nat} {ks:List ByteArray} {vs:List BCol} {bs:List Nat} {ck:Nat} (hn:n<=100000) (hz:∀s∈ks,s.size<=maxLen) (hnd:ks.Nodup):
  FC P 3 f [.fn it [.ptr 2 0 0 0]] [(1,some (.one true (.obj (.map false ea n [.strs ks] vs bs ck)))),(2,some (.one true (.cells [.map 1 0])))] (a0g (.sl 3 0 0 n) [(3,some (.one false (.cols n [.sc (.strs (sortS ks))])))] 4):=by
 subst hf hi hkt;refine Or.inl ⟨hbd,fun g w vals hg hu hH hvs=> ?_⟩;obtain ⟨v,vs',rfl,hv0,hv1⟩:=hvs;subst hv1;obtain ⟨cap,rfl,hcap⟩:=hv0;obtain ⟨pv,vs2,hp1,hp2,hp3⟩:=hcap;simp only [Rvs] at hp3;subst hp3;obtain ⟨β2,hg2,rfl⟩:=rpv hp2;have hcap':cap= #[.pointer (some (β2.addr 0 0))]:=by grind
 subst hcap';have hE1:Ent [(1,some (HB.one true (Blk.obj (.map false ea n [.strs ks] vs bs ck)))),(2,some (HB.one true (Blk.cells [.map 1 0])))] 1 0 true (Blk.obj (.map false ea n [.strs ks] vs bs ck)):=⟨_,rfl,⟨rfl,rfl⟩,rfl⟩;have hE2:Ent [(1,some (HB.one true (Blk.obj (.map false ea n [.strs ks] vs bs ck)))),(2,some (HB.one true (Blk.cells [.map 1 0])))] 2 0 true (Blk.cells [.map 1 0]):=⟨_,rfl,⟨rfl,rfl⟩,rfl⟩;obtain ⟨β1,hg1,hB1⟩:=hH.blk 1 0 true _ hE1;obtain ⟨β2',hg2',hB2⟩:=hH.blk 2 0 true _ hE2;rw [hg2] at hg2';cases hg2';obtain ⟨_,_,es,hb1,hm1⟩:=hB1.obj;obtain ⟨x,hx,hrx⟩:=hB2.cell 0 0 _ rfl rfl;obtain ⟨β1',hg1',rfl⟩:=hrx;rw [hg1] at hg1';cases hg1';have hc2:0<β2.cap:=hB2.cap 0 rfl;have hlt2:=hB2.lt hc2;have hml:n<=maxLen:=n1r hn dC;obtain ⟨D,hown,hperm,hsz⟩:=y0G hk hb1 hm1 hml hz hnd;have hseq:=u0e Lk Fence.wide 2 trivial rfl oM β2.blk (β2.off+0*β2.es+0) β1.blk n D w hlt2 hx hown;rw [hsz] at hseq;have hca:=AnyZ.sorted_in Ls Fence.wide 5 trivial trivial trivial trivial rfl oM (hsrt _) e9 _ _ trivial eit _ n hml oM w hseq;refine (callsIn_wide.1 hca).mono ?_;rintro e w' ⟨v,ss,rfl,hS,hrow,hnil,hbel⟩;have hpm:ss.Perm (ks.map ofB):=hS.trans hperm;have hkl:ks.length=n:=hm1.kl _ (b1h.2 rfl);have hsl:ss.length=n:=by rw [hpm.length_eq,f1R,hkl]
 have hso:(ss.mergeSort (fun x y=>decide (x<=y)))=((ks.map ofB).mergeSort (fun x y=>decide (x<=y))):=mergeSort_of_perm hpm;rw [hso,hsl] at hrow;have hs':((ks.map ofB).mergeSort (fun x y=>decide (x<=y))).map encStr=(sortS ks).map Value.string:=by
  unfold sortS;rw [u1S];rfl
 rw [hs'] at hrow;obtain ⟨hl0,hr⟩:=hrow;have frm:Fr (f0z g [(1,some (HB.one true (Blk.obj (.map false ea n [.strs ks] vs bs ck)))),(2,some (HB.one true (Blk.cells [.map 1 0])))]) w w':=⟨hbel.os,hbel.tape,hbel.output,hbel.size,fun k hk _=>hbel.block k hk⟩;have only:∀{b:Blk} {h q:Nat} {ro:Bool} {b':Blk},Ent [(3,some (HB.one false b))] h q ro b'->h=3/\q=0/\ro=false/\b'=b:=by
  rintro b h q ro b' ⟨hb,e,hi,hr⟩;rw [a0T] at e;split at e
  .cases e;rename_i e1;exact ⟨e1.symm,hi.1,hr.symm,hi.2⟩
  .cases e
 obtain ⟨β,hβ,hrv,hB,horg⟩:∃β:Base,β.off=0/\Rv (g.add 3 β) (.sl 3 0 0 n) v/\BlkAt (g.add 3 β) β false (Blk.cols n [.sc (.strs (sortS ks))]) w'/\(0<β.cap->w.heap.size<=β.blk):=by
  rcases hr with ⟨rfl,hz0⟩|⟨gb,cp,cur,rfl,hbase,hgb,r1,r2,r3,r4⟩
  .subst hz0;refine ⟨⟨0,0,1,0⟩,rfl,?_,?_,fun h=>absurd h (by simp)⟩
   .simp only [Rv];grind
   .refine ⟨fun h=>absurd h (by simp),rfl,?_,fun i hi=>absurd hi (p1R _),fun i j sv hi=>absurd hi (p1R _),fun i j v hi=>absurd hi (p1R _),fun _ i j hi=>absurd hi (p1R _),trivial⟩;intro c hc;rw [b1h] at hc;subst hc;show (sortS ks).length=0;grind
  .have hcell:∀i,i<n->cur[i]? =some (Value.string ((sortS ks).getD i ⟨#[]⟩)):=by
    intro i hi;have h1:(cur.toList.take (n*1))[i]? =((sortS ks).map Value.string)[i]?:=by grind
    grind
   have hglt:gb<w'.heap.size:=(p1Q.1 hgb).1;refine ⟨⟨gb,0,1,cp⟩,rfl,?_,?_,fun _=>hbase⟩
   .simp only [Rv];refine ⟨_,_,rfl,r1,.inr ⟨⟨gb,0,1,cp⟩,by rfl,rfl,by simp⟩⟩
   .refine ⟨fun _=>hglt,rfl,?_,fun i hi=>s1j hi r1,?_,?_,?_,trivial⟩
    .intro c hc;rw [b1h] at hc;subst hc;show (sortS ks).length=n;grind
    .intro i j sv hi hj;have hi':i<n:=hi;cases j with
     |succ j=>trivial
     |zero=>
      simp only [Blk.at,nth,injEq] at hj;subst hj;refine ⟨(Col.strs (sortS ks)).val i,?_,Col.at_ok _ (Col.strs (sortS ks)) i⟩;rw [f0Y (β:=⟨gb,0,1,cp⟩) rfl];simp only [World.cell?,hgb,i1z,hcell i hi'];rfl
    .intro i j v hi hj hx;have hi':i<n:=hi;obtain rfl:j=0:=by have:j<1:=hj;omega
     rw [f0Y (β:=⟨gb,0,1,cp⟩) rfl] at hx;simp only [World.cell?,hgb,i1z,hcell i hi'] at hx;cases hx;rfl
    .intro _ i j hi hj;obtain rfl:j=0:=by have:j<1:=hj;omega
     have hi':i<cp:=hi;rw [f0Y (β:=⟨gb,0,1,cp⟩) rfl];refine ⟨by simp [World.frozen?,hgb],?_⟩;have:i<cur.size:=oM
     exact ⟨cur[i],by simp [World.cell?,hgb,this]⟩
 refine ⟨v,rfl,_,_,_,g.add 3 β,rX,by omega,?_,?_,hrv,⟨?_,?_⟩,a0b a0c,frm,?_⟩
 .intro h q hh;simp only [G.add];rw [if_neg oM];exact hu h q oM
 .intro h q hh;simp only [G.add];rw [if_neg oM]
 .intro h q ro b he;obtain ⟨rfl,rfl,rfl,rfl⟩:=only he;exact ⟨β,by simp [G.add],hB⟩
 .intro h q h' q' b ro' b' β1 β2 hne he he' _ _ _ _;obtain ⟨rfl,rfl,_,_⟩:=only he;obtain ⟨rfl,rfl,_,_⟩:=only he';exact absurd ⟨rfl,rfl⟩ hne
 .intro h q b β' he hg' hc';obtain ⟨rfl,rfl,_,_⟩:=only he;simp only [G.add,and_self,if_true,injEq] at hg';subst hg';exact .inr (horg hc')
end
end Go.Sy
namespace Go.Sy
open Go.RowKit
theorem b1e {g:G} {w w':World} {n:Nat} {H:a0k} {cs:List BCol} {v:Value} (hl:j0v cs=true) (h:Out g w n H (fun r H' n'=>a0g .nsl [] n r H' n'\/a0g (.sl n 0 0 0) [(n,some (.one false (.cols 0 cs)))] (n+1) r H' n') v w'):Out g w n H (a0g (.sl n 0 0 0) [(n,some (.one false (.cols 0 cs)))] (n+1)) v w':=by
 obtain ⟨sv,H',n',g',hp,hn,hu,hk,hv,hH,hrw,hfr,hown⟩:=h;rcases hp with ⟨rfl,rfl,rfl⟩|hp
 .have ent:∀{h q:Nat} {ro:Bool} {b:Blk},Ent [(n',some (.one false (.cols 0 cs)))] h q ro b->h=n'/\q=0/\ro=false/\b= .cols 0 cs:=by
   rintro h q ro b ⟨hb,e,hi,hr⟩;simp only [a0w] at e;cases hc:Nat.beq n' h with
   |false=>simp_all
   |true=>
    rw [hc] at e;simp only [cond_true,injEq] at e;subst e;exact ⟨(q0d hc).symm,hi.1,hr.symm,hi.2⟩
  refine ⟨_,_,_,g'.add n' ⟨0,0,cs.length,0⟩,rX,s1f _,?_,?_,?_,⟨?_,?_⟩,a0b a0c,hfr,?_⟩
  .intro h q hh;have e:h≠n':=oM
   simp only [G.add];rw [if_neg (fun x=>e x.1)];exact hu h q oM
  .grind [G.add]
  .rw [a1z hv];simp only [Rv];grind
  .intro h q ro b he;obtain ⟨rfl,rfl,rfl,rfl⟩:=ent he;exact ⟨_,a1Z,fun h=>by trivial,rfl,j0F cs hl,fun i hi=>by trivial,fun i j sv hi=>by trivial,fun i j v hi=>by trivial,fun _ i j hi=>by trivial,trivial⟩
  .grind
  .intro h q b β he hg hc;grind [a1Z]
 .exact ⟨sv,H',n',g',hp,hn,hu,hk,hv,hH,hrw,hfr,hown⟩
theorem o0E {P:Program} {n:Nat} {f:FuncId} {args:List SV} {H:a0k} {cs:List BCol} (hl:j0v cs=true) (h:FC P n f args H (fun r H' n'=>a0g .nsl [] n r H' n'\/a0g (.sl n 0 0 0) [(n,some (.one false (.cols 0 cs)))] (n+1) r H' n')):FC P n f args H (a0g (.sl n 0 0 0) [(n,some (.one false (.cols 0 cs)))] (n+1)):=by
 rcases h with ⟨hb,h⟩|h
 .refine .inl ⟨hb,fun g w vals h1 h2 h3 h4=>(h g w vals h1 h2 h3 h4).mono ?_⟩;rintro e w' ⟨v,rfl,ho⟩;exact ⟨v,rfl,b1e hl ho⟩
 .refine .inr (fun g w vals h1 h2 h3 h4=> ?_);grind [b1e]
theorem c0y {n0:Nat} {p q:SV->a0k->Nat->Prop} {r:SV} {vs:VS} (h:∀a b c,p a b c->q a b c):a0E n0 p r vs->a0E n0 q r vs:=fun ⟨l,u,r0,H0,n1,a,b⟩=>⟨l,u,r0,H0,n1,a,h _ _ _ b⟩
theorem a0O {n:Nat} {R:Nat->Nat->Option (Nat×Nat)} (s:SV):SLe n R s s:=fun g g1 v hle _ h=>Rv.mono hle s v h
theorem g0a {n:Nat} {R:Nat->Nat->Option (Nat×Nat)} {h q h' q' i k:Nat} (hn:n<=h') (e:R h' q'=some (h,q)):SLe n R (.sl h q i k) (.sl h' q' i k):=by
 intro g g1 v hle hR hv;grind [Rv]
theorem m0a {h q:Nat} {ro:Bool} {b:Blk}:¬Ent [] h q ro b:=fun ⟨hb,e,_⟩=>by trivial
theorem b1i (l:List Int) (x:Int):a0S l x<=l.length:=by
 induction l with
 |nil=>simp [a0S]
 |cons a l ih=>
  grind [a0S]
theorem b0o {l:List Int} {s:Int}:a0S l s<l.length↔s∈l:=by
 induction l with
 |nil=>simp
 |cons x l ih=>
  grind [a0S]
theorem f0d {l:List Int} {s:Int} (h:a0S l s<l.length):l[a0S l s]? =some s:=by
 induction l with
 |nil=>trivial
 |cons x l ih=>
  simp only [a0S] at h⊢;grind
theorem u0g {l:List Int} (hd:l.Nodup) {i:Nat} {s:Int} (h:l[i]? =some s):a0S l s=i:=by
 have hm:s∈l:=s1g.2 ⟨i,h⟩;have h2:=f0d (b0o.2 hm);obtain ⟨_,e1⟩:=s1I.1 h;obtain ⟨_,e2⟩:=s1I.1 h2;exact (u1I hd).1 (e2.trans e1.symm)
theorem q0e {l:List Int} {s:Int}:b0j (a0S l s) s l=if a0S l s<l.length then l else l++ [s]:=by
 unfold b0j;split
 .rename_i h;have:=f0d h;refine s1P fun i=> ?_
  grind
 .rfl
theorem j0G (l:List Int):(sortI l).Perm l:=u1m l _
theorem e0w (l:List Int):(sortI l).Pairwise (fun a b=>a<=b):=by
 have h:=u1X (le:=fun x y:Int=>decide (x<=y)) (fun a b c h1 h2=>by grind) (fun a b=>by grind) l;exact h.imp (fun {a b} h=>by simp_all)
theorem m0d {l m:List Int} (h:l.Perm m):sortI l=sortI m:=
 u1T (le:=fun a b:Int=>a<=b) (fun a b _ _ h1 h2=>by omega) (e0w l) (e0w m) ((j0G l).trans (h.trans (j0G m).symm))
end Go.Sy
namespace Go.Sy
open Go.RowKit Go.ChangeShapes Go.WideShapes Go.Deep
inductive CK where
 |int (k:IntKind)
 |bool
 |str
def d0q:CK->Value->Prop
 | .int k,v=>∃n,v= .int k n/\(Lit.int k n).wf=true
 | .bool,v=>∃b,v= .bool b
 | .str,v=>∃s,v= .string s/\s.size<=maxLen
def AllOk:List CK->List Value->Prop
 | [],vs=>vs= []
 |c::cs,vs=>∃v r,vs=v::r/\d0q c v/\AllOk cs r
theorem AllOk.length:∀(ks:List CK) (vs:List Value),AllOk ks vs->vs.length=ks.length
 | [],vs,h=>by simp_all [AllOk]
 |c::cs,vs,h=>by obtain ⟨v,r,rfl,_,h⟩:=h;simp [AllOk.length cs r h]
theorem AllOk.append:∀(a b:List CK) (vs:List Value),AllOk a (vs.take a.length)->AllOk b (vs.drop a.length)->AllOk (a++b) vs
 | [],b,vs,_,h=>by trivial
 |c::a,b,vs,h1,h2=>by
  cases vs with
  |nil=>simp_all [AllOk]
  |cons v vs=>
   obtain ⟨v',r,e,hc,hr⟩:=h1;obtain ⟨rfl,rfl⟩:=e;exact ⟨v,vs,rfl,hc,AllOk.append a b vs hr (by trivial)⟩
mutual
def j0H (P:Program):Nat->TypeId->Option (List CK)
 |0,_=>none
 |n+1,t=>match P.underlying t with
  |some .bool=>some [.bool]
  |some (.int k)=>some [.int k]
  |some .string=>some [.str]
  |some (.struct fs)=>match h0x P n 0 fs.toList with
   |some ks=>bif Nat.beq (P.cellsOf t) ks.length then some ks else none
   |none=>none
  |_=>none
def h0x (P:Program):Nat->Nat->List Field->Option (List CK)
 |0,_,_=>none
 |_+1,_,[]=>some []
 |n+1,o,f::r=>bif Nat.beq f.offset o then (match j0H P n f.type with
  |some a=>bif Nat.beq (P.cellsOf f.type) a.length then (match h0x P n (o+a.length) r with|some b=>some (a++b)|none=>none) else none
  |none=>none) else none
end
section
variable {H:Type} {enc:TypeId×Value->H} {P:Program} {w:World} {base:Nat} {spare:Nat->Bool} {held:Bool}
theorem n0L:∀m:Nat,(∀(t:TypeId) (ks:List CK) (fuel:Nat) (cs:List Value) (x:DataW H×List MemPlace),j0H P m t=some ks->DataW.trod enc P w base spare held fuel t cs=some x->AllOk ks cs)/\
  (∀(o:Nat) (fs:List Field) (ks:List CK) (cs:List Value) (n:Nat),h0x P m o fs=some ks->cs.length=o+ks.length->(∀f∈fs,∃y,DataW.trod enc P w base spare held n f.type ((cs.drop f.offset).take (P.cellsOf f.type))=some y)->AllOk ks (cs.drop o)):=by
 intro m;induction m with
 |zero=>simp [j0H,h0x]
 |succ m ih=>
  refine ⟨?_,?_⟩
  .intro t ks fuel cs x h ht;simp only [j0H] at h;split at h
   .rename_i hu;simp only [injEq] at h;subst h;obtain ⟨b,rfl,_⟩:=DataW.trod_bool hu ht;simp only [AllOk,d0q];simp
   .rename_i k hu;simp only [injEq] at h;subst h;obtain ⟨n,rfl,_,hw⟩:=DataW.trod_int hu ht;simp only [AllOk,d0q];simp_all
   .rename_i hu;simp only [injEq] at h;subst h;obtain ⟨s,rfl,_,hw⟩:=DataW.trod_string hu ht;simp only [AllOk,d0q];simp_all
   .rename_i fs hu;split at h
    .rename_i ks' hks;cases hb:Nat.beq (P.cellsOf t) ks'.length with
     |false=>simp_all
     |true=>
      rw [hb] at h;simp only [cond_true,injEq] at h;subst h;obtain ⟨xs,n,_,_,hlen,hxl,hf⟩:=DataW.trod_struct hu ht;have:=ih.2 0 fs.toList ks' cs n hks (by simp_all) (by
       intro f hf';obtain ⟨i,hi,rfl⟩:=s1B hf';have hi':i<fs.size:=oM
       have h1:=hf i fs[i] (by simp);simp_all)
      trivial
    grind
   grind
  .intro o fs ks cs n h hlen hall;cases fs with
   |nil=>
    simp_all [h0x,AllOk,t1d]
   |cons f r=>
    simp only [h0x] at h;cases ho:Nat.beq f.offset o with
    |false=>simp_all
    |true=>
     rw [ho] at h;simp only [cond_true] at h;split at h
     .rename_i a ha;cases hb:Nat.beq (P.cellsOf f.type) a.length with
      |false=>simp_all
      |true=>
       rw [hb] at h;simp only [cond_true] at h;split at h
       .rename_i b hbb;simp only [injEq] at h;subst h;have eo:=q0d ho;have ea:=q0d hb;obtain ⟨y,hy⟩:=hall f (by simp);have h1:=ih.1 f.type a n _ y ha hy;rw [eo,ea] at h1;refine AllOk.append a b (cs.drop o) h1 ?_;rw [u1A];exact ih.2 (o+a.length) r b cs n hbb (by simp at hlen;omega) (fun f' hf'=>hall f' (by simp [hf']))
       grind
     grind
theorem m0e {m:Nat} {t:TypeId} {ks:List CK} {fuel:Nat} {cs:List Value} {x:DataW H×List MemPlace} (h:j0H P m t=some ks) (ht:DataW.trod enc P w base spare held fuel t cs=some x):AllOk ks cs:=(n0L m).1 t ks fuel cs x h ht
def i1C:Value->Int| .int _ n=>n|_=>0
def i1D:Value->ByteArray| .string s=>s|_=>⟨#[]⟩
def b1j:Value->Bool| .bool b=>b|_=>false
def d0w:CK->Col->Nat->Prop
 | .int k,c,n=>∃l,c= .ints k l/\l.length=n/\∀x∈l,(Lit.int k x).wf=true
 | .bool,c,n=>∃l,c= .bools l/\l.length=n
 | .str,c,n=>∃l,c= .strs l/\l.length=n/\∀x∈l,x.size<=maxLen
def b0d:List CK->List Col->Nat->Prop
 | [],l,_=>l= []
 |c::cs,l,n=>∃x r,l=x::r/\d0w c x n/\b0d cs r n
def i0z (n:Nat) (v:Nat->Value):CK->Col
 | .int k=> .ints k ((List.range n).map fun i=>i1C (v i))
 | .bool=> .bools ((List.range n).map fun i=>b1j (v i))
 | .str=> .strs ((List.range n).map fun i=>i1D (v i))
def b0p (n:Nat) (v:Nat->Nat->Value):Nat->List CK->List Col
 |_,[]=> []
 |j,c::cs=>i0z n (fun i=>v i j) c::b0p n v (j+1) cs
theorem d0h {α:Type} (n:Nat) (f:Nat->α) (d:α) (i:Nat) (h:i<n):((List.range n).map f).getD i d=f i:=by
 simp_all
theorem m0f {n:Nat} {v:Nat->Value} {c:CK} {g:G} {i:Nat} (hi:i<n) (h:d0q c (v i)):Rv g ((i0z n v c).at i) (v i):=by
 cases c with
 |int k=>obtain ⟨m,e,_⟩:=h;simp_all [i0z,Col.at,i1C,Rv]
 |bool=>obtain ⟨b,e⟩:=h;simp_all [i0z,Col.at,b1j,Rv]
 |str=>obtain ⟨s,e,_⟩:=h;simp_all [i0z,Col.at,i1D,Rv]
theorem h0N (n:Nat) (v:Nat->Nat->Value):∀(cs:List CK) (j k:Nat),nth (b0p n v j cs) k=(nth cs k).map (fun c=>i0z n (fun i=>v i (j+k)) c)
 | [],j,k=>by rfl
 |c::cs,j,0=>by rfl
 |c::cs,j,k+1=>by
  simp only [b0p,nth];rw [h0N n v cs (j+1) k,show j+1+k=j+(k+1) from by omega]
theorem e0I (n:Nat) (v:Nat->Nat->Value):∀(cs:List CK) (j:Nat),(∀i,i<n->∀k c,nth cs k=some c->d0q c (v i (j+k)))->b0d cs (b0p n v j cs) n
 | [],j,_=>by rfl
 |c::cs,j,h=>by
  refine ⟨_,_,rfl,?_,e0I n v cs (j+1) (fun i hi k c' hc=>by rw [show j+1+k=j+(k+1) from by omega];exact h i hi (k+1) c' hc)⟩;have h0:∀i,i<n->d0q c (v i j):=fun i hi=>h i hi 0 c rfl
  cases c with
  |int k=>
   refine ⟨_,rfl,by simp,?_⟩;intro x hx;simp only [r1U,s1y] at hx;obtain ⟨i,hi,rfl⟩:=hx;obtain ⟨m,e,hw⟩:=h0 i hi;rw [e];exact hw
  |bool=>exact ⟨_,rfl,by simp⟩
  |str=>
   refine ⟨_,rfl,by simp,?_⟩;intro x hx;simp only [r1U,s1y] at hx;obtain ⟨i,hi,rfl⟩:=hx;obtain ⟨m,e,hw⟩:=h0 i hi;rw [e];exact hw
theorem AllOk.nth:∀(ks:List CK) (vs:List Value) (j:Nat) (c:CK),AllOk ks vs->Sy.nth ks j=some c->∃v,vs[j]? =some v/\d0q c v
 | [],vs,j,c,_,h=>by trivial
 |k::ks,vs,j,c,h,hj=>by
  obtain ⟨v,r,rfl,h1,h2⟩:=h;cases j with
  |zero=>simp_all [Sy.nth]
  |succ j=>obtain ⟨u,h3,h4⟩:=AllOk.nth ks r j c h2 hj;simp_all
theorem j0I {c:CK} {v:Value} (h:d0q c v):v.oneCell'=true:=by
 cases c with
 |int k=>obtain ⟨n,rfl,_⟩:=h;rfl
 |bool=>obtain ⟨b,rfl⟩:=h;rfl
 |str=>obtain ⟨b,rfl,_⟩:=h;rfl
theorem g0M:∀(ks:List CK) (cols:List Col) (n:Nat),b0d ks cols n->cols.length=ks.length/\∀c∈cols,c.len=n
 | [],cols,n,h=>by simp_all [b0d]
 |k::ks,cols,n,h=>by
  obtain ⟨x,r,rfl,h1,h2⟩:=h;obtain ⟨i1,i2⟩:=g0M ks r n h2;refine ⟨by grind,?_⟩;intro c hc;rcases f1I.1 hc with rfl|hc
  .cases k with
   |int k=>obtain ⟨l,rfl,e,_⟩:=h1;exact e
   |bool=>obtain ⟨l,rfl,e⟩:=h1;exact e
   |str=>obtain ⟨l,rfl,e,_⟩:=h1;exact e
  simp_all
theorem q0f {t e:TypeId} {m fuel:Nat} {v:Value} {ks:List CK} {x:DataW H×List MemPlace} (ht:P.underlying t=some (.slice e)) (hk:j0H P m e=some ks) (hlen:P.cellsOf e=ks.length) (h0:0<ks.length)
  (h:DataW.trod enc P w base (fun _=>true) held fuel t [v]=some x):
  ∃(n:Nat) (β:Base) (cols:List Col),n<=maxLen/\b0d ks cols n/\(∀(g:G) (h:Nat),g h 0=some β->Rv g (.sl h 0 0 n) v)/\(∀g:G,BlkAt g β true (.cols n (b0b cols)) w):=by
 have dead:∀a,v= .slice a 0 0->∃(n:Nat) (β:Base) (cols:List Col),n<=maxLen/\b0d ks cols n/\(∀(g:G) (h:Nat),g h 0=some β->Rv g (.sl h 0 0 n) v)/\(∀g:G,BlkAt g β true (.cols n (b0b cols)) w):=by
  intro a hv;have hok:b0d ks (b0p 0 (fun _ _=>undef) 0 ks) 0:=e0I _ _ _ _ (fun i hi=>absurd hi (p1R _));obtain ⟨l1,l2⟩:=g0M _ _ _ hok;refine ⟨0,⟨0,0,ks.length,0⟩,b0p 0 (fun _ _=>undef) 0 ks,b1f _,hok,?_,?_⟩
  .intro g h _;subst hv;simp only [Rv];grind
  .intro g;refine ⟨fun h=>by trivial,by simp_all [Blk.es,d0R],?_,fun i hi=>by trivial,fun i j sv hi=>by trivial,fun i j v hi=>by trivial,(fun h=>by simp),trivial⟩;intro c hc;obtain ⟨j,hj⟩:=c0Y hc;rw [(d0R _).2 j] at hj;cases hn:nth (b0p 0 (fun _ _=>undef) 0 ks) j with
   |none=>simp_all
   |some y=>rw [hn] at hj;cases hj;exact l2 y (b0y hn)
 rcases open_slice ht h with ⟨hv,_⟩|⟨a,len,cap,mm,nn,D,Pl,hv,_,hl,hm,hmm,hx,hi⟩
 .simp_all
 .simp only [List.cons.injEq,and_true] at hv;subst hmm;have cell:∀i,i<mm->∀j c,nth ks j=some c->∃u,w.cell? (a.add (i*ks.length+j))=some u/\d0q c u:=by
   intro i him j c hj;obtain ⟨cs',hc,ht'⟩:=hi i him;have hall:=m0e hk ht';obtain ⟨u,hu,hok⟩:=AllOk.nth ks cs' j c hall hj;rw [hlen] at hc;obtain ⟨_,hcl,hat⟩:=World.cells?_some hc;simp_all [c0j,Go.Deep.add_add]
  by_cases hz:mm=0
  .simp_all
  .subst hv;obtain ⟨c0,hc0⟩:∃c0,nth ks 0=some c0:=by
    cases ks with
    |nil=>trivial
    |cons c r=>exact ⟨c,rfl⟩
   obtain ⟨u0,hu0,_⟩:=cell 0 oM 0 c0 hc0;simp only [t1e,q1j] at hu0;have ha0:a.add 0=a:=by rfl
   rw [ha0] at hu0;have hspot:a.spot=none:=by
    unfold World.cell? at hu0;split at hu0
    all_goals simp_all
   have hblk:a.block<w.heap.size:=by
    unfold World.cell? at hu0;grind
   let β:Base:=⟨a.block,a.off,ks.length,mm⟩
   have haddr:∀i j,a.add (i*ks.length+j)=β.addr i j:=by
    intro i j;obtain ⟨b,o,s⟩:=a;grind [Addr.add,Base.addr]
   let val:Nat->Nat->Value:=fun i j=>(w.cell? (β.addr i j)).getD undef
   have hcols:b0d ks (b0p len val 0 ks) len:=by
    refine e0I len val ks 0 (fun i hi' k c hc=> ?_);obtain ⟨u,hu,hok⟩:=cell i oM k c hc;grind
   obtain ⟨l1,l2⟩:=g0M _ _ _ hcols;obtain ⟨u1,u2⟩:=d0R (b0p len val 0 ks);refine ⟨len,β,b0p len val 0 ks,n1r hl hm,hcols,?_,?_⟩
   .intro g h hg;simp only [Rv];grind
   .intro g;refine ⟨fun _=>hblk,by simp [Blk.es,u1,l1,β],?_,fun i hi=>by grind [Blk.has],?_,?_,(fun h=>by grind),trivial⟩
    .intro c hc;obtain ⟨j,hj⟩:=c0Y hc;rw [u2 j] at hj;cases hn:nth (b0p len val 0 ks) j with
     |none=>simp_all
     |some y=>rw [hn] at hj;cases hj;exact l2 y (b0y hn)
    .intro i j sv hi' hj;simp only [Blk.has] at hi';simp only [Blk.at,u2 j,h0N] at hj;cases hc:nth ks j with
     |none=>simp_all
     |some c=>
      rw [hc] at hj;simp only [k1k,injEq,i1z] at hj;subst hj;obtain ⟨u,hu,hok⟩:=cell i oM j c hc;rw [haddr] at hu;have hval:val i j=u:=by grind
      refine ⟨u,hu,?_⟩;rw [<-hval];exact m0f (v:=fun i=>val i j) hi' (by simp_all)
    .intro i j v' hi' hj hv';simp only [Blk.has] at hi';obtain ⟨c,hc⟩:∃c,nth ks j=some c:=⟨ks[j],by rw [b0l];simp⟩;obtain ⟨u,hu,hok⟩:=cell i oM j c hc;grind [j0I]
end
theorem i0A {α:Type} {l:List α} {n:Nat} (h:l.length=n+1):∃a r,l=a::r/\r.length=n:=by
 cases l with
 |nil=>grind
 |cons a r=>grind
theorem k1r {α:Type} {l:List α} (h:l.length=0):l= []:=u1W.1 h
theorem b1k {g:G} {l:List SV} {vs:Array Value} (h:Rvs g l vs.toList):Rv g (.agg l) (.agg vs):=by simp only [Rv];simp_all
theorem d0W {g:G} {x:SV} {l:List SV} {v:Value} {vs:List Value} (h:Rv g x v) (k:Rvs g l vs):Rvs g (x::l) (v::vs):=by simp only [Rvs];grind
theorem y0H {g:G}:Rvs g [] []:=by rfl
mutual
def k1s {H:Type}:DataW H->Option (List Value)
 | .lit l=>some [l.value]
 | .agg ds=>b1l ds
 |_=>none
def b1l {H:Type}:List (DataW H)->Option (List Value)
 | []=>some []
 |d::ds=>match k1s d,b1l ds with
  |some a,some b=>some (a++b)
  |_,_=>none
end
section
variable {H:Type} {enc:TypeId×Value->H} {P:Program} {w:World} {base:Nat} {spare:Nat->Bool} {held:Bool}
theorem u0h (s:ByteArray):(⟨s.data.toList.toArray⟩:ByteArray)=s:=by rfl
theorem q0g:∀m:Nat,(∀(t:TypeId) (ks:List CK) (fuel:Nat) (cs:List Value) (x:DataW H×List MemPlace),j0H P m t=some ks->DataW.trod enc P w base spare held fuel t cs=some x->k1s x.1=some cs)/\
  (∀(o:Nat) (fs:List Field) (ks:List CK) (cs:List Value) (n:Nat) (xs:List (DataW H×List MemPlace)),h0x P m o fs=some ks->cs.length=o+ks.length->xs.length=fs.length->(∀(i:Nat) f,fs[i]? =some f->DataW.trod enc P w base spare held n f.type ((cs.drop f.offset).take (P.cellsOf f.type))=xs[i]?)->b1l (xs.map (·.1))=some (cs.drop o)):=by
 intro m;induction m with
 |zero=>simp [j0H,h0x]
 |succ m ih=>
  refine ⟨?_,?_⟩
  .intro t ks fuel cs x h ht;simp only [j0H] at h;split at h
   .rename_i hu;obtain ⟨b,rfl,rfl⟩:=DataW.trod_bool hu ht;rfl
   .rename_i k hu;obtain ⟨n,rfl,rfl,hw⟩:=DataW.trod_int hu ht;rfl
   .rename_i hu;obtain ⟨s,rfl,rfl,hw⟩:=DataW.trod_string hu ht;rfl
   .rename_i fs hu;split at h
    .rename_i ks' hks;cases hb:Nat.beq (P.cellsOf t) ks'.length with
     |false=>simp_all
     |true=>
      obtain ⟨xs,n,_,rfl,hlen,hxl,hf⟩:=DataW.trod_struct hu ht;have:=ih.2 0 fs.toList ks' cs n xs hks (by simp_all) oM (by
       grind)
      trivial
    grind
   grind
  .intro o fs ks cs n xs h hlen hxl hall;cases fs with
   |nil=>
    simp_all [h0x,s1Y,b1l,t1d]
   |cons f r=>
    cases xs with
    |nil=>trivial
    |cons x xs=>
     simp only [h0x] at h;cases ho:Nat.beq f.offset o with
     |false=>simp_all
     |true=>
      rw [ho] at h;split at h
      .rename_i a ha;cases hb:Nat.beq (P.cellsOf f.type) a.length with
       |false=>simp_all
       |true=>
        rw [hb] at h;simp only [cond_true] at h;split at h
        .rename_i b hbb;have eo:=q0d ho;have ea:=q0d hb;have h0:=hall 0 f rfl;have h1:=ih.1 f.type a n _ x ha h0;have h2:=ih.2 (o+a.length) r b cs n xs hbb (by grind) (by simp_all) (fun i f' hf'=>by
          have:=hall (i+1) f' (by trivial);trivial)
         simp only [n1w,b1l,h1,h2,eo,ea];rw [<-u1A,t1g]
        grind
      grind
theorem f1S {m:Nat} {t:TypeId} {ks:List CK} {fuel:Nat} {cs:List Value} {x:DataW H×List MemPlace} (h:j0H P m t=some ks) (ht:DataW.trod enc P w base spare held fuel t cs=some x):k1s x.1=some cs:=(q0g m).1 t ks fuel cs x h ht
theorem s0d {β:Base} {n:Nat} {ks:List CK} {val:Nat->Nat->Value} (hes:β.es=ks.length) (hcap:n<=β.cap) (hlt:0<β.cap->β.blk<w.heap.size) (cell:∀i,i<n->∀j c,nth ks j=some c->w.cell? (β.addr i j)=some (val i j)/\d0q c (val i j)) (g:G):
  BlkAt g β true (.cols n (b0b (b0p n val 0 ks))) w:=by
 have hcols:b0d ks (b0p n val 0 ks) n:=by
  simp_all [e0I]
 obtain ⟨l1,l2⟩:=g0M _ _ _ hcols;obtain ⟨u1,u2⟩:=d0R (b0p n val 0 ks);refine ⟨hlt,by simp [Blk.es,u1,l1,hes],?_,fun i hi=>by grind [Blk.has],?_,?_,(fun h=>by grind),trivial⟩
 .intro c hc;obtain ⟨j,hj⟩:=c0Y hc;rw [u2 j] at hj;cases hn:nth (b0p n val 0 ks) j with
  |none=>simp_all
  |some y=>rw [hn] at hj;cases hj;exact l2 y (b0y hn)
 .intro i j sv hi' hj;simp only [Blk.at,u2 j,h0N] at hj;cases hc:nth ks j with
  |none=>simp_all
  |some c=>
   rw [hc] at hj;simp only [k1k,injEq,i1z] at hj;subst hj;obtain ⟨hu,hok⟩:=cell i hi' j c hc;exact ⟨_,hu,m0f (v:=fun i=>val i j) hi' hok⟩
 .intro i j v' hi' hj hv';simp only [Blk.has] at hi';obtain ⟨c,hc⟩:∃c,nth ks j=some c:=⟨ks[j]'oM,by simp_all [b0l]⟩;grind [j0I]
def k1t {H:Type} (ds:List (DataW H)) (i j:Nat):Value:=(((ds[i]?).bind k1s).getD []).getD j undef
theorem g0N {nm:String} {v:Nat} {t e:TypeId} {m fuel n:Nat} {cs:Array Value} {ks:List CK} {ds:List (DataW H)} {p:List MemPlace} {cols:List Col} (hg:P.globalNamed nm=some v) (hv:w.var? P nm=some cs)
  (ht:P.underlying t=some (.array n e)) (hk:j0H P m e=some ks) (hlen:P.cellsOf e=ks.length) (hs:P.cellsOf t=n*ks.length) (h0:0<n*ks.length)
  (h:DataW.trod enc P w base spare held fuel t cs.toList=some (.agg ds,p)) (hc:b0p n (k1t ds) 0 ks=cols) (g:G):BlkAt g ⟨v,0,ks.length,n⟩ true (.cols n (b0b cols)) w:=by
 obtain ⟨xs,m1,_,hx,hl,hxl,hel⟩:=DataW.trod_array ht h;have hcl:cs.size=n*ks.length:=by simp_all
 have hcell:=World.var?_cell (w:=w) hg hv;have hblk:v<w.heap.size:=by
  have:=hcell 0;unfold World.cell? at this;grind
 have key:∀i,i<n->∃y,xs[i]? =some y/\k1s y.1=some ((cs.toList.drop (i*ks.length)).take ks.length)/\AllOk ks ((cs.toList.drop (i*ks.length)).take ks.length):=by
  grind [f1S,m0e]
 subst hc;refine s0d rfl (m0c _) (fun _=>hblk) ?_ g;intro i hi j c hj;obtain ⟨y,e1,e2,e3⟩:=key i hi;obtain ⟨u,hu,hok⟩:=AllOk.nth ks _ j c e3 hj;simp_all [k1t,Base.addr,r1T]
theorem s0e {nm name:String} {v t tid fuel:Nat} {ms:Array (String×TypeId)} {cs:Array Value} {d:DataW H} {p:List MemPlace} (hg:P.globalNamed nm=some v) (hv:w.var? P nm=some cs)
  (ht:P.underlying t=some (.interface ms)) (hrow:∀u,P.typeName? 3 u=some name->u=tid)
  (h:DataW.trod enc P w base spare false fuel t cs.toList=some (.iface name d,p)) (g:G):BlkAt g ⟨v,0,1,1⟩ true (.cells [.iface tid .unk]) w:=by
 obtain ⟨_,u,x,hcs,hn,_⟩:=iface_of_trod ht h;obtain rfl:=hrow u hn;have hcell:=World.var?_cell (w:=w) hg hv;have h0:w.cell? ⟨v,0,none⟩=some (.iface u x):=by
  rw [hcell,<-s1H,hcs];rfl
 have hblk:v<w.heap.size:=by
  unfold World.cell? at h0;grind
 refine ⟨fun _=>hblk,rfl,trivial,?_,?_,?_,(fun h=>by grind),trivial⟩
 .simp [Blk.has]
 .intro i j sv hi hj;subst hi;cases j with
  |zero=>
   simp only [Blk.at,nth,injEq] at hj;subst hj;exact ⟨_,h0,by simp only [Rv];simp⟩
  |succ j=>trivial
 .intro i j v' hi hj hv';subst hi;have:j=0:=by simp_all
  subst this;have e:w.cell? ⟨v,0,none⟩=some v':=hv';rw [h0] at e;cases e;rfl
end
end Go.Sy
namespace Go.Sy
open Go.RowKit
def q0h (n:Nat):List SV->List SV->Prop
 | [],[]=>True
 |a::l,b::m=>(b=a\/(a= .nsl/\b= .sl n 0 0 0))/\q0h n l m
 |_,_=>False
theorem j0J {g g1:G} {n:Nat} (hle:G.le g g1):∀(l m:List SV) (vs:List Value),q0h n l m->Rvs g l vs->Rvs g1 m vs
 | [],[],vs,_,h=>by trivial
 |a::l,b::m,vs,hn,h=>by
  obtain ⟨v,vs',rfl,h1,h2⟩:=h;refine ⟨v,vs',rfl,?_,j0J hle l m vs' hn.2 h2⟩;rcases hn.1 with rfl|⟨rfl,rfl⟩
  .exact (Rvs.mono hle [b] [v] (by simp only [Rvs];simp_all))|>fun q=>by
    simp only [Rvs] at q;simp_all
  .simp only [Rv] at h1⊢;grind
 | [],_::_,_,hn,_=>hn.elim
 |_::_,[],_,hn,_=>hn.elim
theorem w0p {P:Program} {n:Nat} {f:FuncId} {args args1:List SV} {H:a0k} {cs:List BCol} {post:SV->a0k->Nat->Prop} (hl:j0v cs=true) (ha:∀{g g1:G},G.le g g1->∀vs,Rvs g args vs->Rvs g1 args1 vs) (h:FC P (n+1) f args1 ((n,some (.one true (.cols 0 cs)))::H) post):FC P n f args H post:=by
 have key:∀(g:G) (w:World) (vals:List Value),g.glob->g.upto n->Holds g H w->Rvs g args vals->
   ∃g1:G,g1.glob/\g1.upto (n+1)/\Holds g1 ((n,some (.one true (.cols 0 cs)))::H) w/\Rvs g1 args1 vals/\∀v w',Out g1 w (n+1) ((n,some (.one true (.cols 0 cs)))::H) post v w'->Out g w n H post v w':=by
  intro g w vals hg hu hH hv;have hle:G.le g (g.add n ⟨0,0,cs.length,0⟩):=G.le_add _ (hu n 0 (m0c _));have hsame:∀h q,h≠n->(g.add n ⟨0,0,cs.length,0⟩) h q=g h q:=by
   simp_all [G.add]
  have hent:∀h q ro b,Ent ((n,some (.one true (.cols 0 cs)))::H) h q ro b->(n=h/\q=0/\ro=true/\b= .cols 0 cs)\/(h≠n/\Ent H h q ro b):=by
   intro h q ro b he;rcases a0v.1 he with ⟨e,hb,e1,e2,e3⟩|⟨e,he⟩
   .cases e1;exact .inl ⟨e,e2.1,e3.symm,e2.2⟩
   grind
  have hW:∀k,f0z (g.add n ⟨0,0,cs.length,0⟩) ((n,some (.one true (.cols 0 cs)))::H) k->f0z g H k:=by
   rintro k ⟨h,q,b,β,he,hb,hc,e⟩;rcases hent _ _ _ _ he with ⟨_,_,e2,_⟩|⟨hh,he⟩
   .grind
   .exact ⟨h,q,b,β,he,by simp_all,hc,e⟩
  refine ⟨_,?_,?_,⟨?_,?_⟩,ha hle _ hv,?_⟩
  .intro q;obtain ⟨es,cap,e⟩:=hg q;exact ⟨es,cap,hle _ _ _ e⟩
  .intro h q hh;rw [hsame h q oM];exact hu h q oM
  .intro h q ro b he;rcases hent _ _ _ _ he with ⟨rfl,rfl,rfl,rfl⟩|⟨hh,he⟩
   .exact ⟨_,a1Z,fun h=>by trivial,rfl,j0F cs hl,fun i hi=>by trivial,fun i j sv hi=>by trivial,fun i j v hi=>by trivial,fun _ i j hi=>by trivial,trivial⟩
   .obtain ⟨β,hb,hB⟩:=hH.blk _ _ _ _ he;exact ⟨β,hle _ _ _ hb,b0E hB hle (m0c _) (fun _=>rfl)⟩
  .intro h q h2 q2 b ro2 b2 β β2 hne he he2 hb hb2 hc hc2;rcases hent _ _ _ _ he with ⟨_,_,e,_⟩|⟨hh,he⟩
   .grind
   .rcases hent _ _ _ _ he2 with ⟨rfl,rfl,_,_⟩|⟨hh2,he2⟩
    .grind [a1Z]
    .exact hH.sep h q h2 q2 b ro2 b2 β β2 hne he he2 (by simp_all) (by simp_all) hc hc2
  .rintro v w' ⟨sv,H',n',g',hp,hn,hu',hk,hv',hH',hrw,hfr,hown⟩;refine ⟨sv,H',n',g',hp,by omega,hu',fun h q hh=> ?_,hv',hH',hrw,?_,?_⟩
   .grind
   .exact ⟨hfr.os,hfr.tape,hfr.output,hfr.size,fun k hk1 hk2=>hfr.block k hk1 (fun hq=>hk2 (hW k hq))⟩
   .intro h q b β he hb hc;rcases hown h q b β he hb hc with hh|hh
    all_goals simp_all
 rcases h with ⟨hb,h⟩|h
 .refine .inl ⟨hb,fun g w vals h1 h2 h3 h4=> ?_⟩;obtain ⟨g1,k1,k2,k3,k4,k5⟩:=key g w vals h1 h2 h3 h4;refine (h g1 w vals k1 k2 k3 k4).mono ?_;simp_all
 .refine .inr (fun g w vals h1 h2 h3 h4=> ?_);grind
theorem b1m {P:Program} {n:Nat} {f:FuncId} {l m:List SV} {H:a0k} {cs:List BCol} {post:SV->a0k->Nat->Prop} (hl:j0v cs=true) (ha:q0h n l m) (h:FC P (n+1) f [.agg m] ((n,some (.one true (.cols 0 cs)))::H) post):FC P n f [.agg l] H post:=
 w0p hl (fun hle vs hv=>by
  obtain ⟨v,vs',rfl,⟨ws,rfl,h3⟩,h2⟩:=hv;exact ⟨_,vs',rfl,⟨ws,rfl,j0J hle _ _ _ ha h3⟩,h2⟩) h
theorem n1t {P:Program} {n:Nat} {f:FuncId} {args:List SV} {H H':a0k} {post:SV->a0k->Nat->Prop} (he:∀k,a0w H' k=a0w H k) (h:FC P n f args H post):FC P n f args H' post:=by
 have ent:∀{k q:Nat} {ro:Bool} {b:Blk},Ent H k q ro b↔Ent H' k q ro b:=by simp_all [Ent]
 have hH:∀{g:G} {w:World},Holds g H' w->Holds g H w:=fun hH=>⟨fun k q ro b e=>hH.blk k q ro b (ent.1 e),fun k q k' q' b ro' b' β β' hne e e'=>hH.sep k q k' q' b ro' b' β β' hne (ent.1 e) (ent.1 e')⟩
 have hW:∀{g:G} k,f0z g H k->f0z g H' k:=fun k ⟨h,q,b,β,e,r⟩=>⟨h,q,b,β,ent.1 e,r⟩
 have ho:∀{g:G} {w:World} {v:Value} {w':World},Out g w n H post v w'->Out g w n H' post v w':=by
  rintro g w v w' ⟨sv,H1,n',g',hp,hn,hu',hk,hv',hH',hrw,hfr,hown⟩;refine ⟨sv,H1,n',g',hp,hn,hu',hk,hv',hH',hrw,⟨hfr.os,hfr.tape,hfr.output,hfr.size,fun k hk1 hk2=>hfr.block k hk1 (fun hq=>hk2 (hW k hq))⟩,?_⟩;intro h q b β e hb hc;rcases hown h q b β e hb hc with hh|hh
  all_goals simp_all
 rcases h with ⟨hb,h⟩|h
 .refine .inl ⟨hb,fun g w vals h1 h2 h3 h4=>(h g w vals h1 h2 (hH h3) h4).mono ?_⟩;simp_all
 .refine .inr (fun g w vals h1 h2 h3 h4=> ?_);grind
mutual
def SV.mem (μ:Nat->Nat):SV->SV
 | .ptr h q i j=> .ptr h (q+μ h) i j
 | .sl h q i n=> .sl h (q+μ h) i n
 | .map h q=> .map h (q+μ h)
 | .fn f l=> .fn f (SV.mems μ l)
 | .iface t v=> .iface t (SV.mem μ v)
 | .agg l=> .agg (SV.mems μ l)
 | .tup l=> .tup (SV.mems μ l)
 | .bool b=> .bool b
 | .int k n=> .int k n
 | .str s=> .str s
 | .nptr=> .nptr
 | .nsl=> .nsl
 | .zsl=> .zsl
 | .nmap=> .nmap
 | .nif=> .nif
 | .arr n l=> .arr n l
 | .raw v=> .raw v
 | .unk=> .unk
def SV.mems (μ:Nat->Nat):List SV->List SV
 | []=> []
 |s::r=>SV.mem μ s::SV.mems μ r
end
def BCol.mem (μ:Nat->Nat):BCol->BCol
 | .sc c=> .sc c
 | .svs l=> .svs (SV.mems μ l)
 | .own h ns=> .own h ns
 | .arrs n k r=> .arrs n k r
 | .ptrs h n=> .ptrs h n
def d0x (μ:Nat->Nat):List BCol->List BCol
 | []=> []
 |c::l=>c.mem μ::d0x μ l
def ObjS.mem (μ:Nat->Nat):ObjS->ObjS
 | .map ka ea n ks vs bs ck=> .map ka ea n ks (d0x μ vs) bs ck
 | .iter h q a b c=> .iter h (q+μ h) a b c
 | .niter=> .niter
 | .siter s p=> .siter s p
 | .bld0 T=> .bld0 T
 | .bld T h q n=> .bld T h (q+μ h) n
 | .brow T s=> .brow T s
 | .bag Q=> .bag Q
def Blk.mem (μ:Nat->Nat):Blk->Blk
 | .cells l=> .cells (SV.mems μ l)
 | .cols n l=> .cols n (d0x μ l)
 | .obj o=> .obj (o.mem μ)
def BCol.mok (μ:Nat->Nat):BCol->Bool
 | .own h _=>Nat.beq (μ h) 0
 | .ptrs h _=>Nat.beq (μ h) 0
 |_=>true
def d0X (μ:Nat->Nat):List BCol->Bool
 | []=>true
 |c::l=>c.mok μ&&d0X μ l
def Blk.mok (μ:Nat->Nat):Blk->Bool
 | .cells _=>true
 | .cols _ l=>d0X μ l
 | .obj (.map _ _ _ _ vs _ _)=>d0X μ vs
 | .obj _=>true
def Sm (μ:Nat->Nat) (g g':G):Prop:=∀h q,g h q=g' h (q+μ h)
mutual
theorem Rv.mem {μ:Nat->Nat} {g g':G} (hs:Sm μ g g'):∀(sv:SV) (v:Value),Rv g sv v↔Rv g' (SV.mem μ sv) v
 | .bool _,_=>by simp only [SV.mem,Rv]
 | .int _ _,_=>by simp only [SV.mem,Rv]
 | .str _,_=>by simp only [SV.mem,Rv]
 | .ptr h q i j,v=>by simp only [SV.mem,Rv,hs h q]
 | .nptr,_=>by simp only [SV.mem,Rv]
 | .sl h q i m,v=>by simp only [SV.mem,Rv,hs h q]
 | .nsl,_=>by simp only [SV.mem,Rv]
 | .zsl,_=>by simp only [SV.mem,Rv]
 | .map h q,v=>by simp only [SV.mem,Rv,hs h q]
 | .nmap,_=>by simp only [SV.mem,Rv]
 | .fn f l,v=>by
   simp only [SV.mem,Rv];constructor
   .rintro ⟨vs,e,k⟩;exact ⟨vs,e,(Rvs.mem hs l _).1 k⟩
   .rintro ⟨vs,e,k⟩;exact ⟨vs,e,(Rvs.mem hs l _).2 k⟩
 | .iface t s,v=>by
   simp only [SV.mem,Rv];constructor
   .rintro ⟨u,e,k⟩;exact ⟨u,e,(Rv.mem hs s _).1 k⟩
   .rintro ⟨u,e,k⟩;exact ⟨u,e,(Rv.mem hs s _).2 k⟩
 | .nif,_=>by simp only [SV.mem,Rv]
 | .agg l,v=>by
   simp only [SV.mem,Rv];constructor
   .rintro ⟨vs,e,k⟩;exact ⟨vs,e,(Rvs.mem hs l _).1 k⟩
   .rintro ⟨vs,e,k⟩;exact ⟨vs,e,(Rvs.mem hs l _).2 k⟩
 | .arr _ _,_=>by simp only [SV.mem,Rv]
 | .tup l,v=>by
   simp only [SV.mem,Rv];constructor
   .rintro ⟨vs,e,k⟩;exact ⟨vs,e,(Rvs.mem hs l _).1 k⟩
   .rintro ⟨vs,e,k⟩;exact ⟨vs,e,(Rvs.mem hs l _).2 k⟩
 | .raw _,_=>by simp only [SV.mem,Rv]
 | .unk,_=>by simp only [SV.mem,Rv]
theorem Rvs.mem {μ:Nat->Nat} {g g':G} (hs:Sm μ g g'):∀(l:List SV) (vs:List Value),Rvs g l vs↔Rvs g' (SV.mems μ l) vs
 | [],_=>by simp only [SV.mems,Rvs]
 |s::l,vs=>by
  simp only [SV.mems,Rvs];constructor
  .rintro ⟨v,vs',e,h1,h2⟩;exact ⟨v,vs',e,(Rv.mem hs s v).1 h1,(Rvs.mem hs l vs').1 h2⟩
  .rintro ⟨v,vs',e,h1,h2⟩;exact ⟨v,vs',e,(Rv.mem hs s v).2 h1,(Rvs.mem hs l vs').2 h2⟩
end
theorem m0g (μ:Nat->Nat):∀l:List SV,SV.mems μ l=l.map (SV.mem μ)
 | []=>rfl
 |s::l=>by simp [SV.mems,m0g μ l]
theorem g0O (μ:Nat->Nat):∀l:List BCol,d0x μ l=l.map (BCol.mem μ)
 | []=>rfl
 |s::l=>by simp [d0x,g0O μ l]
theorem h0O {μ:Nat->Nat}:∀{l:List BCol} {c:BCol},d0X μ l=true->c∈l->c.mok μ=true
 | [],s,_,h=>by grind
 |x::l,s,hw,h=>by
  simp only [d0X,n0M] at hw;rcases f1I.1 h with rfl|h
  .simp_all
  .exact h0O hw.2 h
theorem BCol.mem_at (μ:Nat->Nat) (c:BCol) (i:Nat) (h:c.mok μ=true):(c.mem μ).at i=SV.mem μ (c.at i):=by
 cases c with
 |sc c=>cases c<;>rfl
 |svs l=>
  simp only [BCol.mem,BCol.at,m0g,List.getD,f1Q];cases l[i]?<;>rfl
 |own hh ns=>
  simp_all [BCol.mok,BCol.mem,BCol.at,SV.mem]
 |arrs n k r=>rfl
 |ptrs hh m=>
  simp_all [BCol.mok,BCol.mem,BCol.at,SV.mem]
theorem Blk.mem_at (μ:Nat->Nat) (b:Blk) (i j:Nat) (h:b.mok μ=true):(b.mem μ).at i j=(b.at i j).map (SV.mem μ):=by
 cases b with
 |cells l=>simp only [Blk.mem,Blk.at,m0g,b0l,f1Q]
 |cols n l=>
  simp only [Blk.mem,Blk.at,g0O,b0l,f1Q];cases hc:l[j]? with
  |none=>rfl
  |some c=>simp [BCol.mem_at μ c i (h0O h (s1d hc))]
 |obj o=>rfl
theorem Blk.mem_has (μ:Nat->Nat) (b:Blk) (i:Nat):(b.mem μ).has i↔b.has i:=by cases b<;>exact Iff.rfl
theorem Blk.mem_es (μ:Nat->Nat) (b:Blk):(b.mem μ).es=b.es:=by
 cases b<;>simp [Blk.mem,Blk.es,m0g,g0O]
theorem h0P (μ:Nat->Nat) {l:List BCol} {n:Nat}:(∀c∈d0x μ l,c.len=n)↔∀c∈l,c.len=n:=by
 have:∀c:BCol,(c.mem μ).len=c.len:=by intro c;cases c<;>simp [BCol.mem,BCol.len,m0g]
 simp [g0O,this]
theorem Blk.mem_len (μ:Nat->Nat) (b:Blk):(b.mem μ).lenOk↔b.lenOk:=by
 cases b with
 |cells l=>rfl
 |cols n l=>exact h0P μ
 |obj o=>rfl
theorem m0h (μ:Nat->Nat):∀(l:List BCol) (i:Nat),d0X μ l=true->a0C (d0x μ l) i=SV.mems μ (a0C l i)
 | [],_,_=>rfl
 |c::l,i,h=>by
  simp only [d0X,n0M] at h;simp only [d0x,a0C,SV.mems,BCol.mem_at μ c i h.1,m0h μ l i h.2]
theorem s0f (μ:Nat->Nat) (ea:Bool) (l:List BCol) (i:Nat) (h:d0X μ l=true):b0n ea (d0x μ l) i=SV.mem μ (b0n ea l i):=by
 cases ea with
 |true=>simp_all [b0n,SV.mem,m0h]
 |false=>
  match l,h with
  | [],_=>rfl
  | [c],h=>exact BCol.mem_at μ c i (h0O h (b1h.2 rfl))
  |_::_::_,_=>rfl
theorem s0g {μ:Nat->Nat} {g g':G} (hs:Sm μ g g') {β:Base} {b:Blk} {w:World} (hm:b.mok μ=true):b.Ok g w β↔(b.mem μ).Ok g' w β:=by
 cases b with
 |cells l=>rfl
 |cols n l=>rfl
 |obj o=>
  cases o with
  |map ka ea m ks vs bs ck=>
   have hm':d0X μ vs=true:=hm;constructor
   .rintro ⟨c1,c2,es,e,k⟩;exact ⟨c1,c2,es,e,k.size,k.kl,(h0P μ).2 k.vl,k.bl,k.nd,k.lt,fun i x hx=>⟨(k.row i x hx).1,(k.row i x hx).2.1,by rw [s0f μ ea vs i hm'];exact (Rv.mem hs _ _).1 (k.row i x hx).2.2⟩⟩
   .rintro ⟨c1,c2,es,e,k⟩;exact ⟨c1,c2,es,e,k.size,k.kl,(h0P μ).1 k.vl,k.bl,k.nd,k.lt,fun i x hx=>⟨(k.row i x hx).1,(k.row i x hx).2.1,(Rv.mem hs _ _).2 (by have:=(k.row i x hx).2.2;simp_all [s0f])⟩⟩
  |iter h q bs ck sn=>
   constructor
   .rintro ⟨c1,c2,β',e1,e⟩;exact ⟨c1,c2,β',by rw [<-hs];omega,e⟩
   .rintro ⟨c1,c2,β',e1,e⟩;exact ⟨c1,c2,β',by rw [hs];omega,e⟩
  |niter=>rfl
  |siter s p=>rfl
  |bld0 T=>rfl
  |bld T h q n=>
   constructor
   .rintro ⟨c1,c2,β',e1,e⟩;exact ⟨c1,c2,β',by rw [<-hs];omega,e⟩
   .rintro ⟨c1,c2,β',e1,e⟩;exact ⟨c1,c2,β',by rw [hs];omega,e⟩
  |brow T s=>rfl
  |bag Q=>rfl
theorem s0h {μ:Nat->Nat} {g g':G} (hs:Sm μ g g') {β:Base} {ro:Bool} {b:Blk} {w:World} (hm:b.mok μ=true):BlkAt g β ro b w↔BlkAt g' β ro (b.mem μ) w:=by
 constructor
 .intro h;refine ⟨h.lt,by rw [h.es,Blk.mem_es],(Blk.mem_len μ b).2 h.len,fun i hi=>h.cap i ((Blk.mem_has μ b i).1 hi),?_,fun i j v hi=>h.one i j v ((Blk.mem_has μ b i).1 hi),h.rw,(s0g hs hm).1 h.obj⟩;intro i j sv hi hj;rw [Blk.mem_at μ b i j hm] at hj;cases hb:b.at i j with
  |none=>simp_all
  |some s=>
   obtain ⟨v,h1,h2⟩:=h.cell i j s ((Blk.mem_has μ b i).1 hi) hb;grind [Rv.mem]
 .intro h;refine ⟨h.lt,by rw [h.es,Blk.mem_es],(Blk.mem_len μ b).1 h.len,fun i hi=>h.cap i ((Blk.mem_has μ b i).2 hi),?_,fun i j v hi=>h.one i j v ((Blk.mem_has μ b i).2 hi),h.rw,(s0g hs hm).2 h.obj⟩;intro i j sv hi hj;obtain ⟨v,h1,h2⟩:=h.cell i j (SV.mem μ sv) ((Blk.mem_has μ b i).2 hi) (by rw [Blk.mem_at μ b i j hm,hj];rfl);grind [Rv.mem]
theorem n1u {P:Program} {n:Nat} {f:FuncId} {args:List SV} {H H1:a0k} {post post1:SV->a0k->Nat->Prop} (μ:Nat->Nat) (h0:μ 0=0) (hn:∀h,n<=h->μ h=0)
  (hin:∀h q ro b,Ent H h q ro b->b.mok μ=true/\Ent H1 h (q+μ h) ro (b.mem μ))
  (hout:∀sv H' n',post sv H' n'->∃H1',post1 (sv.mem μ) H1' n'/\c0x H1'/\∀h q1 b1,Ent H1' h q1 false b1->(∃q b,q1=q+μ h/\b1=b.mem μ/\b.mok μ=true/\Ent H' h q false b)\/(h<n/\Ent H1 h q1 false b1/\∀q ro b,q1=q+μ h->¬Ent H h q ro b))
  (h:FC P n f args H post):FC P n f (SV.mems μ args) H1 post1:=by
 have key:∀(g':G) (w:World) (vals:List Value),g'.glob->g'.upto n->Holds g' H1 w->Rvs g' (SV.mems μ args) vals->
   ∃g:G,g.glob/\g.upto n/\Holds g H w/\Rvs g args vals/\∀v w',Out g w n H post v w'->Out g' w n H1 post1 v w':=by
  intro g' w vals hg hu hH hv;have hs:Sm μ (fun h q=>g' h (q+μ h)) g':=fun h q=>rfl
  refine ⟨fun h q=>g' h (q+μ h),fun q=>by dsimp only;rw [h0,q1j];exact hg q,fun h q hh=>hu h _ hh,⟨?_,?_⟩,(Rvs.mem hs args vals).2 hv,?_⟩
  .intro h q ro b he;obtain ⟨hm,h1⟩:=hin h q ro b he;obtain ⟨β,hb,hB⟩:=hH.blk _ _ _ _ h1;grind [s0h]
  .intro h q h' q' b ro' b' β β' hne he he' hb hb' hc hc';refine hH.sep h (q+μ h) h' (q'+μ h') _ ro' _ β β' (fun e=>hne ⟨e.1,?_⟩) (hin _ _ _ _ he).2 (hin _ _ _ _ he').2 hb hb' hc hc';grind
  .rintro v w' ⟨sv,H',n',g1,hp,hnn,hu',hk,hv',hH',hrw,hfr,hown⟩;obtain ⟨H1',p1,p2,p3⟩:=hout sv H' n' hp;let g1':G:=fun h q=>if h<n then g' h q else g1 h q
   have hs1:Sm μ g1 g1':=by
    intro h q;grind
   have hle:G.le g' g1':=by
    intro h q β e;by_cases hh:h<n
    .grind
    .rw [hu h q oM] at e;grind
   have hW:∀k,f0z (fun h q=>g' h (q+μ h)) H k->f0z g' H1 k:=by
    rintro k ⟨h,q,b,β,he,hb,hc,e⟩;exact ⟨h,q+μ h,_,β,(hin _ _ _ _ he).2,hb,hc,e⟩
   have apart:∀h q1 ro1 b1 β,Ent H1 h q1 ro1 b1->(∀q ro b,q1=q+μ h->¬Ent H h q ro b)->g' h q1=some β->0<β.cap->¬f0z (fun h q=>g' h (q+μ h)) H β.blk:=by
    rintro h q1 ro1 b1 β he hno hb hc ⟨h2,q2,b2,β2,he2,hb2,hc2,e2⟩;refine hH.sep h2 (q2+μ h2) h q1 _ ro1 b1 β2 β (fun e=> ?_) (hin _ _ _ _ he2).2 he hb2 hb hc2 hc e2;grind
   have cls:∀h q1 b1,Ent H1' h q1 false b1->(∃q b β,q1=q+μ h/\b1=b.mem μ/\b.mok μ=true/\Ent H' h q false b/\g1 h q=some β/\g1' h q1=some β/\BlkAt g1 β false b w')\/(∃β,h<n/\Ent H1 h q1 false b1/\g' h q1=some β/\g1' h q1=some β/\BlkAt g' β false b1 w/\(0<β.cap->¬f0z (fun h q=>g' h (q+μ h)) H β.blk)):=by
    intro h q1 b1 he;rcases p3 h q1 b1 he with ⟨q,b,e1,e2,e3,e4⟩|⟨e1,e2,e3⟩
    .obtain ⟨β,hb,hB⟩:=hH'.blk _ _ _ _ e4;grind
    .obtain ⟨β,hb,hB⟩:=hH.blk _ _ _ _ e2;grind
   refine ⟨sv.mem μ,H1',n',g1',p1,hnn,?_,?_,(Rv.mem hs1 sv v).1 hv',⟨?_,?_⟩,p2,?_,?_⟩
   .intro h q hh;simp only [g1'];rw [if_neg oM];exact hu' h q hh
   .grind
   .intro h q1 ro b1 he;have:=p2 _ _ _ _ he;subst this;rcases cls h q1 b1 he with ⟨q,b,β,e1,e2,e3,e4,e5,e6,e7⟩|⟨β,e1,e2,e3,e4,e5,e6⟩
    .grind [s0h]
    .exact ⟨β,e4,b0E e5 hle hfr.size (fun hc=>hfr.block _ (e5.lt hc) (e6 hc))⟩
   .intro h q h' q' b ro' b' β β' hne he he' hb hb' hc hc';have:=p2 _ _ _ _ he';subst this;rcases cls h q b he with ⟨q0,b0,β0,e1,e2,e3,e4,e5,e6,e7⟩|⟨β0,e1,e2,e3,e4,e5,e6⟩
    .rw [hb] at e6;cases e6;rcases cls h' q' b' he' with ⟨q2,b2,β2,k1,k2,k3,k4,k5,k6,k7⟩|⟨β2,k1,k2,k3,k4,k5,k6⟩
     .rw [hb'] at k6;cases k6;refine hH'.sep h q0 h' q2 b0 false b2 β β' (fun e=>hne ⟨e.1,?_⟩) e4 k4 e5 k5 hc hc';simp_all
     .rw [hb'] at k4;cases k4;rcases hown h q0 b0 β e4 e5 hc with ho|ho
      .grind
      .have:=k5.lt hc';omega
    .rw [hb] at e4;cases e4;rcases cls h' q' b' he' with ⟨q2,b2,β2,k1,k2,k3,k4,k5,k6,k7⟩|⟨β2,k1,k2,k3,k4,k5,k6⟩
     .rw [hb'] at k6;cases k6;rcases hown h' q2 b2 β' k4 k5 hc' with ho|ho
      .intro e;rw [<-e] at ho;exact e6 hc ho
      .have:=e5.lt hc;omega
     .rw [hb'] at k4;cases k4;exact hH.sep h q h' q' b false b' β β' hne e2 k2 e3 k3 hc hc'
   .exact ⟨hfr.os,hfr.tape,hfr.output,hfr.size,fun k hk1 hk2=>hfr.block k hk1 (fun hq=>hk2 (hW k hq))⟩
   .intro h q b β he hb hc;rcases cls h q b he with ⟨q0,b0,β0,e1,e2,e3,e4,e5,e6,e7⟩|⟨β0,e1,e2,e3,e4,e5,e6⟩
    .rw [hb] at e6;cases e6;rcases hown h q0 b0 β e4 e5 hc with ho|ho
     .exact .inl (hW _ ho)
     .exact .inr ho
    .rw [hb] at e4;cases e4;exact .inl ⟨h,q,b,β,e2,e3,hc,rfl⟩
 rcases h with ⟨hb,h⟩|h
 .refine .inl ⟨hb,fun g w vals h1 h2 h3 h4=> ?_⟩;obtain ⟨g1,k1,k2,k3,k4,k5⟩:=key g w vals h1 h2 h3 h4;refine (h g1 w vals k1 k2 k3 k4).mono ?_;rintro e w' ⟨v,rfl,ho⟩;exact ⟨v,rfl,k5 v w' ho⟩
 .refine .inr (fun g w vals h1 h2 h3 h4=> ?_);obtain ⟨g1,k1,k2,k3,k4,k5⟩:=key g w vals h1 h2 h3 h4;obtain ⟨v,w',hr,ho⟩:=h g1 w vals k1 k2 k3 k4;exact ⟨v,w',hr,k5 v w' ho⟩
structure FamAt where
 q:Nat
 dom:Nat->Prop
 f:Nat->Blk
abbrev y0I:=List (Nat×FamAt)
def fmu (L:y0I) (h:Nat):Nat:=match a0M L h with|some a=>a.q|none=>0
def s0i (L:y0I) (h:Nat):HB->HB
 | .one ro b=>match a0M L h with|some a=> .fam ro a.dom a.f|none=> .one ro (b.mem (fmu L))
 | .fam ro dom f=> .fam ro dom (fun x=>(f x).mem (fmu L))
def k1u (L:y0I):a0k->a0k
 | []=> []
 |(h,some hb)::r=>(h,some (s0i L h hb))::k1u L r
 |(h,none)::r=>(h,none)::k1u L r
def u0i (L:y0I) (h:Nat):HB->HB
 | .one ro b=>match a0M L h with|some a=> .fam ro a.dom (fun x=>if x=a.q then b.mem (fmu L) else a.f x)|none=> .one ro (b.mem (fmu L))
 | .fam ro dom f=> .fam ro dom (fun x=>(f x).mem (fmu L))
def m0i (L:y0I):a0k->a0k
 | []=> []
 |(h,some hb)::r=>(h,some (u0i L h hb))::m0i L r
 |(h,none)::r=>(h,none)::m0i L r
def w0q (L:y0I) (H H':a0k) (n:Nat):y0I->Prop
 | []=>True
 |(h,a)::r=>(0<h/\h<n/\∃ro b,a0w H h=some (.one ro b)/\a.dom a.q/\a.f a.q=b.mem (fmu L)/\(a0w H' h=none\/(ro=false/\∃b1,a0w H' h=some (.one false b1))))/\w0q L H H' n r
def HB.mok (μ:Nat->Nat):HB->Prop
 | .one _ b=>b.mok μ=true
 | .fam _ dom f=>∀q,dom q->(f q).mok μ=true
def h0Q (μ:Nat->Nat):a0k->Prop
 | []=>True
 |(_,some hb)::r=>hb.mok μ/\h0Q μ r
 |(_,none)::r=>h0Q μ r
theorem e0J (L:y0I) (h:Nat):∀H:a0k,a0w (k1u L H) h=(a0w H h).map (s0i L h)
 | []=>rfl
 |(k,some hb)::r=>by
  simp only [k1u,a0T];by_cases e:k=h
  .simp_all
  .rw [if_neg e,if_neg e];exact e0J L h r
 |(k,none)::r=>by
  simp only [k1u,a0T];by_cases e:k=h
  .simp_all
  .rw [if_neg e,if_neg e];exact e0J L h r
theorem f0e (L:y0I) (h:Nat):∀H:a0k,a0w (m0i L H) h=(a0w H h).map (u0i L h)
 | []=>rfl
 |(k,some hb)::r=>by
  simp only [m0i,a0T];by_cases e:k=h
  .simp_all
  .rw [if_neg e,if_neg e];exact f0e L h r
 |(k,none)::r=>by
  simp only [m0i,a0T];by_cases e:k=h
  .simp_all
  .rw [if_neg e,if_neg e];exact f0e L h r
theorem f0f {μ:Nat->Nat} {h:Nat} {hb:HB}:∀{H:a0k},h0Q μ H->a0w H h=some hb->hb.mok μ
 | [],_,e=>by cases e
 |(k,some x)::r,hm,e=>by
  simp only [h0Q] at hm;rw [a0T] at e;split at e
  .simp_all
  .exact f0f hm.2 e
 |(k,none)::r,hm,e=>by
  simp only [h0Q] at hm;rw [a0T] at e;split at e
  .grind
  .exact f0f hm e
theorem d0a {L0:y0I} {H H':a0k} {n h:Nat} {a:FamAt}:∀{L:y0I},w0q L0 H H' n L->a0M L h=some a->0<h/\h<n/\∃ro b,a0w H h=some (.one ro b)/\a.dom a.q/\a.f a.q=b.mem (fmu L0)/\(a0w H' h=none\/(ro=false/\∃b1,a0w H' h=some (.one false b1)))
 | [],_,e=>by cases e
 |(k,x)::r,hm,e=>by
  simp only [w0q] at hm;rw [c0i] at e;split at e
  .simp_all
  .exact d0a hm.2 e
theorem k0s {P:Program} {n:Nat} {f:FuncId} {args:List SV} {H H':a0k} {r:SV} {n':Nat} (L:y0I) (hL:w0q L H H' n L) (hm:h0Q (fmu L) H) (hm':h0Q (fmu L) H') (hrw:c0x H') (h:FC P n f args H (a0g r H' n')):
  FC P n f (SV.mems (fmu L) args) (k1u L H) (a0g (r.mem (fmu L)) (m0i L H') n'):=by
 have hno:∀{x:Nat},a0M L x=none->fmu L x=0:=fun {x} e=>by unfold fmu;rw [e]
 have hyes:∀{x:Nat} {a:FamAt},a0M L x=some a->fmu L x=a.q:=fun {x a} e=>by unfold fmu;rw [e]
 refine n1u (fmu L) ?_ ?_ ?_ ?_ h
 .cases e:a0M L 0 with
  |none=>simp_all
  |some a=>exact absurd (d0a hL e).1 (s1w _)
 .intro x hx;cases e:a0M L x with
  |none=>simp_all
  |some a=>have:=(d0a hL e).2.1;omega
 .rintro x q ro b ⟨hb,e1,e2,e3⟩;have hmo:=f0f hm e1;cases hb with
  |one r0 b0=>
   obtain ⟨rfl,rfl⟩:=e2;refine ⟨hmo,?_⟩;cases e:a0M L x with
   |none=>
    rw [hno e];refine ⟨.one r0 (b.mem (fmu L)),?_,⟨rfl,rfl⟩,e3⟩;simp_all [s0i,e0J]
   |some a=>
    obtain ⟨_,_,ro1,b1,k1,k2,k3,_⟩:=d0a hL e;rw [e1] at k1;cases k1;rw [hyes e,i1z];refine ⟨.fam r0 a.dom a.f,?_,⟨k2,k3.symm⟩,e3⟩;simp_all [s0i,e0J]
  |fam r0 dom F=>
   obtain ⟨h1,rfl⟩:=e2;refine ⟨hmo q h1,?_⟩;cases e:a0M L x with
   |none=>
    rw [hno e];refine ⟨.fam r0 dom (fun y=>(F y).mem (fmu L)),?_,⟨h1,rfl⟩,e3⟩;simp_all [s0i,e0J]
   |some a=>
    obtain ⟨_,_,ro1,b1,k1,_⟩:=d0a hL e;simp_all
 .rintro sv Hx nx ⟨rfl,rfl,rfl⟩;refine ⟨m0i L Hx,rX,?_,?_⟩
  .rintro x q ro b ⟨hb,e1,e2,e3⟩;rw [f0e] at e1;cases e:a0w Hx x with
   |none=>simp_all
   |some hb0=>
    rw [e] at e1;simp only [k1k,injEq] at e1;subst e1;cases hb0 with
    |one r0 b0=>
     have:=hrw x 0 r0 b0 ⟨_,e,⟨rfl,rfl⟩,rfl⟩;subst this;rw [<-e3];simp only [u0i];split<;>rfl
    |fam r0 dom F=>
     have:=hrw x q r0 (F q) ⟨_,e,⟨e2.1,rfl⟩,rfl⟩;subst this;rw [<-e3];rfl
  .rintro x q1 b1 ⟨hb,e1,e2,e3⟩;rw [f0e] at e1;cases e:a0w Hx x with
   |none=>simp_all
   |some hb0=>
    rw [e] at e1;simp only [k1k,injEq] at e1;subst e1;have hmo:=f0f hm' e;cases hb0 with
    |one r0 b0=>
     have:=hrw x 0 r0 b0 ⟨_,e,⟨rfl,rfl⟩,rfl⟩;subst this;cases ea:a0M L x with
     |none=>
      simp only [u0i,ea,HB.is] at e2;exact .inl ⟨0,b0,by simp_all,e2.2,hmo,⟨_,e,⟨rfl,rfl⟩,rfl⟩⟩
     |some a=>
      simp only [u0i,ea,HB.is] at e2;obtain ⟨hx0,hxn,ro1,bb,k1,k2,k3,k4⟩:=d0a hL ea;by_cases hq:q1=a.q
      .refine .inl ⟨0,b0,by simp_all,?_,hmo,⟨_,e,⟨rfl,rfl⟩,rfl⟩⟩;simp_all
      .refine .inr ⟨hxn,⟨.fam false a.dom a.f,?_,⟨e2.1,?_⟩,rfl⟩,?_⟩
       .simp_all [s0i,e0J]
       .simp_all
       .rintro q ro b hqe ⟨hb2,f1,f2,_⟩;rw [k1] at f1;cases f1;simp_all [HB.is]
    |fam r0 dom F=>
     have:=hrw x q1 r0 (F q1) ⟨_,e,⟨e2.1,rfl⟩,rfl⟩;subst this;cases ea:a0M L x with
     |none=>exact .inl ⟨q1,F q1,by simp_all,e2.2,hmo q1 e2.1,⟨_,e,⟨e2.1,rfl⟩,rfl⟩⟩
     |some a=>
      obtain ⟨_,_,ro1,bb,_,_,_,k4⟩:=d0a hL ea;simp_all
theorem d0y {n:Nat} {R:Nat->Nat->Option (Nat×Nat)} {h q h' q' i j:Nat} (hn:n<=h') (e:R h' q'=some (h,q)):SLe n R (.ptr h q i j) (.ptr h' q' i j):=by
 intro g g1 v hle hR hv;grind [Rv]
theorem u0j {n:Nat} {R:Nat->Nat->Option (Nat×Nat)} {h q h' q':Nat} (hn:n<=h') (e:R h' q'=some (h,q)):SLe n R (.map h q) (.map h' q'):=by
 intro g g1 v hle hR hv;grind [Rv]
def q1k (n:Nat) (R:Nat->Nat->Option (Nat×Nat)):List SV->List SV->Prop
 | [],[]=>True
 |a::l,b::m=>SLe n R a b/\q1k n R l m
 |_,_=>False
theorem u0k {n:Nat} {R:Nat->Nat->Option (Nat×Nat)}:∀{l m:List SV},q1k n R l m->m.length=l.length/\∀j b,nth m j=some b->∃a,nth l j=some a/\SLe n R a b
 | [],[],_=>⟨rfl,fun j b h=>by trivial⟩
 |a::l,b::m,h=>by
  obtain ⟨h1,h2⟩:=u0k h.2;refine ⟨by simp_all,fun j c hc=> ?_⟩;cases j with
  |zero=>simp only [nth,injEq] at hc;subst hc;exact ⟨a,rfl,h.1⟩
  |succ j=>simp_all [nth]
 | [],_::_,h=>h.elim
 |_::_,[],h=>h.elim
theorem b0G {n:Nat} {R:Nat->Nat->Option (Nat×Nat)} {l m:List SV} (h:q1k n R l m):BLe n R (.cells l) (.cells m):= .inr ⟨(u0k h).1,(u0k h).2⟩
theorem q0i {n:Nat} {R:Nat->Nat->Option (Nat×Nat)} {ka:Bool} {m:Nat} {ks:List Col} {c c':BCol} {bs:List Nat} {ck:Nat} (hl:c'.len=m) (h:∀i,i<m->SLe n R (c.at i) (c'.at i)):BLe n R (.obj (.map ka false m ks [c] bs ck)) (.obj (.map ka false m ks [c'] bs ck)):=
 .inr ⟨rfl,rfl,rfl,rfl,rfl,rfl,fun _ c2 h2=>by simp_all,fun i hi=>h i hi⟩
def q1l (n:Nat) (R:Nat->Nat->Option (Nat×Nat)) (m:Nat):List BCol->List BCol->Prop
 | [],[]=>True
 |c::l,d::r=>((c.len=m->d.len=m)/\∀i,i<m->SLe n R (c.at i) (d.at i))/\q1l n R m l r
 |_,_=>False
theorem q0j {n m:Nat} {R:Nat->Nat->Option (Nat×Nat)}:∀{l r:List BCol},q1l n R m l r->r.length=l.length/\((∀c∈l,c.len=m)->∀c∈r,c.len=m)/\∀i j d,i<m->nth r j=some d->∃c,nth l j=some c/\SLe n R (c.at i) (d.at i)
 | [],[],_=>⟨rfl,fun _ c h=>(by grind),fun i j d _ h=>by trivial⟩
 |a::l,b::r,h=>by
  obtain ⟨h1,h2,h3⟩:=q0j h.2;refine ⟨by simp_all,fun hl c hc=> ?_,fun i j d hi hd=> ?_⟩
  .rcases f1I.1 hc with rfl|hc
   .exact h.1.1 (hl a (t1H))
   simp_all
  .cases j with
   |zero=>simp only [nth,injEq] at hd;subst hd;exact ⟨a,rfl,h.1.2 i hi⟩
   |succ j=>simp_all [nth]
 | [],_::_,h=>h.elim
 |_::_,[],h=>h.elim
theorem e0j {n m:Nat} {R:Nat->Nat->Option (Nat×Nat)} {l r:List BCol} (h:q1l n R m l r):BLe n R (.cols m l) (.cols m r):=
 .inr ⟨m0c _,(q0j h).1,(q0j h).2.1,(q0j h).2.2⟩
theorem w0r {n m h nb h':Nat} {R:Nat->Nat->Option (Nat×Nat)} (hn:n<=h') (h1:∀q,q<m->R h' q=some (h,q)) (h2:R h' m=some (nb,0)):∀i,i<m+1->SLe n R ((BCol.svs (e0A h m++ [.ptr nb 0 0 0])).at i) ((BCol.ptrs h' (m+1)).at i):=by
 intro i hi;by_cases e:i<m
 .have e1:(BCol.svs (e0A h m++ [.ptr nb 0 0 0])).at i= .ptr h i 0 0:=by
   show (e0A h m++ [SV.ptr nb 0 0 0]).getD i .unk=_;rw [List.getD,e1S (by rw [b0P];omega)];exact e0Y e
  rw [e1];exact d0y hn (h1 i e)
 .have ei:i=m:=oM
  subst ei;have e1:(BCol.svs (e0A h i++ [.ptr nb 0 0 0])).at i= .ptr nb 0 0 0:=by
   show (e0A h i++ [SV.ptr nb 0 0 0]).getD i .unk=_;rw [List.getD,f1K (by rw [b0P];omega),b0P,s1N];rfl
  rw [e1];exact d0y hn h2
theorem f1T {h m i:Nat} (hi:i<m):(e0A h m).set i (.ptr h i 0 0)=e0A h m:=by
 refine s1P fun j=> ?_
 grind [e0A]
theorem f1U {h m i:Nat} (hi:i<m):b0j i (.ptr h i 0 0) (e0A h m)=e0A h m:=by
 simp_all [b0j,b0P,f1T]
theorem f1V {h m:Nat} {v:SV}:b0j m v (e0A h m)=e0A h m++ [v]:=by
 simp_all [b0j,b0P]
structure GD where
 old:Nat
 nw:Nat
 f:Nat->Blk
def gdR (n m:Nat) (D:List GD) (h q:Nat):Option (Nat×Nat):=if n<=h/\q<=m then (match nth D (h-n) with|some d=>if q<m then some (d.old,q) else some (d.nw,0)|none=>none) else none
def gdN (n m:Nat):Nat->List GD->a0k
 |_,[]=> []
 |i,d::r=>(n+i,some (.fam false (fun x=>x<m) d.f))::gdN n m (i+1) r
def gdr:List GD->List Nat
 | []=> []
 |d::r=>d.old::d.nw::gdr r
theorem q0k:∀{D:List GD} {i:Nat} {d:GD},nth D i=some d->d.old∈gdr D/\d.nw∈gdr D
 | [],i,d,h=>by trivial
 |x::D,0,d,h=>by simp_all [nth,gdr]
 |x::D,i+1,d,h=>by
  have:=q0k (D:=D) (i:=i) h;simp [gdr,this]
theorem u0l {n m:Nat}:∀{D:List GD} {i h q:Nat} {ro:Bool} {b:Blk},Ent (gdN n m i D) h q ro b->∃j d,h=n+(i+j)/\nth D j=some d/\q<m/\ro=false/\b=d.f q
 | [],i,h,q,ro,b,he=>(m0a he).elim
 |x::D,i,h,q,ro,b,he=>by
  rcases a0v.1 he with ⟨rfl,hb2,e1,e2,e3⟩|⟨_,he⟩
  .cases e1;exact ⟨0,x,by rfl,rfl,e2.1,e3.symm,e2.2⟩
  .obtain ⟨j,d,h1,h2,h3⟩:=u0l he;exact ⟨j+1,d,by omega,h2,h3⟩
theorem w0s {n m:Nat}:∀{D:List GD} {i x:Nat},x∈a0s (gdN n m i D)->n<=x
 | [],i,x,h=>by trivial
 |d::D,i,x,h=>by
  simp only [gdN,a0s,f1I] at h;rcases h with h|h
  .omega
  .exact w0s h
theorem w0t {α:Type}:∀{l:List α} {i:Nat} {x:α},nth l i=some x->i<l.length
 | [],i,x,h=>by trivial
 |y::l,0,x,h=>by simp
 |y::l,i+1,x,h=>by have:=w0t (l:=l) (i:=i) h;simp_all
theorem i0B {n m:Nat} {D:List GD} {h q:Nat} {p:Nat×Nat} (e:gdR n m D h q=some p):n<=h/\q<=m/\∃d,nth D (h-n)=some d/\((q<m/\p=(d.old,q))\/(q=m/\p=(d.nw,0))):=by
 grind [gdR]
theorem f0g {n m i q:Nat} {D:List GD} {d:GD} (hd:nth D i=some d) (hq:q<m):gdR n m D (n+i) q=some (d.old,q):=by
 unfold gdR;grind
theorem e0x {n m i:Nat} {D:List GD} {d:GD} (hd:nth D i=some d):gdR n m D (n+i) m=some (d.nw,0):=by
 simp_all [gdR]
def q1m (H:a0k) (n m th:Nat) (R:Nat->Nat->Option (Nat×Nat)):List GD->Prop
 | []=>True
 |d::r=>(d.old≠th/\d.nw≠th/\(∃dom f,a0w H d.old=some (.fam false dom f)/\(∀q,q<m->dom q/\BLe n R (f q) (d.f q)))/\∃b,a0w H d.nw=some (.one false b)/\BLe n R b (d.f m))/\q1m H n m th R r
theorem u0m {H:a0k} {n m th:Nat} {R:Nat->Nat->Option (Nat×Nat)}:∀{D:List GD} {i:Nat} {d:GD},q1m H n m th R D->nth D i=some d->d.old≠th/\d.nw≠th/\(∃dom f,a0w H d.old=some (.fam false dom f)/\(∀q,q<m->dom q/\BLe n R (f q) (d.f q)))/\∃b,a0w H d.nw=some (.one false b)/\BLe n R b (d.f m)
 | [],i,d,_,e=>by trivial
 |x::D,0,d,h,e=>by simp only [nth,injEq] at e;subst e;exact h.1
 |x::D,i+1,d,h,e=>u0m (D:=D) (i:=i) h.2 e
def b1n (D:List GD):Bool:=l0p (gdr D)
theorem w0u:∀{l:List Nat} {x:Nat},a1s l x=true↔x∈l
 | [],x=>by simp [a1s]
 |y::l,x=>by
  simp only [a1s,s1G,w0u (l:=l),f1I];constructor
  .rintro (h|h)
   all_goals simp_all
  .rintro (h|h)
   all_goals simp_all
theorem q0l:∀{l:List Nat},l0p l=true->l.Nodup
 | [],_=>s1Z
 |x::l,h=>by
  simp only [l0p,n0M] at h;exact t1D.2 ⟨fun q=>(by have:=w0u.2 q;simp_all),q0l h.2⟩
theorem b1o:∀{D:List GD},(gdr D).Nodup->∀{i j:Nat} {d e:GD},nth D i=some d->nth D j=some e->(d.old=e.old->i=j)/\(d.nw=e.nw->i=j)/\d.old≠e.nw
 | [],_,i,j,d,e,h,_=>by trivial
 |x::D,hn,i,j,d,e,h1,h2=>by
  obtain ⟨n1,n2⟩:=t1D.1 hn;obtain ⟨n3,n4⟩:=t1D.1 n2;cases i with
  |zero=>
   simp only [nth] at h1;cases j with
   |zero=>
    simp only [nth] at h2;simp_all
   |succ j=>
    have m:=q0k (D:=D) (i:=j) h2;grind
  |succ i=>
   have m:=q0k (D:=D) (i:=i) h1;cases j with
   |zero=>
    simp only [nth] at h2;grind
   |succ j=>
    obtain ⟨a,b,c⟩:=b1o (D:=D) n4 (i:=i) (j:=j) h1 h2;omega
theorem g0P {H:a0k} {n m th:Nat} {tb0 tb:Blk} (D:List GD) (hth:th<n) (ht:a0w H th=some (.one false tb0)) (hle:BLe n (gdR n m D) tb0 tb) (hD:q1m H n m th (gdR n m D) D) (hdist:b1n D=true):
  Relab H n (gdR n m D) (fun _=>0) ((th,some (.one false tb))::gdN n (m+1) 0 D) (gdr D) D.length:=by
 have hnd:=q0l hdist;have key:∀{h q:Nat} {ro:Bool} {b:Blk},Ent ((th,some (HB.one false tb))::gdN n (m+1) 0 D) h q ro b->(h=th/\q=0/\ro=false/\b=tb)\/∃j d,h=n+j/\nth D j=some d/\q<m+1/\ro=false/\b=d.f q:=by
  intro h q ro b he;rcases a0v.1 he with ⟨rfl,hb2,e1,e2,e3⟩|⟨_,he⟩
  .cases e1;exact .inl ⟨rfl,e2.1,e3.symm,e2.2⟩
  grind [u0l]
 refine ⟨?_,?_,?_,?_,?_⟩
 .intro h q p h1 h2;obtain ⟨_,_,d,h3,_⟩:=i0B h2;have:=w0t h3;omega
 .simp_all
 .intro h q b' he;rcases key he with ⟨rfl,rfl,_,rfl⟩|⟨j,d,rfl,hd,hq,_,rfl⟩
  .exact .inl ⟨h,0,tb0,.inl ⟨hth,rfl,rfl⟩,⟨_,ht,⟨rfl,rfl⟩,rfl⟩,hle⟩
  .obtain ⟨_,_,⟨dom,f,g1,g2⟩,b,g3,g4⟩:=u0m hD hd;by_cases e:q<m
   .exact .inl ⟨d.old,q,f q,.inr ⟨by omega,f0g hd e⟩,⟨_,g1,⟨(g2 q e).1,rfl⟩,rfl⟩,(g2 q e).2⟩
   .have eq:q=m:=oM
    subst eq;exact .inl ⟨d.nw,0,b,.inr ⟨by omega,e0x hd⟩,⟨_,g3,⟨rfl,rfl⟩,rfl⟩,g4⟩
 .intro h q p h1 h2;obtain ⟨_,_,d,h3,h4⟩:=i0B h2;have:=q0k h3;grind
 .intro h q h' q' h0 q0 hk hk' h1 h2;have kk:∀{x:Nat},x∈a0s ((th,some (HB.one false tb))::gdN n (m+1) 0 D)->x=th\/n<=x:=by
   intro x hx;simp only [a0s,f1I] at hx;rcases hx with hx|hx
   .omega
   .exact .inr (w0s hx)
  have no:∀{x y:Nat},n<=x->gdR n m D x y=some (h0,q0)->h0≠th:=by
   intro x y hx e;obtain ⟨_,_,d,h3,h4⟩:=i0B e;grind [u0m]
  rcases h1 with ⟨a1,rfl,rfl⟩|⟨a1,a2⟩
  .rcases h2 with ⟨b1,e1,e2⟩|⟨b1,b2⟩
   all_goals grind
  .rcases h2 with ⟨b1,rfl,rfl⟩|⟨b1,b2⟩
   .grind
   .obtain ⟨_,_,d,h3,h4⟩:=i0B a2;obtain ⟨_,_,d',h3',h4'⟩:=i0B b2;grind [b1o]
theorem g0Q {H:a0k} {n th:Nat} {tb0 tb:Blk} (D:List GD) (hth:th<n) (ht:a0w H th=some (.one false tb0)) (hle:BLe n (fun _ _=>none) tb0 tb):
  Relab H n (fun _ _=>none) (fun _=>0) ((th,some (.one false tb))::gdN n 0 0 D) [] D.length:=by
 have key:∀{h q:Nat} {ro:Bool} {b:Blk},Ent ((th,some (HB.one false tb))::gdN n 0 0 D) h q ro b->h=th/\q=0/\ro=false/\b=tb:=by
  intro h q ro b he;rcases a0v.1 he with ⟨rfl,hb2,e1,e2,e3⟩|⟨_,he⟩
  .cases e1;exact ⟨rfl,e2.1,e3.symm,e2.2⟩
  grind [u0l]
 refine ⟨fun h q p _ e=>(by grind),fun h q ro b he=>(key he).2.2.1,?_,fun h q p _ e=>(by grind),?_⟩
 .intro h q b' he;obtain ⟨rfl,rfl,_,rfl⟩:=key he;exact .inl ⟨h,0,tb0,.inl ⟨hth,rfl,rfl⟩,⟨_,ht,⟨rfl,rfl⟩,rfl⟩,hle⟩
 .intro h q h' q' h0 q0 _ _ h1 h2;rcases h1 with ⟨_,rfl,rfl⟩|⟨_,e⟩
  .rcases h2 with ⟨_,e1,e2⟩|⟨_,e⟩
   all_goals trivial
  grind
structure RD where
 old:Nat
 f:Nat->Blk
def rdR (n m:Nat) (D:List RD) (h q:Nat):Option (Nat×Nat):=if n<=h/\q<m then (match nth D (h-n) with|some d=>some (d.old,q)|none=>none) else none
def rdN (n m:Nat):Nat->List RD->a0k
 |_,[]=> []
 |i,d::r=>(n+i,some (.fam false (fun x=>x<m) d.f))::rdN n m (i+1) r
def rdr:List RD->List Nat
 | []=> []
 |d::r=>d.old::rdr r
theorem q0m:∀{D:List RD} {i:Nat} {d:RD},nth D i=some d->d.old∈rdr D
 | [],i,d,h=>by trivial
 |x::D,0,d,h=>by simp_all [nth,rdr]
 |x::D,i+1,d,h=>by
  have:=q0m (D:=D) (i:=i) h;simp [rdr,this]
theorem b1p {n m:Nat}:∀{D:List RD} {i h q:Nat} {ro:Bool} {b:Blk},Ent (rdN n m i D) h q ro b->∃j d,h=n+(i+j)/\nth D j=some d/\q<m/\ro=false/\b=d.f q
 | [],i,h,q,ro,b,he=>(m0a he).elim
 |x::D,i,h,q,ro,b,he=>by
  rcases a0v.1 he with ⟨rfl,hb2,e1,e2,e3⟩|⟨_,he⟩
  .cases e1;exact ⟨0,x,by rfl,rfl,e2.1,e3.symm,e2.2⟩
  .obtain ⟨j,d,h1,h2,h3⟩:=b1p he;exact ⟨j+1,d,by omega,h2,h3⟩
theorem w0v {n m:Nat}:∀{D:List RD} {i x:Nat},x∈a0s (rdN n m i D)->n<=x
 | [],i,x,h=>by trivial
 |d::D,i,x,h=>by
  simp only [rdN,a0s,f1I] at h;rcases h with h|h
  .omega
  .exact w0v h
theorem i0C {n m:Nat} {D:List RD} {h q:Nat} {p:Nat×Nat} (e:rdR n m D h q=some p):n<=h/\q<m/\∃d,nth D (h-n)=some d/\p=(d.old,q):=by
 grind [rdR]
theorem k0t {n m i q:Nat} {D:List RD} {d:RD} (hd:nth D i=some d) (hq:q<m):rdR n m D (n+i) q=some (d.old,q):=by
 simp_all [rdR]
def q1n (H:a0k) (n m th:Nat) (R:Nat->Nat->Option (Nat×Nat)):List RD->Prop
 | []=>True
 |d::r=>(d.old≠th/\∃dom f,a0w H d.old=some (.fam false dom f)/\(∀q,q<m->dom q/\BLe n R (f q) (d.f q)))/\q1n H n m th R r
theorem u0n {H:a0k} {n m th:Nat} {R:Nat->Nat->Option (Nat×Nat)}:∀{D:List RD} {i:Nat} {d:RD},q1n H n m th R D->nth D i=some d->d.old≠th/\∃dom f,a0w H d.old=some (.fam false dom f)/\(∀q,q<m->dom q/\BLe n R (f q) (d.f q))
 | [],i,d,_,e=>by trivial
 |x::D,0,d,h,e=>by simp only [nth,injEq] at e;subst e;exact h.1
 |x::D,i+1,d,h,e=>u0n (D:=D) (i:=i) h.2 e
theorem i1E:∀{D:List RD},(rdr D).Nodup->∀{i j:Nat} {d e:RD},nth D i=some d->nth D j=some e->d.old=e.old->i=j
 | [],_,i,j,d,e,h,_=>by trivial
 |x::D,hn,i,j,d,e,h1,h2=>by
  obtain ⟨n1,n2⟩:=t1D.1 hn;cases i with
  |zero=>
   simp only [nth] at h1;cases j with
   |zero=>omega
   |succ j=>
    have m:=q0m (D:=D) (i:=j) h2;grind
  |succ i=>
   have m:=q0m (D:=D) (i:=i) h1;cases j with
   |zero=>
    grind [nth]
   |succ j=>exact fun q=>by rw [i1E (D:=D) n2 (i:=i) (j:=j) h1 h2 q]
theorem s0j {H:a0k} {n m th:Nat} {tb0 tb:Blk} (D:List RD) (hth:th<n) (ht:a0w H th=some (.one false tb0)) (hle:BLe n (rdR n m D) tb0 tb) (hD:q1n H n m th (rdR n m D) D) (hdist:l0p (rdr D)=true):
  Relab H n (rdR n m D) (fun _=>0) ((th,some (.one false tb))::rdN n m 0 D) (rdr D) D.length:=by
 have hnd:=q0l hdist;have key:∀{h q:Nat} {ro:Bool} {b:Blk},Ent ((th,some (HB.one false tb))::rdN n m 0 D) h q ro b->(h=th/\q=0/\ro=false/\b=tb)\/∃j d,h=n+j/\nth D j=some d/\q<m/\ro=false/\b=d.f q:=by
  intro h q ro b he;rcases a0v.1 he with ⟨rfl,hb2,e1,e2,e3⟩|⟨_,he⟩
  .cases e1;exact .inl ⟨rfl,e2.1,e3.symm,e2.2⟩
  grind [b1p]
 refine ⟨?_,?_,?_,?_,?_⟩
 .intro h q p h1 h2;obtain ⟨_,_,d,h3,_⟩:=i0C h2;have:=w0t h3;omega
 .simp_all
 .intro h q b' he;rcases key he with ⟨rfl,rfl,_,rfl⟩|⟨j,d,rfl,hd,hq,_,rfl⟩
  .exact .inl ⟨h,0,tb0,.inl ⟨hth,rfl,rfl⟩,⟨_,ht,⟨rfl,rfl⟩,rfl⟩,hle⟩
  .obtain ⟨_,dom,f,g1,g2⟩:=u0n hD hd;exact .inl ⟨d.old,q,f q,.inr ⟨by omega,k0t hd hq⟩,⟨_,g1,⟨(g2 q hq).1,rfl⟩,rfl⟩,(g2 q hq).2⟩
 .intro h q p h1 h2;obtain ⟨_,_,d,h3,rfl⟩:=i0C h2;exact q0m h3
 .intro h q h' q' h0 q0 hk hk' h1 h2;have kk:∀{x:Nat},x∈a0s ((th,some (HB.one false tb))::rdN n m 0 D)->x=th\/n<=x:=by
   intro x hx;simp only [a0s,f1I] at hx;rcases hx with hx|hx
   .omega
   .exact .inr (w0v hx)
  have no:∀{x y:Nat},n<=x->rdR n m D x y=some (h0,q0)->h0≠th:=by
   intro x y hx e;obtain ⟨_,_,d,h3,h4⟩:=i0C e;grind [u0n]
  rcases h1 with ⟨a1,rfl,rfl⟩|⟨a1,a2⟩
  .rcases h2 with ⟨b1,e1,e2⟩|⟨b1,b2⟩
   all_goals grind
  .rcases h2 with ⟨b1,rfl,rfl⟩|⟨b1,b2⟩
   .grind
   .obtain ⟨_,_,d,h3,h4⟩:=i0C a2;obtain ⟨_,_,d',h3',h4'⟩:=i0C b2;grind [i1E]
abbrev n1H (a c:List ByteArray) (v:List Int) (n:Nat):ObjS:= .map true false n [.strs a,.strs c] [.sc (.ints .i64 v)] (List.range n) n
abbrev e1U:=List ByteArray->List ByteArray->List Int->Prop
theorem n1I {g:G} {w:World} {β:Base} {Q:e1U} (h:(ObjS.bag Q).Ok g w β):∃a c v n,Q a c v/\a.length=n/\c.length=n/\v.length=n/\(n1H a c v n).Ok g w β:=by
 obtain ⟨a,c,v,n,es,hq,e,k1,k2,k3,k4,k5⟩:=h;refine ⟨a,c,v,n,hq,k2,k3,k4,es,e,k1,?_,?_,by simp,List.nodup_range,fun b hb=>by simp_all,fun i x hx=> ?_⟩
 .intro y hy;simp only [f1I,s1O,or_false] at hy;rcases hy with rfl|rfl
  all_goals trivial
 .intro y hy;simp only [b1h] at hy;subst hy;exact k4
 .obtain ⟨h1,h2,h3⟩:=k5 i x hx;have hi:i<n:=by grind
  refine ⟨?_,h2,h3⟩;simp_all
theorem g1i {g:G} {w:World} {β:Base} {Q:e1U} {a c:List ByteArray} {v:List Int} {n:Nat} (hq:Q a c v) (h:(n1H a c v n).Ok g w β):(ObjS.bag Q).Ok g w β:=by
 obtain ⟨es,e,m⟩:=h;refine ⟨a,c,v,n,es,hq,e,m.size,m.kl (.strs a) (by simp),m.kl (.strs c) (by simp),m.vl (.sc (.ints .i64 v)) (by simp),fun i x hx=> ?_⟩;obtain ⟨h1,h2,h3⟩:=m.row i x hx;have hi:i<n:=by rw [<-m.size];grind
 refine ⟨?_,h2,h3⟩;simp_all
theorem w0J {g:G} {w:World} {β:Base} {ro:Bool} {Q:e1U} (h:BlkAt g β ro (.obj (.bag Q)) w):∃a c v n,Q a c v/\a.length=n/\c.length=n/\v.length=n/\BlkAt g β ro (.obj (n1H a c v n)) w:=by
 obtain ⟨a,c,v,n,hq,k1,k2,k3,k⟩:=n1I h.obj.2.2;exact ⟨a,c,v,n,hq,k1,k2,k3,h.lt,h.es,trivial,fun i hi=>hi.elim,fun i j sv hi=>hi.elim,fun i j x hi=>hi.elim,h.rw,h.obj.1,h.obj.2.1,k⟩
theorem y0R {g:G} {w:World} {β:Base} {ro:Bool} {Q:e1U} {a c:List ByteArray} {v:List Int} {n:Nat} (hq:Q a c v) (h:BlkAt g β ro (.obj (n1H a c v n)) w):BlkAt g β ro (.obj (.bag Q)) w:=
 ⟨h.lt,h.es,trivial,fun i hi=>hi.elim,fun i j sv hi=>hi.elim,fun i j x hi=>hi.elim,h.rw,h.obj.1,h.obj.2.1,g1i hq h.obj.2.2⟩
theorem d0I {H:a0k} {k:Nat} {ro:Bool} {b b':Blk} {h q:Nat} {r:Bool} {x:Blk} (he:Ent ((k,some (.one ro b))::H) h q r x):(h=k/\q=0/\r=ro/\x=b/\Ent ((k,some (.one ro b'))::H) h q r b')\/(h≠k/\Ent ((k,some (.one ro b'))::H) h q r x):=by
 rcases a0v.1 he with ⟨rfl,hb,e1,e2,e3⟩|⟨hne,he⟩
 .cases e1;exact .inl ⟨rfl,e2.1,e3.symm,e2.2,a0v.2 (.inl ⟨rfl,_,rfl,⟨e2.1,rfl⟩,e3⟩)⟩
 .exact .inr ⟨fun e=>hne e.symm,a0v.2 (.inr ⟨hne,he⟩)⟩
theorem y0S {g:G} {H:a0k} {w:World} {k:Nat} {ro:Bool} {b b':Blk} (hH:Holds g ((k,some (.one ro b))::H) w) (hb:∀β,BlkAt g β ro b w->BlkAt g β ro b' w):Holds g ((k,some (.one ro b'))::H) w:=by
 refine ⟨fun h q r x he=> ?_,fun h q h' q' x r' x' β β' hne he he'=> ?_⟩
 .rcases d0I (b':=b) he with ⟨rfl,rfl,rfl,rfl,he2⟩|⟨_,he2⟩
  .obtain ⟨β,e1,e2⟩:=hH.blk _ _ _ _ he2;simp_all
  .exact hH.blk _ _ _ _ he2
 .have h1:∃y,Ent ((k,some (HB.one ro b))::H) h q false y:=by
   rcases d0I (b':=b) he with ⟨_,_,_,_,he2⟩|⟨_,he2⟩
   all_goals grind
  have h2:∃y,Ent ((k,some (HB.one ro b))::H) h' q' r' y:=by
   rcases d0I (b':=b) he' with ⟨_,_,_,_,he2⟩|⟨_,he2⟩
   all_goals grind
  obtain ⟨y,h1⟩:=h1;obtain ⟨y',h2⟩:=h2;exact hH.sep h q h' q' y r' y' β β' hne h1 h2
theorem b1V {g:G} {H:a0k} {k:Nat} {ro:Bool} {b b':Blk}:f0z g ((k,some (.one ro b))::H)=f0z g ((k,some (.one ro b'))::H):=by
 have key:∀(b b':Blk) x,f0z g ((k,some (.one ro b))::H) x->f0z g ((k,some (.one ro b'))::H) x:=by
  rintro b b' x ⟨h,q,y,β,he,e1,e2,e3⟩;rcases d0I (b':=b') he with ⟨_,_,_,_,he2⟩|⟨_,he2⟩
  .exact ⟨h,q,_,β,he2,e1,e2,e3⟩
  .exact ⟨h,q,_,β,he2,e1,e2,e3⟩
 grind
theorem b1W {g:G} {H:a0k} {k:Nat} {ro:Bool} {b b':Blk} {W:Nat->Prop} {w0:World} (h:a1g g ((k,some (.one ro b))::H) W w0):a1g g ((k,some (.one ro b'))::H) W w0:=by
 intro x q y β he e1 e2;rcases d0I (b':=b) he with ⟨_,_,_,_,he2⟩|⟨_,he2⟩
 .exact h x q _ β he2 e1 e2
 .exact h x q _ β he2 e1 e2
theorem y0T {H:a0k} {k:Nat} {b b':Blk} (h:c0x ((k,some (.one false b))::H)):c0x ((k,some (.one false b'))::H):=by
 intro x q r y he;rcases d0I (b':=b) he with ⟨_,_,_,_,he2⟩|⟨_,he2⟩
 .omega
 .exact h _ _ _ _ he2
section
variable {P:Program}
theorem s0w {α:Type} {n:Nat} {f:FuncId} {args:List SV} {H:a0k} {k:Nat} {ro:Bool} {b:Blk} {B:α->Blk} {A:α->Prop} {post post':SV->a0k->Nat->Prop}
  (hopen:∀(g:G) (w:World) (β:Base),BlkAt g β ro b w->∃x,A x/\BlkAt g β ro (B x) w)
  (hout:∀(g:G) (w w':World) (v:Value) (H0:a0k),Out g w n H0 post' v w'->Out g w n H0 post v w')
  (h:∀x,A x->FC P n f args ((k,some (.one ro (B x)))::H) post'):FC P n f args ((k,some (.one ro b))::H) post:=by
 have pick:∀(g:G) (w:World),Holds g ((k,some (.one ro b))::H) w->∃x,A x/\Holds g ((k,some (.one ro (B x)))::H) w:=by
  intro g w hH;obtain ⟨β,e1,e2⟩:=hH.blk k 0 ro b (a0v.2 (.inl ⟨rfl,_,rfl,⟨rfl,rfl⟩,rfl⟩));obtain ⟨x,hx,e3⟩:=hopen g w β e2;refine ⟨x,hx,?_⟩;refine ⟨fun h q r y he=> ?_,?_⟩
  .rcases d0I (b':=b) he with ⟨rfl,rfl,rfl,rfl,he2⟩|⟨_,he2⟩
   .simp_all
   .exact hH.blk _ _ _ _ he2
  .intro h q h' q' y r' y' γ γ' hne he he';have h1:∃y,Ent ((k,some (HB.one ro b))::H) h q false y:=by
    rcases d0I (b':=b) he with ⟨_,_,_,_,he2⟩|⟨_,he2⟩<;>exact ⟨_,he2⟩
   have h2:∃y,Ent ((k,some (HB.one ro b))::H) h' q' r' y:=by
    rcases d0I (b':=b) he' with ⟨_,_,_,_,he2⟩|⟨_,he2⟩<;>exact ⟨_,he2⟩
   obtain ⟨z,h1⟩:=h1;obtain ⟨z',h2⟩:=h2;exact hH.sep h q h' q' z r' z' γ γ' hne h1 h2
 have back:∀(g:G) (w w':World) (v:Value) (x:α),Out g w n ((k,some (.one ro (B x)))::H) post' v w'->Out g w n ((k,some (.one ro b))::H) post v w':=by
  intro g w w' v x ho;obtain ⟨sv,H1,n1,g',h1,h2,h3,h4,h5,h6,h7,h8,h9⟩:=hout g w w' v _ ho;rw [b1V (b':=b)] at h8 h9;exact ⟨sv,H1,n1,g',h1,h2,h3,h4,h5,h6,h7,h8,h9⟩
 by_cases hb:d0C P f
 .left;refine ⟨hb,fun g w vals hg hu hH hv=> ?_⟩;obtain ⟨x,hx,hH'⟩:=pick g w hH;rcases h x hx with h|h
  .exact (h.2 g w vals hg hu hH' hv).mono fun e w' ⟨v,he,ho⟩=>⟨v,he,back g w w' v x ho⟩
  grind [g0K]
 .right;intro g w vals hg hu hH hv;obtain ⟨x,hx,hH'⟩:=pick g w hH;rcases h x hx with h|h
  all_goals grind
structure BagX where
 a:List ByteArray
 c:List ByteArray
 v:List Int
 n:Nat
def BagX.ok (Q:e1U) (x:BagX):Prop:=Q x.a x.c x.v/\x.a.length=x.n/\x.c.length=x.n/\x.v.length=x.n
abbrev BagX.blk (x:BagX):Blk:= .obj (n1H x.a x.c x.v x.n)
theorem u0B {n:Nat} {g:G} {w w':World} {v:Value} {H0:a0k} {Q':e1U} {k' n':Nat} {r:SV} {H2:a0k} (ho:Out g w n H0 (fun sv H1 n1=>∃x:BagX,Q' x.a x.c x.v/\a0g r ((k',some (.one false x.blk))::H2) n' sv H1 n1) v w'):Out g w n H0 (a0g r ((k',some (.one false (.obj (.bag Q'))))::H2) n') v w':=by
 obtain ⟨sv,H1,n1,g',⟨x,hq,rfl,rfl,rfl⟩,h2,h3,h4,h5,h6,h7,h8,h9⟩:=ho;exact ⟨_,_,_,g',rX,h2,h3,h4,h5,y0S h6 (fun β hb=>y0R hq hb),y0T h7,h8,b1W h9⟩
theorem n1J {n:Nat} {f:FuncId} {args:List SV} {H:a0k} {k:Nat} {ro:Bool} {Q Q':e1U} {k' n':Nat} {r:SV} {H2:a0k}
  (h:∀x:BagX,x.ok Q->FC P n f args ((k,some (.one ro x.blk))::H) (fun sv H1 n1=>∃x':BagX,Q' x'.a x'.c x'.v/\a0g r ((k',some (.one false x'.blk))::H2) n' sv H1 n1)):
  FC P n f args ((k,some (.one ro (.obj (.bag Q))))::H) (a0g r ((k',some (.one false (.obj (.bag Q'))))::H2) n'):=
 s0w (A:=BagX.ok Q) (B:=BagX.blk) (fun g w β hb=>by
  obtain ⟨a,c,v,m,hq,k1,k2,k3,k4⟩:=w0J hb;exact ⟨⟨a,c,v,m⟩,⟨hq,k1,k2,k3⟩,k4⟩) (fun g w w' v H0 ho=>u0B ho) h
theorem b1X {n:Nat} {f:FuncId} {args:List SV} {H:a0k} {k:Nat} {ro:Bool} {Q:e1U} {post:SV->a0k->Nat->Prop} (h:∀x:BagX,x.ok Q->FC P n f args ((k,some (.one ro x.blk))::H) post):
  FC P n f args ((k,some (.one ro (.obj (.bag Q))))::H) post:=
 s0w (A:=BagX.ok Q) (B:=BagX.blk) (fun g w β hb=>by
  obtain ⟨a,c,v,m,hq,k1,k2,k3,k4⟩:=w0J hb;exact ⟨⟨a,c,v,m⟩,⟨hq,k1,k2,k3⟩,k4⟩) (fun g w w' v H0 ho=>ho) h
theorem y0U {n:Nat} {f:FuncId} {args:List SV} {H:a0k} {Q':e1U} {k' n':Nat} {r:SV} {H2:a0k} {x:BagX} (hq:Q' x.a x.c x.v) (h:FC P n f args H (a0g r ((k',some (.one false x.blk))::H2) n')):FC P n f args H (a0g r ((k',some (.one false (.obj (.bag Q'))))::H2) n'):=by
 rcases h with ⟨hb,h⟩|h
 .exact .inl ⟨hb,fun g w vals hg hu hH hv=>(h g w vals hg hu hH hv).mono fun e w' ⟨v,he,ho⟩=>⟨v,he,u0B (by obtain ⟨sv,H1,n1,g',h1,h2⟩:=ho;exact ⟨sv,H1,n1,g',⟨x,hq,h1⟩,h2⟩)⟩⟩
 .exact .inr fun g w vals hg hu hH hv=>by
   obtain ⟨v,w',hr,ho⟩:=h g w vals hg hu hH hv;exact ⟨v,w',hr,u0B (by obtain ⟨sv,H1,n1,g',h1,h2⟩:=ho;exact ⟨sv,H1,n1,g',⟨x,hq,h1⟩,h2⟩)⟩
end
theorem b1Y {n m h nb h' k:Nat} {ns:List Nat} {R:Nat->Nat->Option (Nat×Nat)} (hl:ns.length=m) (hn:n<=h') (h1:∀q,q<m->R h' q=some (h,q)) (h2:R h' m=some (nb,0)):∀i,i<m+1->SLe n R ((BCol.svs (k0h h ns++ [.sl nb 0 0 k])).at i) ((BCol.own h' (ns++ [k])).at i):=by
 intro i hi;by_cases e:i<m
 .have e1:(BCol.svs (k0h h ns++ [.sl nb 0 0 k])).at i= .sl h i 0 (ns.getD i 0):=by
   show (k0h h ns++ [SV.sl nb 0 0 k]).getD i .unk=_;rw [List.getD,e1S (by rw [b0O];omega)];exact e0s oM
  have e2:(BCol.own h' (ns++ [k])).at i= .sl h' i 0 (ns.getD i 0):=by
   show SV.sl h' i 0 ((ns++ [k]).getD i 0)=_;simp_all
  simp_all [g0a]
 .have ei:i=m:=oM
  have e1:(BCol.svs (k0h h ns++ [.sl nb 0 0 k])).at i= .sl nb 0 0 k:=by
   show (k0h h ns++ [SV.sl nb 0 0 k]).getD i .unk=_;rw [List.getD,f1K (by rw [b0O];omega),b0O,show i-ns.length=0 from by omega];rfl
  have e2:(BCol.own h' (ns++ [k])).at i= .sl h' i 0 k:=by
   show SV.sl h' i 0 ((ns++ [k]).getD i 0)=_;simp_all
  simp_all [g0a]
theorem i0M {H:a0k} {n a b g m k:Nat} {ns:List Nat} {dom:Nat->Prop} {f F:Nat->Blk} {bg:Blk} (hl:ns.length=m) (ha:a<n) (hta:a0w H a=some (.one false (.cols (m+1) [.svs (k0h b ns++ [.sl g 0 0 k])]))) (hb:a0w H b=some (.fam false dom f)) (hdom:∀q,q<m->dom q)
  (hg:a0w H g=some (.one false bg)) (hba:b≠a) (hga:g≠a) (hbg:b≠g) (hF:∀q,q<m->F q=f q) (hFm:F m=bg):
  Relab H n (gdR n m [⟨b,g,F⟩]) (fun _=>0) [(a,some (.one false (.cols (m+1) [.own n (ns++ [k])]))),(n+0,some (.fam false (fun x=>x<m+1) F))] [b,g] 1:=by
 have r0:∀q,q<m->gdR n m [⟨b,g,F⟩] n q=some (b,q):=fun q hq=>f0g (i:=0) (D:= [⟨b,g,F⟩]) rfl hq
 have s0:gdR n m [⟨b,g,F⟩] n m=some (g,0):=e0x (i:=0) (D:= [⟨b,g,F⟩]) rfl;refine g0P (n:=n) (m:=m) (th:=a) [⟨b,g,F⟩] ha hta (e0j ?_) ?_ ?_
 .refine ⟨⟨fun _=> ?_,b1Y hl (m0c _) r0 s0⟩,trivial⟩;show (ns++ [k]).length=m+1;simp_all
 .refine ⟨⟨hba,hga,⟨dom,f,hb,fun q hq=>⟨hdom q hq,.inl (hF q hq)⟩⟩,bg,hg,.inl hFm⟩,trivial⟩
 .show (!(Nat.beq g b||false)&&(!false&&true))=true;have:Nat.beq g b=false:=by
   cases e:Nat.beq g b with
   |false=>rfl
   |true=>simp_all
  simp_all
theorem m0B {H:a0k} {n a:Nat} {F:Nat->Blk} (ha:a<n) (hta:a0w H a=some (.one false (.cols 0 [.svs []]))):
  Relab H n (fun _ _=>none) (fun _=>0) [(a,some (.one false (.cols 0 [.own n []]))),(n+0,some (.fam false (fun x=>x<0) F))] [] 1:=by
 refine g0Q (n:=n) (th:=a) [⟨0,0,F⟩] ha hta (e0j ⟨⟨fun _=>rfl,fun i hi=>absurd hi (p1R _)⟩,trivial⟩)
def n1K (P:Program) (t:TypeId) (name:String):Option FuncId:=
 match P.info? t,P.underlying t with
 |some _,some (.pointer _)=>none
 |some ti,some _=>(match ti.methods.find? (·.name==name) with
  |some m=>(match m.path.toList,m.func with
   | [],some (f,false)=>some f
   |_,_=>none)
  |none=>none)
 |_,_=>none
theorem d0r {P:Program} {t:TypeId} {name:String} {f:FuncId} (h:n1K P t name=some f):r0k P t name f:=by
 unfold n1K at h;split at h
 .grind
 .rename_i ti d hnp hi hd;split at h
  .rename_i m hm;split at h
   .rename_i f' hp hf;simp only [injEq] at h;subst h;intro v w;have e:P.types.size+Made.depth=(P.types.size+(Made.depth-1))+1:=by rfl
    rw [e];have hti:(typeInfo t).run P w= .ok ti w:=by simp [typeInfo,hi]
    have hun:(underlying t).run P w= .ok d w:=run_underlying hd w;unfold method;simp only [k1h,hti,b1g,hm,hp,follow,n1x,hf,receiverAt,hun];all_goals rfl
   grind
  grind
 grind
section
variable {P:Program}
def c0D (L:List ByteArray) (sep:ByteArray):ByteArray:=⟨(Lib.join (L.map (·.data.toList)) sep.data.toList).toArray⟩
def q1t (P:Program) (f:FuncId):Prop:=∀(bk o c:Nat) (xs:List ByteArray) (sep:ByteArray) (w:World),(∀(j:Nat) x,xs[j]? =some x->w.cell? ⟨bk,o+j,none⟩=some (.string x))->bk<w.heap.size->xs.length<=140737488355328->xs.length<=c->(Lib.join (xs.map (·.data.toList)) sep.data.toList).length<=140737488355328->
 Calls P f #[.slice (some ⟨bk,o,none⟩) xs.length c,.string sep] w fun e w'=>e= .returned (.string ⟨(Lib.join (xs.map (·.data.toList)) sep.data.toList).toArray⟩)/\Below w.heap.size w w'
theorem k1J {f:FuncId} (hj:q1t P f) (hbd:d0C P f) (n:Nat) (L:List ByteArray) (sep:ByteArray) (h0:0<n) (hN:n<=1000000) (hlen:(c0D L sep).size<=140737488355328):
  FC P 2 f [.sl 1 0 0 n,.str sep] [(1,some (.one true (.cols n [.sc (.strs L)])))] (a0g (.str (c0D L sep)) [] 2):=by
 refine Or.inl ⟨hbd,fun g w vals hg hu hH hvs=> ?_⟩;obtain ⟨v,vs',rfl,hv0,hv1⟩:=hvs;obtain ⟨v2,vs2,rfl,hv2,hv3⟩:=hv1;subst hv3;subst hv2;obtain ⟨a,c,rfl,hnc,hc⟩:=rsv hv0;have hE:Ent [(1,some (HB.one true (Blk.cols n [.sc (.strs L)])))] 1 0 true (Blk.cols n [.sc (.strs L)]):=⟨_,rfl,⟨rfl,rfl⟩,rfl⟩;obtain ⟨β,hgβ,hB⟩:=hH.blk 1 0 true _ hE;have hL:L.length=n:=hB.len _ (b1h.2 rfl);have hes:β.es=1:=hB.es;obtain hc|⟨β',hg',ha,hcap⟩:=hc
 .omega
 rw [hgβ] at hg';cases hg';have hcp:0<β.cap:=oM
 subst ha;have hlt:=hB.lt hcp;have hca:=hj β.blk β.off c L sep w (fun j x hx=>by
  obtain ⟨hj',hxe⟩:=s1I.1 hx;obtain ⟨v,e1,e2⟩:=hB.cell j 0 _ (show j<n by omega) rfl;rw [f0Y hes] at e1;have e3:(BCol.sc (.strs L)).at j= .str x:=by
   show SV.str (L.getD j ⟨#[]⟩)=_;simp_all
  simp_all [Rv]) hlt oM oM (by
   trivial)
 rw [hL] at hca;have ea:β.addr 0 0=⟨β.blk,β.off,none⟩:=by rw [f0Y hes];rfl
 rw [ea];refine hca.mono ?_;rintro e w' ⟨rfl,hb⟩;refine ⟨_,rfl,_,_,_,g,rX,m0c _,hu,fun _ _ _=>rfl,by rfl,⟨?_,?_⟩,a0c,⟨hb.os,hb.tape,hb.output,hb.size,fun k hk _=>hb.block k hk⟩,?_⟩
 .intro h q ro b he;obtain ⟨hb,e,_⟩:=he;trivial
 .intro h q h' q' b ro' b' β β' _ he;obtain ⟨hb,e,_⟩:=he;trivial
 .intro h q b β he;obtain ⟨hb,e,_⟩:=he;trivial
end
theorem g1j {P:Program} {f:FuncId} {args:List SV} {vals:List Value} (L:List ByteArray) (ty:TypeId) (hbd:d0C P f) (hv:∀g vs,Rvs g args vs->vs=vals)
  (hc:∀w,Calls P f vals.toArray w (fun e w'=>e= .returned (.slice (some ⟨w.heap.size,0,none⟩) L.length L.length)/\w'=w.alloc (.cells (L.map Value.string).toArray ty))):
  FC P 1 f args [] (a0g (.sl 1 0 0 L.length) [(1,some (.one false (.cols L.length [.sc (.strs L)])))] 2):=by
 refine Or.inl ⟨hbd,fun g w vs hg hu hH hvs=> ?_⟩;rw [hv g vs hvs];refine (hc w).mono ?_;rintro e w' ⟨rfl,rfl⟩;have A:=f0R (g:=g) (H:= []) (nx:=1) (w:=w) (r:= .sl 1 0 0 L.length) (cs:=(L.map Value.string).toArray) (ty:=ty) (bl:= .cols L.length [.sc (.strs L)]) (cap:=L.length) (v:= .slice (some ⟨w.heap.size,0,none⟩) L.length L.length) (w':=w.alloc (.cells (L.map Value.string).toArray ty))
  (.inl rfl) hH rfl rfl rfl rfl (fun q=>hu 1 q (m0c _))
  (by
   intro c hc;rw [b1h] at hc;subst hc;rfl)
  (by
   intro v hv;obtain ⟨s,_,rfl⟩:=r1U.1 hv;rfl)
  (by show L.length*1<=(L.map Value.string).toArray.size;simp)
  (fun i hi=>hi)
  (by
   intro i j sv hi hj;have hi':i<L.length:=hi;cases j with
   |zero=>
    simp only [Blk.at,nth,injEq] at hj;subst hj;refine ⟨.string (L[i]),?_,?_⟩
    .show (L.map Value.string).toArray[i*1+0]? =_;simp
    .show Rv g (.str (L.getD i ⟨#[]⟩)) _;rw [List.getD,m0b hi'];rfl
   |succ j=>trivial)
  (r0r (m0c _))
 refine ⟨_,rfl,_,_,_,_,rX,by simp,?_,?_,A.rv,by simpa using A.heap,a0b a0c,A.fr,by simpa using A.own⟩
 .intro h q hh;exact A.born h q (hu h q oM) oM
 simp_all [G.add]
def FCD (P:Program) (n:Nat) (f:FuncId) (args:List SV) (H:a0k) (post:SV->a0k->Nat->Prop):Prop:=
 ∀(g:G) (w:World) (vals:List Value) (u:FrameMode),d0C P f/\(g.glob->g.upto n->Holds g H w->Rvs g args vals->CallsD P f vals.toArray u w (fun e u' w'=>u'=u/\∃v,e= .returned v/\Out g w n H post v w'))
section
variable {P:Program} {T:Tab} {g:G} {C:Ctx} {vs:VS} {a:Act} {w:World}
theorem i1Y (hname:True) {n:Nat} {N:Nat} {args:List SV} {H:a0k} {vals:List Value} (hNle:args.length<=N) (hg:g.glob) (hup:g.upto n) (hH:Holds g H w) (hv:Rvs g args vals):
  Rel ⟨g,n,w,f0z g H,N,[]⟩ g ⟨l0q 0 args,H,n⟩ { tmps:=vals.toArray++Array.replicate (N-vals.toArray.size) undef,defers:= []} w:=by
 have hlen:=Rvs.length _ _ hv;refine ⟨?_,?_,rfl,hg,hup,m0c _,fun _ _ _=>rfl,hH,Fr.refl _ _,fun h q b β he hgb hc=> .inl ⟨h,q,b,β,he,hgb,hc,rfl⟩⟩
 .intro t sv ht;obtain ⟨_,v,h1,h2⟩:=p0Z args vals 0 hv t sv ht;have hlt:t<vals.length:=by
   grind
  have e:(vals.toArray++Array.replicate (N-vals.toArray.size) undef).getD t undef=v:=by
   simp_all [s1i]
  simp_all
 simp_all
theorem x0l (hT:b0t P T) {fn:Func} {post:SV->a0k->Nat->Prop} {H:a0k} (hg0:C.W=f0z C.g H) (hR:Rel C g vs a w) (hk:y0j T vs fn.results.toList (fun l=>a0E C.n0 post (c0g l) vs)):
  ∃v,(results fn a.tmps).run P w= .ok v w/\Out C.g C.w C.n0 H post v w:=by
 obtain ⟨svs,v,h1,h2,h3⟩:=o0B hT hR hk;obtain ⟨l,u,r0,H0,n1,hu,hp⟩:=h1;obtain ⟨gu,vu,Ru,hle,ro⟩:=r0Z u vs g _ hR hu;obtain ⟨g0,hB,k1,k2,k3,k4,k5,k6⟩:=p0Y Ru ro.ids ro.heap;refine ⟨v,h3,r0,H0,n1,g0,hp,k3,k2,k4,Rv.back hB r0 v (by rw [<-ro.res];exact Rv.mono hle _ _ h2),k5,ro.rw,?_,?_⟩
 .rw [<-hg0];exact Ru.fr
 simp_all
theorem q1C (hm:P.follows .mixedOrders=true) (hT:b0t P T) {n:Nat} {f:FuncId} {fn:Func} {c:Code} (hf:P.funcs[f]? =some fn) (hb:fn.body=some c) (hname:(fn.name=="runtime.NumGoroutine")=false) {args:List SV} {H:a0k} {post:SV->a0k->Nat->Prop}
  (hN:Nat.ble args.length fn.ntmps=true) (hok:c0r fn.ntmps c=true) (h:b0x P T n c ⟨l0q 0 args,H,n⟩ (n1e T n fn.results.toList post)):FCD P n f args H post:=by
 intro g w vals u;refine ⟨⟨fn,c,hf,hb,hname⟩,fun hg hup hH hv=> ?_⟩;refine callsD_of_wp hf hb ?_;refine a0Y (C:=⟨g,n,w,f0z g H,fn.ntmps,[]⟩) hm hT c _ g _ w _ _ hok (i1Y trivial (s1C hN) hg hup hH hv) h ?_;intro e vs' g' a' w' hk hR;cases e with
 |normal=>
  obtain ⟨v,h1,h2⟩:=x0l hT rfl hR hk;exact ⟨hR.defers,v,h1,v,rfl,h2⟩
 |ret=>
  obtain ⟨v,h1,h2⟩:=x0l hT rfl hR hk;exact ⟨hR.defers,v,h1,v,rfl,h2⟩
 |_=>trivial
def m0P:List Oper->Bool
 | []=>false
 |o::r=>match r with
  | []=>(match o.op with| .defer _=>true|_=>false)
  |_::_=>m0P r
def d1a (P:Program) (T:Tab) (ops:List Oper):List Oper->VS->(SV->VS->Prop)->Prop
 | [],_,_=>False
 |o::r,vs,K=>match r with
  | []=>(match o.op,o.dst,o.guard with
    | .defer ⟨.value fo,args,_⟩,none,none=>(match args.toList,gv vs fo with
      | [],some (.fn f cap)=>K (.fn f cap) vs
      |_,_=>False)
    |_,_,_=>False)
  |_::_=>match d0m ops o with
   |none=>vop P T ops o vs (fun vs'=>d1a P T ops r vs' K)
   |some _=>False
def d1b (f:VS->Prop) (K:Exit->VS->Prop):Exit->VS->Prop:=fun e vs'=>match e with| .normal=>f vs'|e=>K e vs'
def o0T (P:Program) (T:Tab) (n0:Nat):Code->VS->(Exit->VS->Prop)->(SV->Exit->VS->Prop)->Prop
 | .seq a b,vs,K0,K1=>(match a with
   | .region _ ops draw=>bif m0P ops.toList then (bif draw then False else d1a P T ops.toList ops.toList vs (fun sv v=>b0x P T v.next b v (K1 sv))) else b0x P T n0 a vs (d1b (fun v=>o0T P T n0 b v K0 K1) K0)
   |_=>b0x P T n0 a vs (d1b (fun v=>o0T P T n0 b v K0 K1) K0))
 |c,vs,K0,_=>b0x P T n0 c vs K0
theorem x0m (hT:b0t P T) {ops:Array Oper} {Q:Exit->Act->World->Prop}:∀(l:List Oper) (vs:VS) (g:G) (a:Act) (w:World) (K:SV->VS->Prop),f0P C.N l=true->Rel C g vs a w->d1a P T ops.toList l vs K->
  (∀f cap cs vs' g' a' w',K (.fn f cap) vs'->Rvs g' cap cs.toList->Rel C g' vs' a' w'->Q .normal { a' with defers:=⟨.fn (.func f) cs,#[]⟩::a'.defers} w')->wpList P ops Q l a w
 | [],vs,g,a,w,K,_,R,h,hq=>h.elim
 | [o],vs,g,a,w,K,hds,R,h,hq=>by
   simp only [d1a] at h;split at h
   .rename_i fo args ts hop hdst hgd;split at h
    .rename_i f cap hargs hf;have hfv:=a0F R.glob R.env hf;obtain ⟨cs,hcs,hcr⟩:=hfv;have hrun:(execOp a.eval o).run P w= .ok (.defer ⟨.fn (.func f) cs,#[]⟩) w:=by
      simp_all [execOp,resolve,Deferred.ofValue]
     unfold wpList;rw [if_pos (by simp [Region.wanted,hgd])];refine .inl ?_;simp only [Oper.wp,hrun,Oper.upon_defer,hdst];exact hq f cap cs vs g a w h hcr R
    trivial
   trivial
 |o::p::l,vs,g,a,w,K,hds,R,h,hq=>by
  simp only [f0P,n0M] at hds;have hd:∀d,o.dst=some d->d<C.N:=by
   intro d e;have:=hds.1;rw [e] at this;exact s1C this
  simp only [d1a] at h;split at h
  .exact a1R hT R hd h (fun vs' g' a' w' k1 k2=>x0m hT (p::l) vs' g' a' w' K (by simp_all [f0P]) k2 k1 hq)
  trivial
theorem s0K (hm:P.follows .mixedOrders=true) (hT:b0t P T) {Q:Exit->Act->World->Prop}:∀(c:Code) (vs:VS) (g:G) (a:Act) (w:World) (K0:Exit->VS->Prop) (K1:SV->Exit->VS->Prop),c0r C.N c=true->Rel C g vs a w->o0T P T C.n0 c vs K0 K1->
  (∀e vs' g' a' w',K0 e vs'->Rel C g' vs' a' w'->Q e a' w')->
  (∀n1 g1 f cap cs,C.n0<=n1->g1.upto n1->(∀h q,h<C.n0->g1 h q=C.g h q)->Rvs g1 cap cs.toList->∀e vs' g' a' w',K1 (.fn f cap) e vs'->Rel ⟨g1,n1,C.w,C.W,C.N,⟨.fn (.func f) cs,#[]⟩::C.ds⟩ g' vs' a' w'->Q e a' w')->c.wp P Q a w
 | .seq x b,vs,g,a,w,K0,K1,ho,R,h,hq,hq1=>by
   simp only [c0r,n0M] at ho;have plain:b0x P T C.n0 x vs (d1b (fun v=>o0T P T C.n0 b v K0 K1) K0)->(Code.seq x b).wp P Q a w:=by
    intro h;refine wp_seq (a0Y hm hT x vs g a w _ _ ho.1 R h ?_);intro e vs' g' a' w' k1 k2;cases e with
    |normal=>exact s0K hm hT b vs' g' a' w' K0 K1 ho.2 k2 k1 hq hq1
    |_=>exact hq _ _ _ _ _ k1 k2
   simp only [o0T] at h;split at h
   .rename_i id ops draw;cases hl:m0P ops.toList with
    |false=>simp_all
    |true=>
     rw [hl] at h;cases draw with
     |true=>trivial
     |false=>
      have ho1:=ho.1;simp only [c0r,n0M] at ho1;refine wp_seq (wp_region_list (x0m hT ops.toList vs g a w _ ho1.1 R h ?_));intro f cap cs vs' g' a' w' k1 k2 k3;have R':Rel ⟨g',vs'.next,C.w,C.W,C.N,⟨.fn (.func f) cs,#[]⟩::C.ds⟩ g' vs' { a' with defers:=⟨.fn (.func f) cs,#[]⟩::a'.defers} w':=
       ⟨k3.env,k3.size,by rw [k3.defers],k3.glob,k3.upto,m0c _,fun _ _ _=>rfl,k3.heap,k3.fr,k3.own⟩
      exact a0Y (C:=⟨g',vs'.next,C.w,C.W,C.N,⟨.fn (.func f) cs,#[]⟩::C.ds⟩) hm hT b vs' g' _ w' (K1 (.fn f cap)) Q ho.2 R' k1 (fun e v2 g2 a2 w2 h1 h2=>hq1 vs'.next g' f cap cs k3.lo k3.upto k3.keep k2 e v2 g2 a2 w2 h1 h2)
   simp_all
 | .skip,vs,g,a,w,K0,K1,ho,R,h,hq,_=>a0Y hm hT _ vs g a w K0 Q ho R h hq
 | .region _ _ _,vs,g,a,w,K0,K1,ho,R,h,hq,_=>a0Y hm hT _ vs g a w K0 Q ho R h hq
 | .cond _ _ _,vs,g,a,w,K0,K1,ho,R,h,hq,_=>a0Y hm hT _ vs g a w K0 Q ho R h hq
 | .block _ _,vs,g,a,w,K0,K1,ho,R,h,hq,_=>a0Y hm hT _ vs g a w K0 Q ho R h hq
 | .loop _,vs,g,a,w,K0,K1,ho,R,h,hq,_=>a0Y hm hT _ vs g a w K0 Q ho R h hq
 | .exit _,vs,g,a,w,K0,K1,ho,R,h,hq,_=>a0Y hm hT _ vs g a w K0 Q ho R h hq
 | .ret,vs,g,a,w,K0,K1,ho,R,h,hq,_=>a0Y hm hT _ vs g a w K0 Q ho R h hq
 | .label _,vs,g,a,w,K0,K1,ho,R,h,hq,_=>a0Y hm hT _ vs g a w K0 Q ho R h hq
 | .scope _,vs,g,a,w,K0,K1,ho,R,h,hq,_=>a0Y hm hT _ vs g a w K0 Q ho R h hq
def l1k (P:Program) (T:Tab) (n0:Nat) (rs:List ResultVar) (post:SV->a0k->Nat->Prop) (f:FuncId) (cap:List SV) (vs:VS):Prop:=
 ∃(l:List Nat) (args0:List SV) (H:a0k) (post0:SV->a0k->Nat->Prop),FCD P l.length f args0 H post0/\Fits l vs.next cap args0 H vs.heap/\
  ∀sv H' n',post0 sv H' n'->o0d vs none sv (n0E (rho l vs.next) H'++n0F (rho l vs.next) H) (n'-l.length) (fun v=>y0j T v rs (fun m=>a0E n0 post (c0g m) v))
def r1E (P:Program) (T:Tab) (n0:Nat) (rs:List ResultVar) (post:SV->a0k->Nat->Prop):SV->Exit->VS->Prop
 | .fn f cap,.normal,vs=>l1k P T n0 rs post f cap vs
 | .fn f cap,.ret,vs=>l1k P T n0 rs post f cap vs
 |_,_,_=>False
theorem l1l {g1 g2:G} {n:Nat} (hu:g1.upto n) (hk:∀h q,h<n->g2 h q=g1 h q):G.le g1 g2:=by
 intro h q β e;rcases i1B h n with hh|hh
 .simp_all
 .rw [hu h q hh] at e;grind
theorem h0U (hm:P.follows .mixedOrders=true) (hT:b0t P T) {n:Nat} {f:FuncId} {fn:Func} {c:Code} (hf:P.funcs[f]? =some fn) (hb:fn.body=some c) (hname:(fn.name=="runtime.NumGoroutine")=false) {args:List SV} {H:a0k} {post:SV->a0k->Nat->Prop}
  (hN:Nat.ble args.length fn.ntmps=true) (hok:c0r fn.ntmps c=true) (h:o0T P T n c ⟨l0q 0 args,H,n⟩ (n1e T n fn.results.toList post) (r1E P T n fn.results.toList post)):FC P n f args H post:=by
 refine .inl ⟨⟨fn,c,hf,hb,hname⟩,?_⟩;intro g w vals hg hup hH hv;refine calls_of_wp_defers hf hb ?_;refine s0K (C:=⟨g,n,w,f0z g H,fn.ntmps,[]⟩) hm hT c _ g _ w _ _ hok (i1Y trivial (s1C hN) hg hup hH hv) h ?_ ?_
 .intro e vs' g' a' w' hk hR;have fin:y0j T vs' fn.results.toList (fun l=>a0E n post (c0g l) vs')->Leaves P fn a'.tmps (fun e w'=>∃v,e= .returned v/\Out g w n H post v w') a'.defers .returning w':=by
   intro hk;obtain ⟨v,h1,h2⟩:=x0l hT rfl hR hk;rw [show a'.defers= [] from hR.defers];exact ⟨v,h1,v,rfl,h2⟩
  cases e with
  |normal=>exact fin hk
  |ret=>exact fin hk
  |_=>trivial
 .intro n1 g1 f1 cap cs hn1 hup1 hkeep hcs e vs' g' a' w' hk hR;have fin:l1k P T n fn.results.toList post f1 cap vs'->Leaves P fn a'.tmps (fun e w'=>∃v,e= .returned v/\Out g w n H post v w') a'.defers .returning w':=by
   rintro ⟨l,args0,H0,post0,hfc,hfit,hk⟩;rw [show a'.defers= [⟨.fn (.func f1) cs,#[]⟩] from hR.defers];have hcap:Rvs g' cap cs.toList:=Rvs.mono (l1l hup1 hR.keep) _ _ hcs;obtain ⟨g0,k1,k2,k3,k4,k5⟩:=r0M hfit hR.glob hR.heap hcap (fun _ _ _ _ h q hh _=>hR.upto h q hh);obtain ⟨hbd,hcd⟩:=hfc g0 w' cs.toList .returning;refine leaves_cons (by simp) (args:=cs) (f:=f1) ?_ ?_
   .simp_all [invoke,g0K]
   .refine CallsD.mono (by simpa using hcd k1 k2 k3 k4) ?_;rintro e1 u1 w1 ⟨rfl,v1,rfl,ho⟩;obtain ⟨sv,H',n',g2,hp,A⟩:=k5 v1 w1 ho;have R2:Rel ⟨g1,n1,w,f0z g H,fn.ntmps,[⟨.fn (.func f1) cs,#[]⟩]⟩ g2 _ _ w1:=b0F (o:=⟨none,.move (.tmp 0),0,"",#[],none⟩) hR A (by simp);have R3:Rel ⟨g,n,w,f0z g H,fn.ntmps,[]⟩ g2 ⟨vs'.env,(n0E (rho l vs'.next) H'++n0F (rho l vs'.next) H0)++vs'.heap,vs'.next+(n'-l.length)⟩ { tmps:=a'.tmps,defers:= []} w1:=
     ⟨R2.env,R2.size,rfl,R2.glob,R2.upto,n1r hn1 R2.lo,fun h q hh=>(R2.keep h q (s1j hh hn1)).trans (hkeep h q hh),R2.heap,R2.fr,R2.own⟩
    have h3:=c0q.1 (hk sv H' n' hp);obtain ⟨v,h4,h5⟩:=x0l hT rfl R3 h3;exact ⟨v,h4,v,rfl,h5⟩
  cases e with
  |normal=>exact fin hk
  |ret=>exact fin hk
  |_=>trivial
theorem d1c {l:List Nat} {n0:Nat} {rs:List ResultVar} {post:SV->a0k->Nat->Prop} {f:FuncId} {cap args0:List SV} {vs:VS} {H H':a0k} {r:SV} {n':Nat} (hc:FCD P l.length f args0 H (a0g r H' n'))
  (hk:o0d vs none r (n0E (rho l vs.next) H'++n0F (rho l vs.next) H) (n'-l.length) (fun v=>y0j T v rs (fun m=>a0E n0 post (c0g m) v)))
  (h1:o0c l=true:=by exact rfl) (h2:p0y (rho l vs.next) H H=true:=by exact rfl) (h3:cap=SV.rens (rho l vs.next) args0:=by exact rfl) (h4:SV.wfs l.length args0=true:=by exact rfl)
  (h5:f0O l.length H:=by (repeat' (first|exact trivial|exact b1a|exact fun _ _=>rfl|constructor));first|done|fail)
  (h6:f0B (rho l vs.next) H vs.heap:=by (repeat' (first|exact trivial|exact l0X rfl|constructor));first|done|fail):l1k P T n0 rs post f cap vs:=
 ⟨l,args0,H,_,hc,⟨h1,h2,h3,h4,h5,h6⟩,by rintro sv H1 n1 ⟨rfl,rfl,rfl⟩;omega⟩
end
theorem p0l {g:G} {w w':World} {n n0 m:Nat} {H H0 N K:a0k} {r0 r1:SV} {v:Value} {R:Nat->Nat->Option (Nat×Nat)} {E:Nat->Nat} {dr:List Nat} (ho:Out g w n H (a0g r0 H0 n0) v w') (L:Relab H0 n0 R E N dr m) (hr:SLe n0 R r0 r1)
  (hK:∀h∈a0s K,a0w K h=a0w H0 h/\¬h∈a0s N/\¬h∈dr):Out g w n H (a0g r1 (K++N) (n0+m)) v w':=by
 obtain ⟨sv,H1,n1,g',⟨rfl,rfl,rfl⟩,hn,hup,hkeep,hv,hH,hrw,hfr,hown⟩:=ho;obtain ⟨g1,hg1⟩:∃g1:G,g1=fun h q=>if h<n1 then g' h q else if h<n1+m then (match R h q with|some p=>g' p.1 p.2|none=>some ⟨0,0,E h,0⟩) else none:=⟨_,rfl⟩
 have hle:G.le g' g1:=by
  intro h q β hb;have hh:h<n1:=by
   refine u1K fun hx=> ?_
   rw [hup h q hx] at hb;grind
  simp_all
 have hR:∀h q p,n1<=h->R h q=some p->∀β,g' p.1 p.2=some β->g1 h q=some β:=by
  intro h q p h1 h2 β hb;have:=L.lim h q p h1 h2;grind
 have ent:∀h q ro b',Ent (K++N) h q ro b'->(h∈a0s N/\Ent N h q ro b')\/(¬h∈a0s N/\¬h∈dr/\Ent H1 h q ro b'):=by
  rintro h q ro b' ⟨hb,e1,e2⟩;rw [b0a] at e1;by_cases hk:h∈a0s K
  .rw [if_pos hk] at e1;obtain ⟨k1,k2,k3⟩:=hK h hk;exact .inr ⟨k2,k3,hb,by simp_all,e2⟩
  .rw [if_neg hk] at e1;by_cases hk2:h∈a0s N
   .exact .inl ⟨hk2,hb,e1,e2⟩
   simp_all [r0X]
 have lt:∀h q ro b,Ent H1 h q ro b->h<n1:=by
  intro h q ro b he;obtain ⟨β,hb,_⟩:=hH.blk h q ro b he;refine u1K fun hx=> ?_
  rw [hup h q hx] at hb;grind
 have src:∀h q ro b',Ent (K++N) h q ro b'->∃β,g1 h q=some β/\BlkAt g1 β ro b' w'/\(0<β.cap->∃h0 q0 b0,Ent H1 h0 q0 ro b0/\g' h0 q0=some β/\n1d n1 R h q h0 q0/\(h∈a0s N\/(h0=h/\q0=q/\¬h∈dr/\¬h∈a0s N))):=by
  intro h q ro b' he;rcases ent h q ro b' he with ⟨hk,heN⟩|⟨hk,hd,heH⟩
  .have hro:=L.ro h q ro b' heN;subst hro;rcases L.src h q b' heN with ⟨h0,q0,b0,f1,f2,f3⟩|⟨f1,f2,cs,rfl,f3,f4⟩
   .obtain ⟨β,hb,hB⟩:=hH.blk h0 q0 false b0 f2;refine ⟨β,?_,i1v hle hR hB f3,fun _=>⟨h0,q0,b0,f2,hb,f1,.inl hk⟩⟩;rcases f1 with ⟨x1,rfl,rfl⟩|⟨x1,x2⟩
    all_goals grind
   .refine ⟨⟨0,0,E h,0⟩,?_,?_,fun hc=>by trivial⟩
    .grind
    .exact ⟨fun h=>by trivial,f4,j0F cs f3,fun i hi=>by trivial,fun i j sv hi=>by trivial,fun i j v hi=>by trivial,fun _ i j hi=>by trivial,trivial⟩
  .obtain ⟨β,hb,hB⟩:=hH.blk h q ro b' heH;have hl:=lt h q ro b' heH;exact ⟨β,by simp_all,b0E hB hle (m0c _) (fun _=>rfl),fun _=>⟨h,q,b',heH,hb,.inl ⟨hl,rfl,rfl⟩,.inr ⟨rfl,rfl,hd,hk⟩⟩⟩
 refine ⟨r1,K++N,n1+m,g1,rX,by omega,?_,fun h q hh=>by grind,k0N hle hR hr hv,⟨?_,?_⟩,?_,hfr,?_⟩
 .intro h q hh;grind
 .grind
 .intro h q h' q' b ro' b' β β' hne he he' hg hg' hc hc';obtain ⟨β1,k1,_,k2⟩:=src h q false b he;obtain ⟨β2,k3,_,k4⟩:=src h' q' ro' b' he';rw [hg] at k1;cases k1;rw [hg'] at k3;cases k3;obtain ⟨h0,q0,b0,x1,x2,x3,x4⟩:=k2 hc;obtain ⟨h0',q0',b0',y1,y2,y3,y4⟩:=k4 hc';refine hH.sep h0 q0 h0' q0' b0 ro' b0' β β' ?_ x1 y1 x2 y2 hc hc';rintro ⟨rfl,rfl⟩;rcases x4 with x4|⟨rfl,rfl,x5,x6⟩
  .rcases y4 with y4|⟨rfl,rfl,y5,y6⟩
   .exact hne (L.inj h q h' q' h0 q0 x4 y4 x3 y3)
   .rcases x3 with ⟨z1,rfl,rfl⟩|⟨z1,z2⟩
    .omega
    .exact y5 (L.took h q _ z1 z2)
  .rcases y4 with y4|⟨rfl,rfl,y5,y6⟩
   .rcases y3 with ⟨z1,rfl,rfl⟩|⟨z1,z2⟩
    .exact x6 y4
    .exact x5 (L.took h' q' _ z1 z2)
   .exact hne ⟨rfl,rfl⟩
 .intro h q ro b he;rcases ent h q ro b he with ⟨_,e⟩|⟨_,_,e⟩
  .exact L.ro h q ro b e
  .exact hrw h q ro b e
 .intro h q b β he hg hc;obtain ⟨β1,k1,_,k2⟩:=src h q false b he;rw [hg] at k1;cases k1;obtain ⟨h0,q0,b0,x1,x2,_⟩:=k2 hc;exact hown h0 q0 b0 β x1 x2 hc
theorem t0q {P:Program} {n n0 m:Nat} {f:FuncId} {args:List SV} {H H0 N:a0k} {r0 r1:SV} {R:Nat->Nat->Option (Nat×Nat)} {E:Nat->Nat} {dr:List Nat} (K:a0k) (h:FC P n f args H (a0g r0 H0 n0)) (L:Relab H0 n0 R E N dr m) (hr:SLe n0 R r0 r1)
  (hK:∀h∈a0s K,a0w K h=a0w H0 h/\¬h∈a0s N/\¬h∈dr):FC P n f args H (a0g r1 (K++N) (n0+m)):=by
 rcases h with h|h
 .left;refine ⟨h.1,fun g w vals hg hu hH hv=> ?_⟩;exact (h.2 g w vals hg hu hH hv).mono fun e w' ⟨v,he,ho⟩=>⟨v,he,p0l ho L hr hK⟩
 .right;grind [p0l]
structure SD where
 src:Nat->Nat×Nat
 f:Nat->Blk
def sdR (n m:Nat) (D:List SD) (h q:Nat):Option (Nat×Nat):=if n<=h/\q<m then (match nth D (h-n) with|some d=>some (d.src q)|none=>none) else none
def sdN (n m:Nat):Nat->List SD->a0k
 |_,[]=> []
 |i,d::r=>(n+i,some (.fam false (fun x=>x<m) d.f))::sdN n m (i+1) r
theorem d1V {n m:Nat}:∀{D:List SD} {i h q:Nat} {ro:Bool} {b:Blk},Ent (sdN n m i D) h q ro b->∃j d,h=n+(i+j)/\nth D j=some d/\q<m/\ro=false/\b=d.f q
 | [],i,h,q,ro,b,he=>(m0a he).elim
 |x::D,i,h,q,ro,b,he=>by
  rcases a0v.1 he with ⟨rfl,hb2,e1,e2,e3⟩|⟨_,he⟩
  .cases e1;exact ⟨0,x,by rfl,rfl,e2.1,e3.symm,e2.2⟩
  .obtain ⟨j,d,h1,h2,h3⟩:=d1V he;exact ⟨j+1,d,by omega,h2,h3⟩
theorem x0Q {n m:Nat}:∀{D:List SD} {i x:Nat},x∈a0s (sdN n m i D)->n<=x
 | [],i,x,h=>by trivial
 |d::D,i,x,h=>by
  simp only [sdN,a0s,f1I] at h;rcases h with h|h
  .omega
  .exact x0Q h
theorem l0b {n m:Nat} {D:List SD} {h q:Nat} {p:Nat×Nat} (e:sdR n m D h q=some p):n<=h/\q<m/\∃d,nth D (h-n)=some d/\p=d.src q:=by
 grind [sdR]
theorem x0R {n m i q:Nat} {D:List SD} {d:SD} (hd:nth D i=some d) (hq:q<m):sdR n m D (n+i) q=some (d.src q):=by
 simp_all [sdR]
theorem d1W {H:a0k} {n m th:Nat} {tb0 tb:Blk} (D:List SD) (dr:List Nat) (hth:th<n) (ht:a0w H th=some (.one false tb0)) (hle:BLe n (sdR n m D) tb0 tb)
  (hD:∀i d,nth D i=some d->∀q,q<m->(d.src q).1≠th/\(d.src q).1∈dr/\∃b,Ent H (d.src q).1 (d.src q).2 false b/\BLe n (sdR n m D) b (d.f q))
  (hinj:∀i j d e q q',nth D i=some d->nth D j=some e->q<m->q'<m->d.src q=e.src q'->i=j/\q=q'):
  Relab H n (sdR n m D) (fun _=>0) ((th,some (.one false tb))::sdN n m 0 D) dr D.length:=by
 have key:∀{h q:Nat} {ro:Bool} {b:Blk},Ent ((th,some (HB.one false tb))::sdN n m 0 D) h q ro b->(h=th/\q=0/\ro=false/\b=tb)\/∃j d,h=n+j/\nth D j=some d/\q<m/\ro=false/\b=d.f q:=by
  intro h q ro b he;rcases a0v.1 he with ⟨rfl,hb2,e1,e2,e3⟩|⟨_,he⟩
  .cases e1;exact .inl ⟨rfl,e2.1,e3.symm,e2.2⟩
  grind [d1V]
 have fr:∀{h q:Nat} {p:Nat×Nat},sdR n m D h q=some p->p.1≠th/\p.1∈dr:=by
  intro h q p e;obtain ⟨_,hq,d,h3,rfl⟩:=l0b e;grind
 refine ⟨?_,?_,?_,?_,?_⟩
 .intro h q p h1 h2;obtain ⟨_,_,d,h3,_⟩:=l0b h2;have:=w0t h3;omega
 .grind
 .intro h q b' he;rcases key he with ⟨rfl,rfl,_,rfl⟩|⟨j,d,rfl,hd,hq,_,rfl⟩
  .exact .inl ⟨h,0,tb0,.inl ⟨hth,rfl,rfl⟩,⟨_,ht,⟨rfl,rfl⟩,rfl⟩,hle⟩
  .obtain ⟨_,_,b,g2,g3⟩:=hD j d hd q hq;exact .inl ⟨(d.src q).1,(d.src q).2,b,.inr ⟨by omega,x0R hd hq⟩,g2,g3⟩
 .grind
 .intro h q h' q' h0 q0 hk hk' h1 h2;have kk:∀{x:Nat},x∈a0s ((th,some (HB.one false tb))::sdN n m 0 D)->x=th\/n<=x:=by
   intro x hx;simp only [a0s,f1I] at hx;rcases hx with hx|hx
   .exact .inl hx
   .exact .inr (x0Q hx)
  rcases h1 with ⟨a1,rfl,rfl⟩|⟨a1,a2⟩
  .rcases h2 with ⟨b1,e1,e2⟩|⟨b1,b2⟩
   .exact ⟨e1,e2⟩
   .exfalso;have e:h0=th:=by rcases kk hk with e|e<;>omega
    exact (fr b2).1 e
  .rcases h2 with ⟨b1,rfl,rfl⟩|⟨b1,b2⟩
   .exfalso;have e:h0=th:=by rcases kk hk' with e|e<;>omega
    exact (fr a2).1 e
   .obtain ⟨_,hq,d,h3,h4⟩:=l0b a2;obtain ⟨_,hq',d',h3',h4'⟩:=l0b b2;obtain ⟨x1,x2⟩:=hinj _ _ d d' q q' h3 h3' hq hq' (h4.symm.trans h4');exact ⟨by omega,x2⟩
end Go.Sy
namespace Go.Sy
open Go.RowKit Go.ChangeShapes Go.WideShapes Go.Deep
inductive K2 where
 |sc (c:CK)
 |sl (ks:List CK)
def r1n (w:World) (ks:List CK) (v:Value) (n:Nat) (β:Base) (cols:List Col):Prop:=
 n<=maxLen/\b0d ks cols n/\(∀(g:G) (h q:Nat),g h q=some β->Rv g (.sl h q 0 n) v)/\(∀g:G,BlkAt g β true (.cols n (b0b cols)) w)
def n0W (w:World):K2->Value->Prop
 | .sc c,v=>d0q c v
 | .sl ks,v=>v.oneCell'=true/\∃n β cols,r1n w ks v n β cols
def AllOk2 (w:World):List K2->List Value->Prop
 | [],vs=>vs= []
 |c::cs,vs=>∃v r,vs=v::r/\n0W w c v/\AllOk2 w cs r
theorem AllOk2.append {w:World}:∀(a b:List K2) (vs:List Value),AllOk2 w a (vs.take a.length)->AllOk2 w b (vs.drop a.length)->AllOk2 w (a++b) vs
 | [],b,vs,_,h=>by trivial
 |c::a,b,vs,h1,h2=>by
  cases vs with
  |nil=>simp_all [AllOk2]
  |cons v vs=>
   obtain ⟨v',r,e,hc,hr⟩:=h1;obtain ⟨rfl,rfl⟩:=e;exact ⟨v,vs,rfl,hc,AllOk2.append a b vs hr (by trivial)⟩
theorem AllOk2.nth {w:World}:∀(ks:List K2) (vs:List Value) (j:Nat) (c:K2),AllOk2 w ks vs->Sy.nth ks j=some c->∃v,vs[j]? =some v/\n0W w c v
 | [],vs,j,c,_,h=>by trivial
 |k::ks,vs,j,c,h,hj=>by
  obtain ⟨v,r,rfl,h1,h2⟩:=h;cases j with
  |zero=>simp_all [Sy.nth]
  |succ j=>obtain ⟨u,h3,h4⟩:=AllOk2.nth ks r j c h2 hj;simp_all
mutual
def v0w (P:Program):Nat->TypeId->Option (List K2)
 |0,_=>none
 |n+1,t=>match P.underlying t with
  |some .bool=>some [.sc .bool]
  |some (.int k)=>some [.sc (.int k)]
  |some .string=>some [.sc .str]
  |some (.slice e)=>(match j0H P n e with
   |some ks=>bif Nat.beq (P.cellsOf e) ks.length&&Nat.blt 0 ks.length then some [.sl ks] else none
   |none=>none)
  |some (.struct fs)=>(match k0a P n 0 fs.toList with
   |some ks=>bif Nat.beq (P.cellsOf t) ks.length then some ks else none
   |none=>none)
  |_=>none
def k0a (P:Program):Nat->Nat->List Field->Option (List K2)
 |0,_,_=>none
 |_+1,_,[]=>some []
 |n+1,o,f::r=>bif Nat.beq f.offset o then (match v0w P n f.type with
  |some a=>bif Nat.beq (P.cellsOf f.type) a.length then (match k0a P n (o+a.length) r with|some b=>some (a++b)|none=>none) else none
  |none=>none) else none
end
section
variable {H:Type} {enc:TypeId×Value->H} {P:Program} {w:World} {base:Nat} {held:Bool}
theorem o1L {v:Value} {n:Nat} {β:Base} (hR:∀(g:G) (h:Nat),g h 0=some β->Rv g (.sl h 0 0 n) v) (g:G) (h q:Nat) (hg:g h q=some β):Rv g (.sl h q 0 n) v:=by
 have:=hR (fun _ _=>some β) h rfl;simp_all [Rv]
theorem n0m:∀m:Nat,(∀(t:TypeId) (ks:List K2) (fuel:Nat) (cs:List Value) (x:DataW H×List MemPlace),v0w P m t=some ks->DataW.trod enc P w base (fun _=>true) held fuel t cs=some x->AllOk2 w ks cs)/\
  (∀(o:Nat) (fs:List Field) (ks:List K2) (cs:List Value) (n:Nat),k0a P m o fs=some ks->cs.length=o+ks.length->(∀f∈fs,∃y,DataW.trod enc P w base (fun _=>true) held n f.type ((cs.drop f.offset).take (P.cellsOf f.type))=some y)->AllOk2 w ks (cs.drop o)):=by
 intro m;induction m with
 |zero=>simp [v0w,k0a]
 |succ m ih=>
  refine ⟨?_,?_⟩
  .intro t ks fuel cs x h ht;simp only [v0w] at h;split at h
   .rename_i hu;simp only [injEq] at h;subst h;obtain ⟨b,rfl,_⟩:=DataW.trod_bool hu ht;simp only [AllOk2,n0W,d0q];simp
   .rename_i k hu;simp only [injEq] at h;subst h;obtain ⟨n,rfl,_,hw⟩:=DataW.trod_int hu ht;simp only [AllOk2,n0W,d0q];simp_all
   .rename_i hu;simp only [injEq] at h;subst h;obtain ⟨s,rfl,_,hw⟩:=DataW.trod_string hu ht;simp only [AllOk2,n0W,d0q];simp_all
   .rename_i e hu;split at h
    .rename_i ks' hks;cases hb:(Nat.beq (P.cellsOf e) ks'.length&&Nat.blt 0 ks'.length) with
     |false=>simp_all
     |true=>
      rw [hb] at h;simp only [cond_true,injEq] at h;subst h;simp only [n0M] at hb;have hl:=q0d hb.1;have h0:0<ks'.length:=s1C hb.2;have key:∀a n c,cs= [.slice a n c]->AllOk2 w [.sl ks'] cs:=by
       intro a n c hv;subst hv;obtain ⟨n',β,cols,k1,k2,k3,k4⟩:=q0f hu hks hl h0 ht;simp only [AllOk2,n0W];exact ⟨_,_,rfl,⟨rfl,n',β,cols,k1,k2,o1L k3,k4⟩,rfl⟩
      rcases open_slice hu ht with ⟨hv,_⟩|⟨a,len,cap,mm,nn,D,Pl,hv,_⟩
      all_goals simp_all
    grind
   .rename_i fs hu;split at h
    .rename_i ks' hks;cases hb:Nat.beq (P.cellsOf t) ks'.length with
     |false=>simp_all
     |true=>
      rw [hb] at h;simp only [cond_true,injEq] at h;subst h;obtain ⟨xs,n,_,_,hlen,hxl,hf⟩:=DataW.trod_struct hu ht;have:=ih.2 0 fs.toList ks' cs n hks (by simp_all) (by
       intro f hf';obtain ⟨i,hi,rfl⟩:=s1B hf';have hi':i<fs.size:=oM
       have h1:=hf i fs[i] (by simp);simp_all)
      trivial
    grind
   grind
  .intro o fs ks cs n h hlen hall;cases fs with
   |nil=>
    simp_all [k0a,AllOk2,t1d]
   |cons f r=>
    simp only [k0a] at h;cases ho:Nat.beq f.offset o with
    |false=>simp_all
    |true=>
     rw [ho] at h;simp only [cond_true] at h;split at h
     .rename_i a ha;cases hb:Nat.beq (P.cellsOf f.type) a.length with
      |false=>simp_all
      |true=>
       rw [hb] at h;simp only [cond_true] at h;split at h
       .rename_i b hbb;simp only [injEq] at h;subst h;have eo:=q0d ho;have ea:=q0d hb;obtain ⟨y,hy⟩:=hall f (by simp);have h1:=ih.1 f.type a n _ y ha hy;rw [eo,ea] at h1;refine AllOk2.append a b (cs.drop o) h1 ?_;rw [u1A];exact ih.2 (o+a.length) r b cs n hbb (by simp at hlen;omega) (fun f' hf'=>hall f' (by simp [hf']))
       grind
     grind
theorem z0N {m:Nat} {t:TypeId} {ks:List K2} {fuel:Nat} {cs:List Value} {x:DataW H×List MemPlace} (h:v0w P m t=some ks) (ht:DataW.trod enc P w base (fun _=>true) held fuel t cs=some x):AllOk2 w ks cs:=(n0m m).1 t ks fuel cs x h ht
theorem v0x {t e:TypeId} {m fuel:Nat} {v:Value} {ks:List K2} {x:DataW H×List MemPlace} (ht:P.underlying t=some (.slice e)) (hk:v0w P m e=some ks) (hlen:P.cellsOf e=ks.length) (h0:0<ks.length)
  (h:DataW.trod enc P w base (fun _=>true) held fuel t [v]=some x):
  ∃(n:Nat) (β:Base) (val:Nat->Nat->Value),n<=maxLen/\(∀(g:G) (h q:Nat),g h q=some β->Rv g (.sl h q 0 n) v)/\β.es=ks.length/\n<=β.cap/\(0<β.cap->β.blk<w.heap.size)/\
   ∀i,i<n->∀j c,nth ks j=some c->w.cell? (β.addr i j)=some (val i j)/\n0W w c (val i j):=by
 have dead:∀a,v= .slice a 0 0->∃(n:Nat) (β:Base) (val:Nat->Nat->Value),n<=maxLen/\(∀(g:G) (h q:Nat),g h q=some β->Rv g (.sl h q 0 n) v)/\β.es=ks.length/\n<=β.cap/\(0<β.cap->β.blk<w.heap.size)/\
   ∀i,i<n->∀j c,nth ks j=some c->w.cell? (β.addr i j)=some (val i j)/\n0W w c (val i j):=by
  intro a hv;refine ⟨0,⟨0,0,ks.length,0⟩,fun _ _=>undef,b1f _,?_,rfl,m0c _,fun h=>absurd h (s1w _),fun i hi=>absurd hi (p1R _)⟩;intro g h q _;subst hv;simp only [Rv];grind
 rcases open_slice ht h with ⟨hv,_⟩|⟨a,len,cap,mm,nn,D,Pl,hv,_,hl,hm,hmm,hx,hi⟩
 .simp_all
 .simp only [List.cons.injEq,and_true] at hv;subst hmm;have cell:∀i,i<mm->∀j c,nth ks j=some c->∃u,w.cell? (a.add (i*ks.length+j))=some u/\n0W w c u:=by
   intro i him j c hj;obtain ⟨cs',hc,ht'⟩:=hi i him;have hall:=z0N hk ht';obtain ⟨u,hu,hok⟩:=AllOk2.nth ks cs' j c hall hj;obtain ⟨_,hcl,hat⟩:=World.cells?_some hc;simp_all [c0j,Go.Deep.add_add]
  by_cases hz:mm=0
  .simp_all
  .subst hv;obtain ⟨c0,hc0⟩:∃c0,nth ks 0=some c0:=by
    cases ks with
    |nil=>trivial
    |cons c r=>exact ⟨c,rfl⟩
   obtain ⟨u0,hu0,_⟩:=cell 0 oM 0 c0 hc0;simp only [t1e,q1j] at hu0;have ha0:a.add 0=a:=by rfl
   have hspot:a.spot=none:=by
    unfold World.cell? at hu0;split at hu0
    all_goals simp_all
   have hblk:a.block<w.heap.size:=by
    unfold World.cell? at hu0;grind
   obtain ⟨β,hβ⟩:∃β:Base,β=⟨a.block,a.off,ks.length,mm⟩:=⟨_,rfl⟩;have haddr:∀i j,a.add (i*ks.length+j)=β.addr i j:=by
    intro i j;obtain ⟨b,o,s⟩:=a;grind [Addr.add,Base.addr]
   have hcap:β.cap=mm:=by grind
   refine ⟨len,β,fun i j=>(w.cell? (β.addr i j)).getD undef,n1r hl hm,?_,by grind,by omega,fun _=>by simp_all,?_⟩
   .intro g h q hg;simp only [Rv];grind
   .intro i hi' j c hc;obtain ⟨u,hu,hok⟩:=cell i oM j c hc;simp_all
def g0A (n:Nat) (val:Nat->Nat->Value) (h:Nat) (ns:List Nat):Nat->List K2->List BCol
 |_,[]=> []
 |j,.sc c::r=> .sc (i0z n (fun i=>val i j) c)::g0A n val h ns (j+1) r
 |j,.sl _::r=> .own h ns::g0A n val h ns (j+1) r
def k0J (n h:Nat) (ns:List Nat):List K2->List BCol->Prop
 | [],l=>l= []
 | .sc c::r,l=>∃x t,l= .sc x::t/\d0w c x n/\k0J n h ns r t
 | .sl _::r,l=>∃t,l= .own h ns::t/\k0J n h ns r t
theorem n0n (n:Nat) (val:Nat->Nat->Value) (h:Nat) (ns:List Nat):∀(ks:List K2) (j k:Nat),nth (g0A n val h ns j ks) k=(nth ks k).map (fun c=>match c with| .sc c=> .sc (i0z n (fun i=>val i (j+k)) c)| .sl _=> .own h ns)
 | [],j,k=>by rfl
 | .sc c::ks,j,0=>by rfl
 | .sl c::ks,j,0=>by rfl
 | .sc c::ks,j,k+1=>by simp only [g0A,nth];rw [n0n n val h ns ks (j+1) k,show j+1+k=j+(k+1) from by omega]
 | .sl c::ks,j,k+1=>by simp only [g0A,nth];rw [n0n n val h ns ks (j+1) k,show j+1+k=j+(k+1) from by omega]
theorem g0B (n:Nat) (val:Nat->Nat->Value) (h:Nat) (ns:List Nat):∀(ks:List K2) (j:Nat),(g0A n val h ns j ks).length=ks.length
 | [],j=>rfl
 | .sc c::ks,j=>by simp [g0A,g0B n val h ns ks (j+1)]
 | .sl c::ks,j=>by simp [g0A,g0B n val h ns ks (j+1)]
theorem l1V {n:Nat} {v:Nat->Value} {c:CK} (h:∀i,i<n->d0q c (v i)):d0w c (i0z n v c) n:=by
 have:=e0I n (fun i _=>v i) [c] 0 (fun i hi k c' hc=>by
  cases k with
  |zero=>simp_all [nth]
  |succ k=>trivial)
 simp_all [b0p,b0d]
theorem l0c {n:Nat} {val:Nat->Nat->Value} {h:Nat} {ns:List Nat}:∀(ks:List K2) (j:Nat),(∀i,i<n->∀k c,nth ks k=some c->n0W w c (val i (j+k)))->k0J n h ns ks (g0A n val h ns j ks)
 | [],j,_=>by rfl
 | .sc c::cs,j,hh=>by
   exact ⟨_,_,rfl,l1V (fun i hi=>hh i hi 0 (.sc c) rfl),l0c cs (j+1) (fun i hi k c' hc=>by rw [show j+1+k=j+(k+1) from by omega];exact hh i hi (k+1) c' hc)⟩
 | .sl c::cs,j,hh=>by
   exact ⟨_,rfl,l0c cs (j+1) (fun i hi k c' hc=>by rw [show j+1+k=j+(k+1) from by omega];exact hh i hi (k+1) c' hc)⟩
theorem d1X:∀{k:CK} {c:Col} {n:Nat},d0w k c n->c.len=n
 | .int k,c,n,h=>by obtain ⟨l,rfl,e,_⟩:=h;exact e
 | .bool,c,n,h=>by obtain ⟨l,rfl,e⟩:=h;exact e
 | .str,c,n,h=>by obtain ⟨l,rfl,e,_⟩:=h;exact e
theorem v0y {n h:Nat} {ns:List Nat} (hn:ns.length=n):∀{ks:List K2} {cols:List BCol},k0J n h ns ks cols->∀c∈cols,c.len=n
 | [],cols,hh,c,hc=>by simp_all [k0J]
 | .sc k::ks,cols,hh,c,hc=>by
   obtain ⟨x,t,rfl,h1,h2⟩:=hh;rcases f1I.1 hc with rfl|hc
   .exact d1X h1
   .exact v0y hn h2 c hc
 | .sl k::ks,cols,hh,c,hc=>by
   obtain ⟨t,rfl,h2⟩:=hh;rcases f1I.1 hc with rfl|hc
   .exact hn
   .exact v0y hn h2 c hc
def q1L:K2->Bool
 | .sc _=>true
 | .sl _=>false
def p0m:Nat->List K2->Bool
 |_,[]=>true
 |0,_::r=>r.all q1L
 |p+1,.sc _::r=>p0m p r
 |_+1,.sl _::_=>false
theorem o1M:∀{r:List K2} {j:Nat} {k:List CK},r.all q1L=true->nth r j≠some (.sl k)
 | [],j,k,h=>by simp [nth]
 |c::r,0,k,h=>by
  grind [nth,q1L]
 |c::r,j+1,k,h=>by
  simp only [List.all_cons,n0M] at h;exact o1M (r:=r) (j:=j) h.2
theorem d1Y:∀{ks:List K2} {p j:Nat} {k:List CK},p0m p ks=true->nth ks j=some (.sl k)->j=p
 | [],p,j,k,_,h=>by trivial
 |c::r,0,0,k,_,_=>rfl
 |c::r,0,j+1,k,h,e=>by
  exact absurd e (o1M (r:=r) (j:=j) h)
 | .sl c::r,p+1,j,k,h,e=>by trivial
 | .sc c::r,p+1,0,k,h,e=>by simp [nth] at e
 | .sc c::r,p+1,j+1,k,h,e=>by
   simp only [p0m] at h;rw [d1Y h e]
theorem d1Z {t e:TypeId} {m fuel:Nat} {v:Value} {ks:List K2} {x:DataW H×List MemPlace} (h' p:Nat) (k:List CK) (hp:nth ks p=some (.sl k)) (hu:p0m p ks=true) (ht:P.underlying t=some (.slice e)) (hk:v0w P m e=some ks) (hlen:P.cellsOf e=ks.length)
  (h:DataW.trod enc P w base (fun _=>true) held fuel t [v]=some x):
  ∃(n:Nat) (β:Base) (ns:List Nat) (rows:Nat->List Col) (bs:Nat->Base) (cols:List BCol),n<=maxLen/\ns.length=n/\k0J n h' ns ks cols/\(∀i,i<n->ns.getD i 0<=maxLen/\b0d k (rows i) (ns.getD i 0)/\∀g:G,BlkAt g (bs i) true (.cols (ns.getD i 0) (b0b (rows i))) w)/\
   (∀(g:G) (h q:Nat),g h q=some β->Rv g (.sl h q 0 n) v)/\(∀g:G,(∀i,i<n->g h' i=some (bs i))->BlkAt g β true (.cols n cols) w):=by
 have h0:0<ks.length:=Nat.lt_of_le_of_lt (b1f _) (c0j hp);obtain ⟨n,β,val,h1,h2,h3,h4,h5,h6⟩:=v0x ht hk hlen h0 h;have hin:∀i,∃y:Nat×Base×List Col,i<n->r1n w k (val i p) y.1 y.2.1 y.2.2:=by
  intro i;by_cases hi:i<n
  .obtain ⟨_,m',β',cols',hc⟩:=(h6 i hi p _ hp).2;exact ⟨⟨m',β',cols'⟩,fun _=>hc⟩
  .exact ⟨⟨0,β,[]⟩,fun q=>absurd q hi⟩
 obtain ⟨F,hF⟩:=Classical.axiomOfChoice hin;have hns:∀i,i<n->((List.range n).map (fun i=>(F i).1)).getD i 0=(F i).1:=fun i hi=>d0h n _ 0 i hi
 refine ⟨n,β,(List.range n).map (fun i=>(F i).1),fun i=>(F i).2.2,fun i=>(F i).2.1,g0A n val h' ((List.range n).map (fun i=>(F i).1)) 0 ks,h1,by simp,l0c ks 0 (fun i hi k c hc=>by rw [i1z];exact (h6 i hi k c hc).2),?_,h2,?_⟩
 .intro i hi;obtain ⟨a1,a2,_,a4⟩:=hF i hi;simp_all
 .intro g hg;refine ⟨h5,by simp_all [Blk.es,g0B],v0y (by simp) (l0c (w:=w) ks 0 (fun i hi k c hc=>by rw [i1z];exact (h6 i hi k c hc).2)),fun i hi=>by simp only [Blk.has] at hi;omega,?_,?_,(fun h=>by cases h),trivial⟩
  .intro i j sv hi hj;simp only [Blk.at,n0n] at hj;cases hc:nth ks j with
   |none=>rw [hc] at hj;simp at hj
   |some c=>
    rw [hc] at hj;obtain ⟨k1,k2⟩:=h6 i hi j c hc;cases c with
    |sc c=>
     simp only [k1k,injEq,i1z] at hj;subst hj;exact ⟨_,k1,m0f (v:=fun i=>val i j) hi k2⟩
    |sl k'=>
     have ej:=d1Y hu hc;subst ej;simp only [k1k,injEq] at hj;subst hj;obtain ⟨_,_,a3,_⟩:=hF i hi;refine ⟨_,k1,?_⟩;show Rv g (.sl h' i 0 (((List.range n).map (fun i=>(F i).1)).getD i 0)) _;rw [hns i hi];exact a3 g h' i (hg i hi)
  .intro i j v' hi hj hv';rw [h3] at hj;obtain ⟨c,hc⟩:∃c,nth ks j=some c:=⟨ks[j],by rw [b0l];exact m0b hj⟩;obtain ⟨k1,k2⟩:=h6 i hi j c hc;rw [hv'] at k1;cases k1;cases c with
   |sc c=>exact j0I k2
   |sl k'=>exact k2.1
def gS (k:Nat) (l:List Col):List ByteArray:=match nth l k with|some (.strs m)=>m|_=> []
def gI (k:Nat) (l:List Col):List Int:=match nth l k with|some (.ints _ m)=>m|_=> []
def gB (k:Nat) (l:List Col):List Bool:=match nth l k with|some (.bools m)=>m|_=> []
def l1W (g:G) (w:World) (p:Nat×Option HB):Prop:=
 (∃b β,p.2=some (.one true b)/\g p.1 0=some β/\BlkAt g β true b w)\/(∃dom f,p.2=some (.fam true dom f)/\∀q,dom q->∃β,g p.1 q=some β/\BlkAt g β true (f q) w)
theorem e1a {g:G} {w:World}:∀(Hp:a0k),(∀p∈Hp,l1W g w p)->Holds g Hp w/\∀h q ro b,Ent Hp h q ro b->ro=true:=by
 intro Hp hall;have key:∀h q ro b,Ent Hp h q ro b->ro=true/\∃β,g h q=some β/\BlkAt g β ro b w:=by
  intro h q ro b he;have:∀(L:a0k),(∀p∈L,l1W g w p)->Ent L h q ro b->ro=true/\∃β,g h q=some β/\BlkAt g β ro b w:=by
   intro L;induction L with
   |nil=>intro _ he;obtain ⟨hb,e,_⟩:=he;trivial
   |cons p L ih=>
    intro hL he;obtain ⟨k,o⟩:=p;rcases a0v.1 he with ⟨rfl,hb',e1,e2,e3⟩|⟨_,he⟩
    .rcases hL (k,o) (by simp) with ⟨b',β,f1,f2,f3⟩|⟨dom,f,f1,f2⟩
     .simp only [HB.is] at e2;simp only [HB.ro] at e3;simp_all
     .simp only at f1 f2;rw [f1] at e1;cases e1;obtain ⟨e2,rfl⟩:=e2;simp only [HB.ro] at e3;simp_all
    grind
  grind
 refine ⟨⟨fun h q ro b he=>(key h q ro b he).2,?_⟩,fun h q ro b he=>(key h q ro b he).1⟩;simp_all
end
end Go.Sy
namespace Go.Sy
open Go.RowKit
section
variable {w:World}
theorem e1b {g:G} {Hp:a0k} {l:n0K} (hl:∀q,(a0M l q).isSome=true->∃β,g 0 q=some β/\BlkAt g β true (r0g l q) w) (hall:∀p∈Hp,l1W g w p):
  Holds g ((0,some (GB l))::Hp) w/\∀h q ro b,Ent ((0,some (GB l))::Hp) h q ro b->ro=true:=by
 obtain ⟨h1,h2⟩:=e1a (g:=g) (w:=w) Hp hall;have ro:∀h q ro b,Ent ((0,some (GB l))::Hp) h q ro b->ro=true:=by
  intro h q ro b he;rcases a0v.1 he with ⟨rfl,hb,e1,e2,e3⟩|⟨_,he⟩
  .cases e1;exact e3.symm
  grind
 refine ⟨⟨?_,?_⟩,ro⟩
 .intro h q r b he;rcases a0v.1 he with ⟨rfl,hb,e1,e2,e3⟩|⟨_,he⟩
  .cases e1;obtain ⟨d,rfl⟩:=e2;grind
  .exact h1.blk h q r b he
 simp_all
end
theorem p0n (μ:Nat->Nat):∀cs:List Col,d0x μ (b0b cs)=b0b cs
 | []=>rfl
 |c::r=>by
  show BCol.mem μ (.sc c)::d0x μ (b0b r)=_;rw [p0n μ r];rfl
theorem p0o (μ:Nat->Nat):∀cs:List Col,d0X μ (b0b cs)=true
 | []=>rfl
 |c::r=>by
  show (BCol.mok μ (.sc c)&&d0X μ (b0b r))=true;rw [p0o μ r];rfl
theorem h1z (μ:Nat->Nat) (l:n0K) (q:Nat):(r0g l q).mem μ=r0g l q:=by
 unfold r0g;cases a0M l q with
 |none=>rfl
 |some x=>
  dsimp only;cases Nat.beq x.1 0 with
  |true=>rfl
  |false=>exact congrArg (Blk.cols x.1) (p0n μ x.2)
theorem h1A (μ:Nat->Nat) (l:n0K) (q:Nat):(r0g l q).mok μ=true:=by
 unfold r0g;cases a0M l q with
 |none=>rfl
 |some x=>
  dsimp only;cases Nat.beq x.1 0 with
  |true=>rfl
  |false=>exact p0o μ x.2
theorem o1N (μ:Nat->Nat) (l:n0K):(GB l).mok μ:=fun q _=>h1A μ l q
theorem o1O (L:y0I) (h:Nat) (l:n0K):s0i L h (GB l)=GB l:=by
 exact congrArg (HB.fam true _) (funext fun x=>h1z (fmu L) l x)
end Go.Sy
