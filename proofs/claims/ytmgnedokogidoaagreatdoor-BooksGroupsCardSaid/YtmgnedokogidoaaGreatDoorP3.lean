/- Several texts in one: YCalls YPlain YSort YKeys YNil YGrp YIdx YLaw YLaid YArg YMem YFam YRen YBag YOwn YMeth YJoin YFresh YDfr YLaw2 YLaid2 YGb. -/
import Derived.Test.YtmgnedokogidoaaGreatDoorP2
import Derived.Sort.KeysCollected
import Derived.Sort.Grow
import Derived.Shelf.SlIter.Nil
import Derived.Shelf.SortM.Plain
import Derived.Shelf.SortM.SortNone
import Derived.Deep.Slices
import Derived.OpenShut
import Derived.ChangeOld
import Derived.ChangeBears2
import Derived.MakeChecks
import Derived.LaidLaws
import Derived.Shelf.Strings.OnBuilder
import Derived.Defers
set_option linter.unusedVariables false
set_option linter.unusedSimpArgs false
namespace Go.Sy
open Go.RowKit
theorem d0l {P:Program} {f:FuncId} {fn:Func} (h:P.funcs[f]?=some fn) (hb:fn.body.isSome=true) (hn:(fn.name=="runtime.NumGoroutine")=false):d0r P f:=by
 obtain ⟨c,hc⟩:=Option.isSome_iff_exists.1 hb
 exact ⟨fn,c,h,hc,hn⟩
theorem g0W {P:Program} {f:FuncId} {args:List SV} {vals:List Value} {r:SV} {v:Value} (hbd:d0r P f) (hv:∀g vs,Rvs g args vs->vs=vals) (hr:∀g,Rv g r v) (hc:∀w,Calls P f vals.toArray w (fun e w'=>e= .returned v/\Below w.heap.size w w')):c0a P f args r:=by
 refine Or.inl ⟨hbd,fun g w vs hg hu hH hvs=> ?_⟩
 rw [hv g vs hvs]
 refine (hc w).mono ?_
 rintro e w' ⟨rfl,hb⟩
 refine ⟨v,rfl,r,[],1,g,⟨rfl,rfl,rfl⟩,Nat.le_refl _,hu,fun _ _ _=>rfl,hr g,⟨?_,?_⟩,a0k,⟨hb.os,hb.tape,hb.output,hb.size,fun k hk _=>hb.block k hk⟩,?_⟩
 .intro h q ro b he;obtain ⟨hb,e,_⟩:=he;simp [a0J] at e
 .intro h q h' q' b ro' b' β β' _ he;obtain ⟨hb,e,_⟩:=he;simp [a0J] at e
 .intro h q b β he;obtain ⟨hb,e,_⟩:=he;simp [a0J] at e
end Go.Sy
namespace Go.Sy
open Go.RowKit
theorem j1z {P:Program} {n:Nat} {f:FuncId} {args:List SV} {H H1 H2:a0v} {r r':SV} {n':Nat} (h:FC P n f args H (a0s r H1 n')) (hr:r=r') (hh:H1=H2):FC P n f args H (a0s r' H2 n'):=by subst hr hh;exact h
theorem f0a {P:Program} {f:FuncId} {fn:Func} (h:P.funcs[f]?=some fn) (hb:fn.body.isSome=true) (hn:(fn.name=="runtime.NumGoroutine")=false):d0r P f:=by
 obtain ⟨c,hc⟩:=Option.isSome_iff_exists.1 hb
 exact ⟨fn,c,h,hc,hn⟩
theorem f0b:∀(n:Nat) (sn:List Nat),sn.Nodup->(∀i∈sn,i<n)->sn.length<=n
 |0,sn,_,h=>by cases sn with|nil=>simp|cons x r=>exact absurd (h x (by simp)) (by omega)
 |n+1,sn,hd,h=>by
  by_cases hm:n∈sn
  .have:=f0b n (sn.erase n) (hd.erase n) (fun i hi=>by
    have h1:=h i (List.mem_of_mem_erase hi)
    have h2:i≠n:=fun e=>by subst e;exact (hd.not_mem_erase) hi
    omega)
   rw [List.length_erase_of_mem hm] at this
   omega
  .have:=f0b n sn hd (fun i hi=>by
    have h1:=h i hi
    have h2:i≠n:=fun e=>by subst e;exact hm hi
    omega)
   omega
theorem c0z {n i:Nat} {sn:List Nat} (hd:sn.Nodup) (h:∀i∈sn,i<n) (hi:i<n) (hn:¬i∈sn):sn.length<n:=by
 have:=f0b n (i::sn) (List.nodup_cons.2 ⟨hn,hd⟩) (fun x hx=>by rcases List.mem_cons.1 hx with rfl|hx;exact hi;exact h x hx)
 simp only [List.length_cons] at this
 omega
theorem l0S {n:Nat} {sn:List Nat} (hd:sn.Nodup) (hl:∀i∈sn,i<n) (ha:∀i,i<n->i∈sn):sn.Perm (List.range n):=by
 refine (List.perm_ext_iff_of_nodup hd List.nodup_range).2 fun i=> ?_
 rw [List.mem_range]
 exact ⟨hl i,ha i⟩
theorem f0S {α:Type} (l:List α) (d:α):(List.range l.length).map (fun i=>l.getD i d)=l:=by
 refine List.ext_getElem (by simp) ?_
 intro i h1 h2
 simp [List.getD,h2]
def g0h:Code->List Code
 | .seq a b=>g0h a++g0h b
 | .cond _ a b=>g0h a++g0h b
 | .block _ c=>g0h c
 | .loop c=>c::g0h c
 |_=> []
def lpc (f:Func) (k:Nat):Code:=match f.body with|some c=>(g0h c).getD k .skip|none=> .skip
def lpK {α:Type} (n0:Nat) (st:α->VS) (inv:α->Prop) (μ:α->Nat) (K:Exit->VS->Prop) (x:α):Exit->VS->Prop:=fun e v'=>match e with| .normal=>∃y l u,inv y/\μ y<μ x/\upK u v' (fun v=>Weak n0 l v (st y))|e=>K e v'
theorem f0r {α:Type} {n0:Nat} {body:VS->(Exit->VS->Prop)->Prop} {vs:VS} {K:Exit->VS->Prop} (st:α->VS) (inv:α->Prop) (μ:α->Nat) (x0:α) (l0:List Nat) (u0:List Up) (hw:upK u0 vs (fun v=>Weak n0 l0 v (st x0))) (hi:inv x0)
  (hr:∀x,inv x->body (st x) (lpK n0 st inv μ K x)):a0D n0 body vs K:=⟨α,st,inv,μ,x0,l0,u0,hw,hi,hr⟩
end Go.Sy
namespace Go.Sy
open Go.RowKit
section
variable {P:Program}
theorem f0c {β:Base} (h:β.es=1) (i:Nat):β.addr i 0=⟨β.blk,β.off+i,none⟩:=by unfold Base.addr;rw [h];simp
def d1f {α:Type} [Inhabited α] (P:Program) (f:FuncId) (enc:α->Value) (srt:List α->List α):Prop:=
 (∀(blk off cap:Nat) (ss:List α) (W:World),Go.Sort.Holds enc W blk off ss.toArray->blk<W.heap.size->ss.length<4611686018427387904->
  Calls P f #[.slice (some ⟨blk,off,none⟩) ss.length cap] W fun e w'=>e= .returned (.tuple #[])/\∃k os,w'=Go.Sort.grow (Go.Sort.putRow enc (Go.Sort.ahead W k) blk off (srt ss).toArray) os)/\
 (∀(p:Option Addr) (cap:Nat) (W:World),Calls P f #[.slice p 0 cap] W fun e w'=>e= .returned (.tuple #[])/\w'=W)
theorem v0W {α:Type} [Inhabited α] {f:FuncId} {enc:α->Value} {srt:List α->List α} (mk:List α->Col) (hs:d1f P f enc srt) (hbd:d0r P f) (hl:∀l,(mk l).len=l.length) (hv:∀l i,i<l.length->(mk l).val i=enc (l.toArray[i]!)) (h1:∀x,(enc x).oneCell'=true) (hp:∀l,(srt l).length=l.length)
  (n:Nat) (l:List α) (hn:n<4611686018427387904):FC P 2 f [.sl 1 0 0 n] [(1,some (.one false (.cols n [.sc (mk l)])))] (a0s (.tup []) [(1,some (.one false (.cols n [.sc (mk (srt l))])))] 2):=by
 refine Or.inl ⟨hbd,fun g w vals hg hu hH hvs=> ?_⟩
 obtain ⟨v,vs',rfl,hv0,hv1⟩:=hvs
 simp only [Rvs] at hv1
 subst hv1
 obtain ⟨a,c,rfl,hnc,hc⟩:=rsv hv0
 have hE:Ent [(1,some (HB.one false (Blk.cols n [.sc (mk l)])))] 1 0 false (Blk.cols n [.sc (mk l)]):=⟨_,rfl,⟨rfl,rfl⟩,rfl⟩
 obtain ⟨β,hgβ,hB⟩:=hH.blk 1 0 false _ hE
 have hlen:l.length=n:=by rw [<-hl];exact hB.len _ (List.mem_singleton.2 rfl)
 have hes:β.es=1:=hB.es
 have only:∀{b:Blk} {h q:Nat} {ro:Bool} {b':Blk},Ent [(1,some (HB.one false b))] h q ro b'->h=1/\q=0/\ro=false/\b'=b:=by
  rintro b h q ro b' ⟨hb,e,hi,hr⟩
  rw [a0U] at e
  split at e
  .cases e
   rename_i e1
   exact ⟨e1.symm,hi.1,hr.symm,hi.2⟩
  .cases e
 by_cases h0:n=0
 .subst h0
  refine (hs.2 a c w).mono ?_
  rintro e w' ⟨rfl,rfl⟩
  have hnil:l= []:=List.eq_nil_of_length_eq_zero hlen
  have hsn:srt l=l:=by rw [hnil];exact List.eq_nil_of_length_eq_zero (by rw [hp];rfl)
  rw [hsn]
  refine ⟨_,rfl,_,_,_,g,⟨rfl,rfl,rfl⟩,Nat.le_refl _,hu,fun _ _ _=>rfl,?_,hH,a0d a0k,Fr.refl _ _,?_⟩
  .simp only [Rv];exact ⟨_,rfl,by simp [Rvs]⟩
  .intro h q b β' he hg' hc'
   exact .inl ⟨h,q,b,β',he,hg',hc',rfl⟩
 .obtain hc|⟨β',hg',ha,hcap⟩:=hc
  .omega
  .rw [hgβ] at hg'
   cases hg'
   have hcp:0<β.cap:=by omega
   subst ha
   have hHo:Go.Sort.Holds enc w β.blk β.off l.toArray:=by
    intro j hj
    have hj':j<n:=by rw [<-hlen];simpa using hj
    obtain ⟨x,hx,hr⟩:=hB.cell j 0 _ hj' rfl
    rw [f0c hes] at hx
    refine ⟨?_,?_⟩
    .rw [hx]
     have:=hv l j (by omega)
     rw [<-this]
     have e1:(BCol.sc (mk l)).at j=(mk l).at j:=rfl
     rw [e1] at hr
     have h2:=Col.at_ok g (mk l) j
     revert hr h2
     cases mk l<;>simp [Col.at,Col.val,Rv]
    .have:=(hB.rw rfl j 0 (by have:=hB.cap j hj';omega) (by omega)).1
     rwa [f0c hes] at this
   have hlt:=hB.lt hcp
   have hca:=hs.1 β.blk β.off c l w hHo hlt (by omega)
   rw [hlen] at hca
   have ea:β.addr 0 0=⟨β.blk,β.off,none⟩:=by rw [f0c hes];rfl
   rw [ea]
   refine hca.mono ?_
   rintro e w' ⟨rfl,k,os,rfl⟩
   have hss:(srt l).toArray.size=n:=by simp [hp,hlen]
   have cellP:∀j,j<n->(Go.Sort.grow (Go.Sort.putRow enc (Go.Sort.ahead w k) β.blk β.off (srt l).toArray) os).cell? ⟨β.blk,β.off+j,none⟩=some (enc ((srt l).toArray[j]!)):=by
    intro j hj
    rw [Go.Sort.cell?_grow _ _ _ (by simpa using hlt)]
    exact Go.Sort.cell?_putRow enc (Go.Sort.ahead w k) β.blk β.off l.toArray (srt l).toArray hHo (by simp [hp]) j (by omega)
   have cellO:∀j,n<=j->(Go.Sort.grow (Go.Sort.putRow enc (Go.Sort.ahead w k) β.blk β.off (srt l).toArray) os).cell? ⟨β.blk,β.off+j,none⟩=w.cell? ⟨β.blk,β.off+j,none⟩:=by
    intro j hj
    rw [Go.Sort.cell?_grow _ _ _ (by simpa using hlt)]
    rw [Go.Sort.cell?_putRow_other _ _ _ _ _ _ (.inr (.inr (by rw [hss];show β.off+n<=β.off+j;omega)))]
    rfl
   refine ⟨_,rfl,_,_,_,g,⟨rfl,rfl,rfl⟩,Nat.le_refl _,hu,fun _ _ _=>rfl,?_,⟨?_,?_⟩,a0d a0k,⟨rfl,rfl,rfl,by simp,?_⟩,?_⟩
   .simp only [Rv];exact ⟨_,rfl,by simp [Rvs]⟩
   .intro h q ro b he
    obtain ⟨rfl,rfl,rfl,rfl⟩:=only he
    refine ⟨β,hgβ,?_⟩
    refine ⟨fun _=>by simp;omega,hes,?_,hB.cap,?_,?_,?_,trivial⟩
    .intro c' hc'
     rw [List.mem_singleton] at hc'
     subst hc'
     show (mk (srt l)).len=n
     rw [hl,hp,hlen]
    .intro i j sv hi hj
     have hi':i<n:=hi
     cases j with
     |succ j=>simp [Blk.at,nth] at hj
     |zero=>
      simp only [Blk.at,nth,Option.some.injEq] at hj
      subst hj
      rw [f0c hes]
      refine ⟨_,cellP i hi',?_⟩
      rw [<-hv (srt l) i (by rw [hp];omega)]
      exact Col.at_ok g _ i
    .intro i j v hi hj hx
     have hi':i<n:=hi
     obtain rfl:j=0:=by omega
     rw [f0c hes,cellP i hi'] at hx
     cases hx
     exact h1 _
    .intro _ i j hi hj
     obtain rfl:j=0:=by omega
     have hx:=hB.rw rfl i 0 hi (by omega)
     rw [f0c hes] at hx⊢
     refine ⟨?_,?_⟩
     .rw [Go.Sort.frozen?_grow _ _ _ (by simpa using hlt),Go.Sort.frozen?_putRow]
      exact hx.1
     .by_cases hi2:i<n
      .exact ⟨_,cellP i hi2⟩
      .rw [cellO i (by omega)];exact hx.2
   .intro h q h' q' b ro' b' β1 β2 hne he he' _ _ _ _
    obtain ⟨rfl,rfl,_,_⟩:=only he
    obtain ⟨rfl,rfl,_,_⟩:=only he'
    exact absurd ⟨rfl,rfl⟩ hne
   .intro x hx hW
    have hne:x≠β.blk:=fun e=>hW ⟨1,0,_,β,hE,hgβ,hcp,e.symm⟩
    rw [Go.Sort.heap_grow_old _ _ (by simpa using hx)]
    simp only [Go.Sort.putRow,Go.Sort.mapBlock,Array.getElem?_modify,if_neg (Ne.symm hne),Go.Sort.heap_ahead]
   .intro h q b β' he hg' hc'
    obtain ⟨rfl,rfl,_,_⟩:=only he
    rw [hgβ] at hg'
    cases hg'
    exact .inl ⟨1,0,_,β,hE,hgβ,hc',rfl⟩
def toB (b:List UInt8):ByteArray:=⟨b.toArray⟩
def ofB (s:ByteArray):List UInt8:=s.data.toList
theorem v0X (s:ByteArray):toB (ofB s)=s:=rfl
theorem h1X (b:List UInt8):ofB (toB b)=b:=rfl
def sortS (l:List ByteArray):List ByteArray:=((l.map ofB).mergeSort (fun x y=>decide (x<=y))).map toB
def sortI (l:List Int):List Int:=l.mergeSort (fun x y=>decide (x<=y))
theorem d0L (l:List ByteArray):(sortS l).length=l.length:=by simp [sortS]
theorem i0q (l:List Int):(sortI l).length=l.length:=by simp [sortI]
theorem j0Q (l:List ByteArray):(l.map ofB).map toB=l:=by rw [List.map_map];exact List.map_id l
theorem h0K (l:List ByteArray):(sortS l).Perm l:=by
 have:=(List.mergeSort_perm (l.map ofB) (fun x y=>decide (x<=y))).map toB
 rwa [j0Q] at this
theorem z0D {f:FuncId} (hs:d1f P f Go.Proofs.encStr (fun ss:List (List UInt8)=>ss.mergeSort fun x y=>decide (x<=y))) (hbd:d0r P f) (n:Nat) (l:List ByteArray) (hn:n<4611686018427387904):
  FC P 2 f [.sl 1 0 0 n] [(1,some (.one false (.cols n [.sc (.strs l)])))] (a0s (.tup []) [(1,some (.one false (.cols n [.sc (.strs (sortS l))])))] 2):=by
 have h:=v0W (fun ss=> .strs (ss.map toB)) hs hbd (by intro l;simp [Col.len]) (by
  intro l i hi
  simp only [Col.val,Go.Proofs.encStr]
  rw [getElem!_pos _ _ (by simpa using hi)]
  simp [List.getD,hi,toB]) (fun x=>rfl) (by intro l;simp) n (l.map ofB) hn
 rw [j0Q] at h
 exact h
theorem z0E {f:FuncId} (hs:d1f P f (Value.int .i64) (fun ss:List Int=>ss.mergeSort fun x y=>decide (x<=y))) (hbd:d0r P f) (n:Nat) (l:List Int) (hn:n<4611686018427387904):
  FC P 2 f [.sl 1 0 0 n] [(1,some (.one false (.cols n [.sc (.ints .i64 l)])))] (a0s (.tup []) [(1,some (.one false (.cols n [.sc (.ints .i64 (sortI l))])))] 2):=
 v0W (fun ss=> .ints .i64 ss) hs hbd (by intro l;rfl) (by
  intro l i hi
  simp only [Col.val]
  rw [getElem!_pos _ _ (by simpa using hi)]
  simp [List.getD,hi]) (fun x=>rfl) (by intro l;simp) n l hn
theorem t0S {k:TypeId} (hk:P.underlying k=some .string) {g:G} {w:World} {b n ck:Nat} {ea:Bool} {ks:List ByteArray} {vs:List BCol} {bs:List Nat} {es:Array MapEntry} (hb:w.heap[b]?=some (.map es ck)) (hm:MapOk g false ea n [.strs ks] vs bs ck es) (hn:n<=maxLen) (hs:∀s∈ks,s.size<=maxLen) (hnd:ks.Nodup):
  ∃D:DataW Unit,w.ownsMap P k (fun _=>some (.nil,[])) b n D/\(strKeys D).Perm (ks.map ofB)/\Maps.size D=n:=by
 have hkl:ks.length=n:=hm.kl _ (List.mem_singleton.2 rfl)
 have hky:es.toList.map (·.key)=ks.map Value.string:=by
  refine List.ext_getElem (by simp [hm.size,hkl]) ?_
  intro i h1 h2
  have hi:i<es.size:=by simpa using h1
  have:=(hm.row i es[i] (Array.getElem?_eq_getElem hi)).2.1
  have hi2:i<ks.length:=by rw [hkl,<-hm.size];exact hi
  simp only [List.getElem_map,Array.getElem_toList,this,u0V,Col.val]
  simp [List.getD,hi2]
 have hrd:∀x∈es.toList,∃s:ByteArray,x.key= .string s/\WideElems.rd P k (fun _=>some (DataW.nil,[])) x=some (Lit.string s.data.toList,(DataW.nil:DataW Unit)):=by
  intro x hx
  have:x.key∈ks.map Value.string:=by rw [<-hky];exact List.mem_map_of_mem hx
  obtain ⟨s,hs1,hs2⟩:=List.mem_map.1 this
  refine ⟨s,hs2.symm,?_⟩
  unfold WideElems.rd
  rw [<-hs2]
  simp [keyOf,hk,mapKey,hs s hs1]
 refine ⟨_,⟨es,ck,hb,⟨by rw [hm.size];exact hn,⟨?_,?_,?_⟩,fun x hx=> ?_⟩,by rw [hm.size];exact Nat.le_refl _,rfl⟩,?_,?_⟩
 .intro x hx
  obtain ⟨i,hi,rfl⟩:=List.mem_iff_getElem.1 hx
  have hi':i<es.size:=by simpa using hi
  have:=(hm.row i es[i] (Array.getElem?_eq_getElem hi')).1
  simp only [Array.getElem_toList]
  rw [this]
  refine hm.lt _ ?_
  have:i<bs.length:=by rw [hm.bl,<-hm.size];exact hi'
  simp [List.getD,this]
 .have:es.toList.map (·.born)=bs:=by
   refine List.ext_getElem (by simp [hm.size,hm.bl]) ?_
   intro i h1 h2
   have hi:i<es.size:=by simpa using h1
   have:=(hm.row i es[i] (Array.getElem?_eq_getElem hi)).1
   simp only [List.getElem_map,Array.getElem_toList,this]
   simp [List.getD,h2]
  rw [this];exact hm.nd
 .rw [hky]
  exact List.Pairwise.map _ (fun a b h e=>h (by injection e)) hnd
 .obtain ⟨s,_,h⟩:=hrd x hx
  exact ⟨_,h⟩
 .show ((((es.toList.map (WideElems.rg P k _)).foldr DataW.insert []).map fun p=>strOf p.1)).Perm _
  refine ((WideShapes.sorted_perm _).map _).trans (List.Perm.of_eq ?_)
  rw [List.map_map]
  have:(fun x:MapEntry=>strOf (WideElems.rg P k (fun _=>some (DataW.nil,[])) x:Lit×DataW Unit).1)=fun x=>strOf (WideElems.rg P k (fun _=>some ((DataW.nil:DataW Unit),[])) x).1:=rfl
  refine (List.map_congr_left (g:=fun x:MapEntry=>match x.key with| .string s=>ofB s|_=> []) ?_).trans ?_
  .intro x hx
   obtain ⟨s,hk',h⟩:=hrd x hx
   show strOf (WideElems.rg P k _ x).1=_
   unfold WideElems.rg
   rw [h,hk']
   rfl
  .have e1:es.toList.map (fun x:MapEntry=>match x.key with| .string s=>ofB s|_=> [])=(es.toList.map (·.key)).map (fun v=>match v with| .string s=>ofB s|_=> []):=by rw [List.map_map];rfl
   rw [e1,hky,List.map_map]
   rfl
 .show List.length _=n
  rw [(WideShapes.sorted_perm _).length_eq]
  simp [hm.size]
end
end Go.Sy
namespace Go.Sy
open Go.RowKit Go.Maps Go.Sort Go.Shelf Go.Proofs
section
variable {P:Program} {ρ:Ren}
set_option maxRecDepth 100000 in
set_option maxHeartbeats 1000000 in
theorem z0F (L:SlLaysZ.n10 P ρ) {H:Type} (F:Fence) (n:Nat) (h10:F.fn (ρ.f 10)) (hro:F.round=none) (hn:1<=n) (l Bm o b nn:Nat) (D0:DataW H) {R:Value->Option (DataW H×List MemPlace)} (J:List (List UInt8)->World->Prop)
  (hY:∀pre x W,J pre W->pre.length<Maps.size D0->YieldAt F (n-1) P l #[encStr x] W fun e W'=>e= .returned (.bool true)/\J (pre++ [x]) W'/\KeepsWalks W W')
  (W:World) (hJ:AbidesFrom W.heap.size J) (hm:W.cell? ⟨Bm,o,none⟩=some (.map (some b))) (hown:W.ownsMap P (ρ.t 26) R b nn D0) (h0:J [] W):
  CallsIn F n P (ρ.f 10) #[.func (.yield l) #[] #[],.pointer (some ⟨Bm,o,none⟩)] W fun e W'=>(∃v,e= .returned v)/\∃ss:List (List UInt8),ss.Perm (strKeys D0)/\J ss W':=by
 have mixed:=L.mixed;have t0:=L.t0;have a0:=L.a0;have z0:=L.z0;have v0:=L.v0;have t4:=L.t4;have a4:=L.a4;have z4:=L.z4;have v4:=L.v4;have t23:=L.t23;have a23:=L.a23;have z23:=L.z23;have v23:=L.v23;have t26:=L.t26;have a26:=L.a26;have z26:=L.z26;have v26:=L.v26;have t33:=L.t33;have a33:=L.a33;have z33:=L.z33;have v33:=L.v33
 have u0:=run_underlying L.t0;have u4:=run_underlying L.t4;have u23:=run_underlying L.t23;have u26:=run_underlying L.t26;have u33:=run_underlying L.t33
 obtain ⟨_,_,FG⟩:=L.f10
 refine callsIn_of_wp FG rfl h10 ?_ hro
 simp only [SlBodyZ.n10_ntmps ρ,List.size_toArray,List.length_cons,List.length_nil,Nat.reduceAdd,Nat.reduceSub,Array.replicate_succ,Array.replicate_zero,List.push_toArray,List.append_toArray,List.nil_append,List.cons_append]
 gi_wp2_with (first
  |(gi_at_range;refine wpListIn_range_own _ rfl _ (ρ.t 23) rfl (ρ.t 26) (ρ.t 3) (string_keyed L.t26) L.t23 _ b nn _ rfl hown ?_;intro w0 hrg0 hg0 hs0)
  |gi_in)
 go_frame
 gi_loopw [3] (fun _ wr=>∃(left:Lit->Bool) (cnt:Nat) (ss:List (List UInt8)),wr.ranges P (ρ.t 26) R b W.heap.size nn D0 left cnt/\ss.length+cnt<=Maps.size D0/\Collected D0 left ss/\J ss wr)
  (fun _ wr=>wr.rangeLeft b W.heap.size)
 case atStart=>
  exact ⟨_,_,[],hrg0,by simp,Collected.start D0,hJ [] W w0 none h0 hg0 (fun r e=>by cases e)⟩
 case round=>
  obtain ⟨left,cnt,ss,hrg,hcs,hC,hJs⟩:=hrel
  gi_wp2_with (first
   |(gi_at_next;refine wpListIn_next_ranges _ rfl _ rfl (ρ.t 26) (string_keyed L.t26) R encStr id (fun key kl hk=>by obtain ⟨x,hx,_⟩:=Maps.keyOf_str L.t26 hk;exact ⟨x,hx⟩) (fun v _ _=>⟨v,rfl⟩) b W.heap.size nn _ _ _ rfl hrg ?_ ?_)
   |gi_in)
  .intro hc0 hl0
   gi_wp2
   go_end0
   exact ⟨⟨_,rfl⟩,ss,hC.perm hown (string_keyed L.t26) L.t26 hl0,hJs⟩
  .intro x c kl yd yp w2 cnt2 hkey hlk hv hat hrg2 hlt hg2 hs2 hen
   obtain ⟨x',ex,rfl,_⟩:=Maps.keyOf_str L.t26 hkey
   obtain rfl:x=x':=encStr_inj ex
   have hJ2:J ss w2:=hJ ss wr w2 (some W.heap.size) hJs hg2 (fun r e=>by cases e;exact ⟨Nat.le_refl _,hrg.iter_walk⟩)
   obtain ⟨fn,tmps,assign,body,hy,hR⟩:=hY ss x w2 hJ2 (by omega)
   clear hs2
   gi_wp2
   refine hR.mono ?_
   rintro e W3 ⟨rfl,hJ3,hk3⟩
   gi_wp2
   have hrg3:=hrg2.of_walks hk3
   go_roundw
   case rel=>exact ⟨_,cnt2,ss++ [x],hrg3,by simp;omega,hC.step hlk hat,hJ3⟩
   case measure=>rw [hrg3.left_eq,hrg.left_eq];exact hlt
theorem q0h (L:SlLaysZ.n10 P ρ) {H:Type} (F:Fence) (n:Nat) (h10:F.fn (ρ.f 10)) (hro:F.round=none) (hn:1<=n) (Bm o b nn:Nat) (D0:DataW H) {R:Value->Option (DataW H×List MemPlace)} (w:World) (hBm:Bm<w.heap.size)
  (hm:w.cell? ⟨Bm,o,none⟩=some (.map (some b))) (hown:w.ownsMap P (ρ.t 26) R b nn D0):
  SeqGives F n P (ρ.f 10) #[.pointer (some ⟨Bm,o,none⟩)] encStr (fun ss=>ss.Perm (strKeys D0)) (Maps.size D0) w:=fun l J W hW hJ hY h0=>by
 have hown':W.ownsMap P (ρ.t 26) R b nn D0:=by
  have hbl:=hown.lt
  obtain ⟨es,clock,hb,Ft,hs,hD⟩:=hown
  exact ⟨es,clock,(hW.block b hbl).trans hb,Ft,hs,hD⟩
 exact z0F { L with} F n h10 hro hn l Bm o b nn D0 J hY W hJ ((hW.cell (p:=⟨Bm,o,none⟩) hBm).trans hm) hown' h0
theorem v0Y {ρ':Ren} {f it:FuncId} {kt:TypeId} (hf:ρ'.f 6=f) (hi:ρ.f 10=it) (hkt:ρ.t 26=kt) (Lk:SlLaysZ.n10 P ρ) (Ls:SlLaysZ.n6 P ρ') (hsrt:∀m,AnyZ.SortsIn P ρ' Fence.wide m) (hbd:d0r P f) (e9:∀args w,(callFunc (ρ'.f 9) args).run P w= .ok (.enter (ρ'.f 9) args) w) (eit:∀args w,(callFunc it args).run P w= .ok (.enter it args) w) (hk:P.underlying kt=some .string)
  {ea:Bool} {n:Nat} {ks:List ByteArray} {vs:List BCol} {bs:List Nat} {ck:Nat} (hn:n<=100000) (hz:∀s∈ks,s.size<=maxLen) (hnd:ks.Nodup):
  FC P 3 f [.fn it [.ptr 2 0 0 0]] [(1,some (.one true (.obj (.map false ea n [.strs ks] vs bs ck)))),(2,some (.one true (.cells [.map 1 0])))] (a0s (.sl 3 0 0 n) [(3,some (.one false (.cols n [.sc (.strs (sortS ks))])))] 4):=by
 subst hf hi hkt
 refine Or.inl ⟨hbd,fun g w vals hg hu hH hvs=> ?_⟩
 obtain ⟨v,vs',rfl,hv0,hv1⟩:=hvs
 simp only [Rvs] at hv1
 subst hv1
 simp only [Rv] at hv0
 obtain ⟨cap,rfl,hcap⟩:=hv0
 obtain ⟨pv,vs2,hp1,hp2,hp3⟩:=hcap
 simp only [Rvs] at hp3
 subst hp3
 obtain ⟨β2,hg2,rfl⟩:=rpv hp2
 have hcap':cap= #[.pointer (some (β2.addr 0 0))]:=by rw [<-Array.toList_inj,hp1]
 subst hcap'
 have hE1:Ent [(1,some (HB.one true (Blk.obj (.map false ea n [.strs ks] vs bs ck)))),(2,some (HB.one true (Blk.cells [.map 1 0])))] 1 0 true (Blk.obj (.map false ea n [.strs ks] vs bs ck)):=⟨_,rfl,⟨rfl,rfl⟩,rfl⟩
 have hE2:Ent [(1,some (HB.one true (Blk.obj (.map false ea n [.strs ks] vs bs ck)))),(2,some (HB.one true (Blk.cells [.map 1 0])))] 2 0 true (Blk.cells [.map 1 0]):=⟨_,rfl,⟨rfl,rfl⟩,rfl⟩
 obtain ⟨β1,hg1,hB1⟩:=hH.blk 1 0 true _ hE1
 obtain ⟨β2',hg2',hB2⟩:=hH.blk 2 0 true _ hE2
 rw [hg2] at hg2'
 cases hg2'
 obtain ⟨_,_,es,hb1,hm1⟩:=hB1.obj
 obtain ⟨x,hx,hrx⟩:=hB2.cell 0 0 _ rfl rfl
 simp only [Rv] at hrx
 obtain ⟨β1',hg1',rfl⟩:=hrx
 rw [hg1] at hg1'
 cases hg1'
 have hc2:0<β2.cap:=hB2.cap 0 rfl
 have hlt2:=hB2.lt hc2
 have hml:n<=maxLen:=Nat.le_trans hn (by decide)
 obtain ⟨D,hown,hperm,hsz⟩:=t0S hk hb1 hm1 hml hz hnd
 have hseq:=q0h Lk Fence.wide 2 trivial rfl (by omega) β2.blk (β2.off+0*β2.es+0) β1.blk n D w hlt2 hx hown
 rw [hsz] at hseq
 have hca:=AnyZ.sorted_in Ls Fence.wide 5 trivial trivial trivial trivial rfl (by omega) (hsrt _) e9 _ _ trivial eit _ n hml (by omega) w hseq
 refine (callsIn_wide.1 hca).mono ?_
 rintro e w' ⟨v,ss,rfl,hS,hrow,hnil,hbel⟩
 have hpm:ss.Perm (ks.map ofB):=hS.trans hperm
 have hkl:ks.length=n:=hm1.kl _ (List.mem_singleton.2 rfl)
 have hsl:ss.length=n:=by rw [hpm.length_eq,List.length_map,hkl]
 have hso:(ss.mergeSort (fun x y=>decide (x<=y)))=((ks.map ofB).mergeSort (fun x y=>decide (x<=y))):=mergeSort_of_perm hpm
 rw [hso,hsl] at hrow
 have hs':((ks.map ofB).mergeSort (fun x y=>decide (x<=y))).map encStr=(sortS ks).map Value.string:=by
  unfold sortS
  rw [List.map_map]
  rfl
 rw [hs'] at hrow
 obtain ⟨hl0,hr⟩:=hrow
 have frm:Fr (e0G g [(1,some (HB.one true (Blk.obj (.map false ea n [.strs ks] vs bs ck)))),(2,some (HB.one true (Blk.cells [.map 1 0])))]) w w':=⟨hbel.os,hbel.tape,hbel.output,hbel.size,fun k hk _=>hbel.block k hk⟩
 have only:∀{b:Blk} {h q:Nat} {ro:Bool} {b':Blk},Ent [(3,some (HB.one false b))] h q ro b'->h=3/\q=0/\ro=false/\b'=b:=by
  rintro b h q ro b' ⟨hb,e,hi,hr⟩
  rw [a0U] at e
  split at e
  .cases e
   rename_i e1
   exact ⟨e1.symm,hi.1,hr.symm,hi.2⟩
  .cases e
 obtain ⟨β,hβ,hrv,hB,horg⟩:∃β:Base,β.off=0/\Rv (g.add 3 β) (.sl 3 0 0 n) v/\BlkAt (g.add 3 β) β false (Blk.cols n [.sc (.strs (sortS ks))]) w'/\(0<β.cap->w.heap.size<=β.blk):=by
  rcases hr with ⟨rfl,hz0⟩|⟨gb,cp,cur,rfl,hbase,hgb,r1,r2,r3,r4⟩
  .subst hz0
   refine ⟨⟨0,0,1,0⟩,rfl,?_,?_,fun h=>absurd h (by decide)⟩
   .simp only [Rv];exact ⟨none,0,rfl,Nat.le_refl _,.inl rfl⟩
   .refine ⟨fun h=>absurd h (by decide),rfl,?_,fun i hi=>absurd hi (Nat.not_lt_zero _),fun i j sv hi=>absurd hi (Nat.not_lt_zero _),fun i j v hi=>absurd hi (Nat.not_lt_zero _),fun _ i j hi=>absurd hi (Nat.not_lt_zero _),trivial⟩
    intro c hc
    rw [List.mem_singleton] at hc
    subst hc
    show (sortS ks).length=0
    rw [d0L,hkl]
  .have hcs:cur.size=cp:=by rw [r3];simp
   have hcell:∀i,i<n->cur[i]?=some (Value.string ((sortS ks).getD i ⟨#[]⟩)):=by
    intro i hi
    have h1:(cur.toList.take (n*1))[i]?=((sortS ks).map Value.string)[i]?:=by rw [r4]
    rw [List.getElem?_take,if_pos (by omega)] at h1
    rw [<-Array.getElem?_toList,h1,List.getElem?_map]
    have:i<(sortS ks).length:=by rw [d0L,hkl];exact hi
    simp [List.getD,this]
   have hglt:gb<w'.heap.size:=(Array.getElem?_eq_some_iff.1 hgb).1
   refine ⟨⟨gb,0,1,cp⟩,rfl,?_,?_,fun _=>hbase⟩
   .simp only [Rv]
    refine ⟨_,_,rfl,r1,.inr ⟨⟨gb,0,1,cp⟩,by simp [G.add],rfl,by simp⟩⟩
   .refine ⟨fun _=>hglt,rfl,?_,fun i hi=>Nat.lt_of_lt_of_le hi r1,?_,?_,?_,trivial⟩
    .intro c hc
     rw [List.mem_singleton] at hc
     subst hc
     show (sortS ks).length=n
     rw [d0L,hkl]
    .intro i j sv hi hj
     have hi':i<n:=hi
     cases j with
     |succ j=>simp [Blk.at,nth] at hj
     |zero=>
      simp only [Blk.at,nth,Option.some.injEq] at hj
      subst hj
      refine ⟨(Col.strs (sortS ks)).val i,?_,Col.at_ok _ (Col.strs (sortS ks)) i⟩
      rw [f0c (β:=⟨gb,0,1,cp⟩) rfl]
      simp only [World.cell?,hgb,Nat.zero_add,hcell i hi']
      rfl
    .intro i j v hi hj hx
     have hi':i<n:=hi
     obtain rfl:j=0:=by have:j<1:=hj;omega
     rw [f0c (β:=⟨gb,0,1,cp⟩) rfl] at hx
     simp only [World.cell?,hgb,Nat.zero_add,hcell i hi'] at hx
     cases hx
     rfl
    .intro _ i j hi hj
     obtain rfl:j=0:=by have:j<1:=hj;omega
     have hi':i<cp:=hi
     rw [f0c (β:=⟨gb,0,1,cp⟩) rfl]
     refine ⟨by simp [World.frozen?,hgb],?_⟩
     have:i<cur.size:=by omega
     exact ⟨cur[i],by simp [World.cell?,hgb,this]⟩
 refine ⟨v,rfl,_,_,_,g.add 3 β,⟨rfl,rfl,rfl⟩,by omega,?_,?_,hrv,⟨?_,?_⟩,a0d a0k,frm,?_⟩
 .intro h q hh
  simp only [G.add]
  rw [if_neg (by omega)]
  exact hu h q (by omega)
 .intro h q hh
  simp only [G.add]
  rw [if_neg (by omega)]
 .intro h q ro b he
  obtain ⟨rfl,rfl,rfl,rfl⟩:=only he
  exact ⟨β,by simp [G.add],hB⟩
 .intro h q h' q' b ro' b' β1 β2 hne he he' _ _ _ _
  obtain ⟨rfl,rfl,_,_⟩:=only he
  obtain ⟨rfl,rfl,_,_⟩:=only he'
  exact absurd ⟨rfl,rfl⟩ hne
 .intro h q b β' he hg' hc'
  obtain ⟨rfl,rfl,_,_⟩:=only he
  simp only [G.add,and_self,if_true,Option.some.injEq] at hg'
  subst hg'
  exact .inr (horg hc')
end
end Go.Sy
namespace Go.Sy
open Go.RowKit
theorem v0Z {g:G} {w w':World} {n:Nat} {H:a0v} {cs:List BCol} {v:Value} (hl:g0E cs=true) (h:Out g w n H (fun r H' n'=>a0s .nsl [] n r H' n'\/a0s (.sl n 0 0 0) [(n,some (.one false (.cols 0 cs)))] (n+1) r H' n') v w'):Out g w n H (a0s (.sl n 0 0 0) [(n,some (.one false (.cols 0 cs)))] (n+1)) v w':=by
 obtain ⟨sv,H',n',g',hp,hn,hu,hk,hv,hH,hrw,hfr,hown⟩:=h
 rcases hp with ⟨rfl,rfl,rfl⟩|hp
 .have h0:∀q,g' n' q=none:=fun q=>hu n' q (Nat.le_refl _)
  have ent:∀{h q:Nat} {ro:Bool} {b:Blk},Ent [(n',some (.one false (.cols 0 cs)))] h q ro b->h=n'/\q=0/\ro=false/\b= .cols 0 cs:=by
   rintro h q ro b ⟨hb,e,hi,hr⟩
   simp only [a0J] at e
   cases hc:Nat.beq n' h with
   |false=>rw [hc] at e;simp at e
   |true=>
    rw [hc] at e
    simp only [cond_true,Option.some.injEq] at e
    subst e
    exact ⟨(Nat.eq_of_beq_eq_true hc).symm,hi.1,hr.symm,hi.2⟩
  refine ⟨_,_,_,g'.add n' ⟨0,0,cs.length,0⟩,⟨rfl,rfl,rfl⟩,Nat.le_succ _,?_,?_,?_,⟨?_,?_⟩,a0d a0k,hfr,?_⟩
  .intro h q hh
   have e:h≠n':=by omega
   simp only [G.add]
   rw [if_neg (fun x=>e x.1)]
   exact hu h q (by omega)
  .intro h q hh
   have e:h≠n':=by omega
   rw [<-hk h q hh]
   simp only [G.add]
   rw [if_neg (fun x=>e x.1)]
  .rw [v0u hv]
   simp only [Rv]
   exact ⟨none,0,rfl,Nat.le_refl _,.inl rfl⟩
  .intro h q ro b he
   obtain ⟨rfl,rfl,rfl,rfl⟩:=ent he
   exact ⟨_,v0V,fun h=>by simp at h,rfl,j0M cs hl,fun i hi=>by simp only [Blk.has] at hi;omega,fun i j sv hi=>by simp only [Blk.has] at hi;omega,fun i j v hi=>by simp only [Blk.has] at hi;omega,fun _ i j hi=>by simp at hi,trivial⟩
  .intro h q h2 q2 b ro2 b2 β β2 _ he _ hg _ hc
   obtain ⟨rfl,rfl,_,_⟩:=ent he
   rw [v0V] at hg
   cases hg
   simp at hc
  .intro h q b β he hg hc
   obtain ⟨rfl,rfl,_,_⟩:=ent he
   rw [v0V] at hg
   cases hg
   simp at hc
 .exact ⟨sv,H',n',g',hp,hn,hu,hk,hv,hH,hrw,hfr,hown⟩
theorem w0a {P:Program} {n:Nat} {f:FuncId} {args:List SV} {H:a0v} {cs:List BCol} (hl:g0E cs=true) (h:FC P n f args H (fun r H' n'=>a0s .nsl [] n r H' n'\/a0s (.sl n 0 0 0) [(n,some (.one false (.cols 0 cs)))] (n+1) r H' n')):FC P n f args H (a0s (.sl n 0 0 0) [(n,some (.one false (.cols 0 cs)))] (n+1)):=by
 rcases h with ⟨hb,h⟩|h
 .refine .inl ⟨hb,fun g w vals h1 h2 h3 h4=>(h g w vals h1 h2 h3 h4).mono ?_⟩
  rintro e w' ⟨v,rfl,ho⟩
  exact ⟨v,rfl,v0Z hl ho⟩
 .refine .inr (fun g w vals h1 h2 h3 h4=> ?_)
  obtain ⟨v,w',hr,ho⟩:=h g w vals h1 h2 h3 h4
  exact ⟨v,w',hr,v0Z hl ho⟩
theorem e0h {n0:Nat} {p q:SV->a0v->Nat->Prop} {r:SV} {vs:VS} (h:∀a b c,p a b c->q a b c):a0Y n0 p r vs->a0Y n0 q r vs:=fun ⟨l,u,r0,H0,n1,a,b⟩=>⟨l,u,r0,H0,n1,a,h _ _ _ b⟩
end Go.Sy
namespace Go.Sy
open Go.RowKit
theorem f0s {n:Nat} {R:Nat->Nat->Option (Nat×Nat)} (s:SV):SLe n R s s:=fun g g1 v hle _ h=>Rv.mono hle s v h
theorem l0T {n:Nat} {R:Nat->Nat->Option (Nat×Nat)} {h q h' q' i k:Nat} (hn:n<=h') (e:R h' q'=some (h,q)):SLe n R (.sl h q i k) (.sl h' q' i k):=by
 intro g g1 v hle hR hv
 simp only [Rv] at hv⊢
 obtain ⟨a,c,e1,e2,e3⟩:=hv
 refine ⟨a,c,e1,e2,?_⟩
 rcases e3 with e3|⟨β,e3,e4⟩
 .exact .inl e3
 .exact .inr ⟨β,hR h' q' _ hn e β e3,e4⟩
theorem d1g {n:Nat} {R:Nat->Nat->Option (Nat×Nat)} {h q i:Nat}:SLe n R .nsl (.sl h q i 0):=by
 intro g g1 v hle hR hv
 simp only [Rv] at hv⊢
 exact ⟨none,0,hv,Nat.le_refl _,.inl rfl⟩
theorem n0c {h q:Nat} {ro:Bool} {b:Blk}:¬Ent [] h q ro b:=fun ⟨hb,e,_⟩=>by simp [a0J] at e
theorem j0R {H:a0v} {n bh:Nat} {ka:Bool} {m:Nat} {ks:List Col} {L:List SV} {bs:List Nat} {ck:Nat} {ns:List Nat} {f:Nat->Blk} {s:Nat->Option (Nat×Nat)} {dr:List Nat} {es:Nat}
  (hb:a0J H bh=some (.one false (.obj (.map ka false m ks [.svs L] bs ck)))) (hbn:bh<n) (hbd:¬bh∈dr) (hm:ns.length=m)
  (hs:∀x,x<m->(∃h q,s x=some (h,q)/\L.getD x .unk= .sl h q 0 (ns.getD x 0)/\Ent H h q false (f x)/\h∈dr)\/(s x=none/\(L.getD x .unk= .nsl\/L.getD x .unk= .unk)/\ns.getD x 0=0/\∃cs,f x= .cols 0 cs/\g0E cs=true/\es=cs.length))
  (hu:∀x,x<m->L.getD x .unk≠.unk)
  (hi:∀x y p,x<m->y<m->s x=some p->s y=some p->x=y):
  Relab H n (fun h q=>if h=n/\q<m then s q else none) (fun _=>es) [(bh,some (.one false (.obj (.map ka false m ks [.own n ns] bs ck)))),(n,some (.fam false (fun x=>x<m) f))] dr 1:=by
 have key:∀{h q:Nat} {ro:Bool} {b:Blk},Ent [(bh,some (.one false (.obj (.map ka false m ks [.own n ns] bs ck)))),(n,some (.fam false (fun x=>x<m) f))] h q ro b->(h=bh/\q=0/\ro=false/\b= .obj (.map ka false m ks [.own n ns] bs ck))\/(h=n/\q<m/\ro=false/\b=f q):=by
  intro h q ro b he
  rcases a0E.1 he with ⟨rfl,hb2,e1,e2,e3⟩|⟨e0,he⟩
  .cases e1;exact .inl ⟨rfl,e2.1,e3.symm,e2.2⟩
  .rcases a0E.1 he with ⟨rfl,hb2,e1,e2,e3⟩|⟨e0',he⟩
   .cases e1;exact .inr ⟨rfl,e2.1,e3.symm,e2.2⟩
   .exact (n0c he).elim
 refine ⟨?_,?_,?_,?_,?_⟩
 .intro h q p h1 h2
  (try dsimp only at h2)
  split at h2
  .rename_i e;omega
  .cases h2
 .intro h q ro b he
  rcases key he with ⟨_,_,e,_⟩|⟨_,_,e,_⟩<;>exact e
 .intro h q b' he
  rcases key he with ⟨rfl,rfl,_,rfl⟩|⟨rfl,hq,_,rfl⟩
  .refine .inl ⟨h,0,_,.inl ⟨hbn,rfl,rfl⟩,⟨_,hb,⟨rfl,rfl⟩,rfl⟩,.inr ⟨rfl,rfl,rfl,rfl,rfl,rfl,by simp [BCol.len,hm],?_⟩⟩
   intro x hx
   simp only [b0o,BCol.at]
   rcases hs x hx with ⟨h0,q0,e1,e2,_⟩|⟨e1,e2,e3,_⟩
   .rw [e2]
    exact l0T (Nat.le_refl _) ((if_pos ⟨rfl,hx⟩).trans e1)
   .rcases e2 with e2|e2
    .rw [e2,e3];exact d1g
    .exact absurd e2 (hu x hx)
  .rcases hs q hq with ⟨h0,q0,e1,e2,e3,_⟩|⟨e1,_,_,cs,e2,e3,e4⟩
   .exact .inl ⟨h0,q0,f q,.inr ⟨Nat.le_refl _,(if_pos ⟨rfl,hq⟩).trans e1⟩,e3,.inl rfl⟩
   .exact .inr ⟨⟨Nat.le_refl _,by omega⟩,(if_pos ⟨rfl,hq⟩).trans e1,cs,e2,e3,e4⟩
 .intro h q p h1 h2
  (try dsimp only at h2)
  split at h2
  .rename_i e
   rcases hs q e.2 with ⟨h0,q0,e1,_,_,e3⟩|⟨e1,_⟩
   .rw [e1] at h2;cases h2;exact e3
   .rw [e1] at h2;cases h2
  .cases h2
 .intro h q h' q' h0 q0 hk hk' h1 h2
  have kk:∀{x:Nat},x∈a0I [(bh,some (HB.one false (.obj (.map ka false m ks [.own n ns] bs ck)))),(n,some (.fam false (fun x=>x<m) f))]->x=bh\/x=n:=by
   intro x hx;simpa [a0I] using hx
  rcases h1 with ⟨a1,rfl,rfl⟩|⟨a1,a2⟩
  .rcases h2 with ⟨b1,rfl,rfl⟩|⟨b1,b2⟩
   .exact ⟨rfl,rfl⟩
   .exfalso
    have e:h0=bh:=by rcases kk hk with e|e<;>omega
    subst e
    (try dsimp only at b2)
    split at b2
    .rename_i e
     rcases hs q' e.2 with ⟨x0,y0,e1,_,_,e3⟩|⟨e1,_⟩
     .rw [e1] at b2;cases b2;exact hbd e3
     .rw [e1] at b2;cases b2
    .cases b2
  .dsimp only at a2
   split at a2
   .rename_i e
    rcases h2 with ⟨b1,rfl,rfl⟩|⟨b1,b2⟩
    .exfalso
     have e':h0=bh:=by rcases kk hk' with e'|e'<;>omega
     subst e'
     rcases hs q e.2 with ⟨x0,y0,e1,_,_,e3⟩|⟨e1,_⟩
     .rw [e1] at a2;cases a2;exact hbd e3
     .rw [e1] at a2;cases a2
    .dsimp only at b2
     split at b2
     .rename_i e'
      have:=hi q q' _ e.2 e'.2 a2 b2
      exact ⟨e.1.trans e'.1.symm,this⟩
     .cases b2
   .cases a2
theorem w0b {H:a0v} {n bh:Nat} {ka:Bool} {ks:List Col} {bs:List Nat} {ck:Nat} (f:Nat->Blk) (hb:a0J H bh=some (.one false (.obj (.map ka false 0 ks [.svs []] bs ck)))) (hbn:bh<n):
  Relab H n (fun h q=>if h=n/\q<0 then none else none) (fun _=>0) [(bh,some (.one false (.obj (.map ka false 0 ks [.own n []] bs ck)))),(n,some (.fam false (fun x=>x<0) f))] [] 1:=
 j0R (s:=fun _=>none) (es:=0) hb hbn (by simp) rfl (fun x hx=>by omega) (fun x hx=>by omega) (fun x y p hx=>by omega)
theorem w0c {h:Nat} {ns:List Nat} {x:Nat} (hx:x<ns.length):(i0F h ns).getD x .unk≠.unk:=by rw [d0T hx];intro e;cases e
theorem j0S {α:Type} {l:List α} {i x:Nat} {v d:α} (hi:i<=l.length):(b0j i v l).getD x d=if x=i then v else l.getD x d:=by
 unfold b0j
 by_cases h:i<l.length
 .rw [if_pos h]
  simp only [List.getD,List.getElem?_set]
  by_cases e:i=x
  .subst e;simp [h]
  .rw [if_neg e,if_neg (fun e'=>e e'.symm)]
 .rw [if_neg h]
  have:i=l.length:=by omega
  subst this
  by_cases e:x=l.length
  .subst e;simp [List.getD]
  .rw [if_neg e]
   by_cases hx:x<l.length
   .simp only [List.getD,List.getElem?_append_left hx]
   .simp only [List.getD,List.getElem?_eq_none (show (l++ [v]).length<=x by simp;omega),List.getElem?_eq_none (show l.length<=x by omega)]
theorem q0i {α:Type} (i:Nat) (v:α) (l:List α):(b0j i v l).length=if i<l.length then l.length else l.length+1:=by
 unfold b0j
 split<;>simp
theorem d1h {H:a0v} {h:Nat} {b:Blk} (e:a0J H h=some (.one false b)):Ent H h 0 false b:=⟨_,e,⟨rfl,rfl⟩,rfl⟩
theorem w0d {H:a0v} {h q:Nat} {dom:Nat->Prop} {f:Nat->Blk} (e:a0J H h=some (.fam false dom f)) (hd:dom q):Ent H h q false (f q):=⟨_,e,⟨hd,rfl⟩,rfl⟩
theorem z0G {H:a0v} {n bh:Nat} {ka:Bool} {m:Nat} {ks:List Col} {bs:List Nat} {ck:Nat} {h a k i:Nat} {ns:List Nat} {b:Blk} {dom:Nat->Prop} {f:Nat->Blk}
  (hb:a0J H bh=some (.one false (.obj (.map ka false m ks [.svs (b0j i (.sl a 0 0 k) (i0F h ns))] bs ck)))) (hbn:bh<n) (hi:i<=ns.length) (hm:m=if i<ns.length then ns.length else ns.length+1) (ha:a0J H a=some (.one false b)) (hf:a0J H h=some (.fam false dom f)) (hd:∀x,x<ns.length->x≠i->dom x) (h1:bh≠h) (h2:bh≠a) (h3:a≠h):
  Relab H n (fun h' q=>if h'=n/\q<m then (if q=i then some (a,0) else some (h,q)) else none) (fun _=>0) [(bh,some (.one false (.obj (.map ka false m ks [.own n (b0j i k ns)] bs ck)))),(n,some (.fam false (fun x=>x<m) (fun x=>if x=i then b else f x)))] [h,a] 1:=by
 have hl:i<=(i0F h ns).length:=by rw [b0N];exact hi
 have lt:∀x,x<m->x≠i->x<ns.length:=by
  intro x hx hne
  rw [hm] at hx
  split at hx<;>omega
 refine j0R (s:=fun x=>if x=i then some (a,0) else some (h,x)) (es:=0) hb hbn (by simp [h1,h2]) (by rw [q0i];exact hm.symm) ?_ ?_ ?_
 .intro x hx
  left
  by_cases e:x=i
  .refine ⟨a,0,if_pos e,?_,?_,by simp⟩
   .rw [j0S hl,if_pos e,j0S hi,if_pos e]
   .rw [if_pos e];exact d1h ha
  .have hx':=lt x hx e
   refine ⟨h,x,if_neg e,?_,?_,by simp⟩
   .rw [j0S hl,if_neg e,j0S hi,if_neg e,d0T hx']
   .rw [if_neg e];exact w0d hf (hd x hx' e)
 .intro x hx
  rw [j0S hl]
  by_cases e:x=i
  .rw [if_pos e];intro e';cases e'
  .rw [if_neg e];exact w0c (lt x hx e)
 .intro x y p hx hy hp hq
  by_cases e:x=i
  .by_cases e':y=i
   .omega
   .rw [if_pos e] at hp;rw [if_neg e'] at hq;rw [<-hp] at hq;simp at hq;exact absurd hq.1.symm h3
  .by_cases e':y=i
   .rw [if_neg e] at hp;rw [if_pos e'] at hq;rw [<-hp] at hq;simp at hq;exact absurd hq.1 h3
   .rw [if_neg e] at hp;rw [if_neg e'] at hq;rw [<-hp] at hq;simp at hq;exact hq.symm
theorem n0d {H:a0v} {n bh:Nat} {ka:Bool} {m:Nat} {ks:List Col} {bs:List Nat} {ck:Nat} {h i:Nat} {ns:List Nat} {dom:Nat->Prop} {f:Nat->Blk}
  (hb:a0J H bh=some (.one false (.obj (.map ka false m ks [.svs ((i0F h ns).eraseIdx i)] bs ck)))) (hbn:bh<n) (hi:i<ns.length) (hm:m+1=ns.length) (hf:a0J H h=some (.fam false dom f)) (hd:∀x,x<ns.length->x≠i->dom x) (h1:bh≠h):
  Relab H n (fun h' q=>if h'=n/\q<m then some (h,if q<i then q else q+1) else none) (fun _=>0) [(bh,some (.one false (.obj (.map ka false m ks [.own n (ns.eraseIdx i)] bs ck)))),(n,some (.fam false (fun x=>x<m) (fun x=>f (if x<i then x else x+1))))] [h] 1:=by
 have er:∀{α:Type} (l:List α) (x:Nat) (d:α),(l.eraseIdx i).getD x d=l.getD (if x<i then x else x+1) d:=by
  intro α l x d
  simp only [List.getD,List.getElem?_eraseIdx]
  split<;>rfl
 refine j0R (s:=fun x=>some (h,if x<i then x else x+1)) (es:=0) hb hbn (by simp [h1]) (by rw [List.length_eraseIdx,if_pos hi];omega) ?_ ?_ ?_
 .intro x hx
  left
  refine ⟨h,_,rfl,?_,w0d hf (hd _ (by split<;>omega) (by split<;>omega)),by simp⟩
  rw [er,er,d0T (by split<;>omega)]
 .intro x hx
  rw [er]
  exact w0c (by split<;>omega)
 .intro x y p hx hy hp hq
  rw [<-hp] at hq
  simp at hq
  split at hq<;>split at hq<;>omega
end Go.Sy
namespace Go.Sy
open Go.RowKit
theorem d1i (l:List Int) (x:Int):b0v l x<=l.length:=by
 induction l with
 |nil=>simp [b0v]
 |cons a l ih=>
  simp only [b0v]
  cases decide (a=x)<;>simp
  exact ih
theorem c0l {l:List Int} {s:Int}:b0v l s<l.length↔s∈l:=by
 induction l with
 |nil=>simp [b0v]
 |cons x l ih=>
  simp only [b0v]
  by_cases h:x=s
  .rw [decide_eq_true h];simp [h]
  .rw [decide_eq_false h]
   have:¬s=x:=fun e=>h e.symm
   simp [this,ih]
theorem s0b {l:List Int} {s:Int} (h:b0v l s<l.length):l[b0v l s]?=some s:=by
 induction l with
 |nil=>simp [b0v] at h
 |cons x l ih=>
  simp only [b0v] at h⊢
  by_cases e:x=s
  .rw [decide_eq_true e];simp [e]
  .rw [decide_eq_false e] at h⊢
   simp only [cond_false,List.length_cons,List.getElem?_cons_succ] at h⊢
   exact ih (by omega)
theorem d1j {l:List Int} (hd:l.Nodup) {i:Nat} {s:Int} (h:l[i]?=some s):b0v l s=i:=by
 have hm:s∈l:=List.mem_iff_getElem?.2 ⟨i,h⟩
 have h2:=s0b (c0l.2 hm)
 obtain ⟨_,e1⟩:=List.getElem?_eq_some_iff.1 h
 obtain ⟨_,e2⟩:=List.getElem?_eq_some_iff.1 h2
 exact (List.getElem_inj hd).1 (e2.trans e1.symm)
theorem n0e {l:List Int} {s:Int}:b0j (b0v l s) s l=if b0v l s<l.length then l else l++ [s]:=by
 unfold b0j
 split
 .rename_i h
  have:=s0b h
  refine List.ext_getElem? fun i=> ?_
  rw [List.getElem?_set]
  by_cases e:b0v l s=i
  .subst e;rw [if_pos rfl,if_pos h,this]
  .rw [if_neg e]
 .rfl
theorem f1F {l:List Int} (hd:l.Nodup) {t x:Int}:x∈l.eraseIdx (b0v l t)↔x∈l/\x≠t:=by
 induction l with
 |nil=>simp
 |cons a l ih=>
  obtain ⟨h1,h2⟩:=List.nodup_cons.1 hd
  simp only [b0v]
  by_cases e:a=t
  .subst e
   rw [decide_eq_true rfl]
   simp only [cond_true,List.eraseIdx_cons_zero,List.mem_cons]
   exact ⟨fun h=>⟨.inr h,fun e=>h1 (e▸h)⟩,fun h=>h.1.resolve_left h.2⟩
  .rw [decide_eq_false e]
   simp only [cond_false,List.eraseIdx_cons_succ,List.mem_cons,ih h2]
   refine ⟨?_,?_⟩
   .rintro (rfl|⟨h3,h4⟩)
    .exact ⟨.inl rfl,e⟩
    .exact ⟨.inr h3,h4⟩
   .rintro ⟨rfl|h3,h4⟩
    .exact .inl rfl
    .exact .inr ⟨h3,h4⟩
theorem d1k {l:List Int} (hd:l.Nodup) (i:Nat):(l.eraseIdx i).Nodup:=hd.sublist (List.eraseIdx_sublist l i)
theorem l0U (l:List Int):(sortI l).Perm l:=List.mergeSort_perm l _
theorem f0T (l:List Int):(sortI l).Pairwise (fun a b=>a<=b):=by
 have h:=List.pairwise_mergeSort (le:=fun x y:Int=>decide (x<=y)) (fun a b c h1 h2=>by simp only [decide_eq_true_eq] at*;omega) (fun a b=>by simp only [Bool.or_eq_true,decide_eq_true_eq];omega) l
 exact h.imp (fun {a b} h=>by simpa using h)
theorem q0j {l m:List Int} (h:l.Perm m):sortI l=sortI m:=
 List.Perm.eq_of_pairwise (le:=fun a b:Int=>a<=b) (fun a b _ _ h1 h2=>by omega) (f0T l) (f0T m) ((l0U l).trans (h.trans (l0U m).symm))
theorem z0H {α:Type} (l:List α) (i x:Nat) (d:α):(l.eraseIdx i).getD x d=l.getD (if x<i then x else x+1) d:=by
 simp only [List.getD,List.getElem?_eraseIdx]
 split<;>rfl
theorem y0I {H:a0v} {n bh:Nat} {ka:Bool} {m:Nat} {ks:List Col} {bs:List Nat} {ck:Nat} {h i:Nat} {ns:List Nat} {dom:Nat->Prop} {f:Nat->Blk}
  (hb:a0J H bh=some (.one false (.obj (.map ka false m ks [d0q i (.own h ns)] bs ck)))) (hbn:bh<n) (hi:i<ns.length) (hm:m+1=ns.length) (hf:a0J H h=some (.fam false dom f)) (hd:∀x,x<ns.length->x≠i->dom x) (h1:bh≠h):
  Relab H n (fun h' q=>if h'=n/\q<m then some (h,if q<i then q else q+1) else none) (fun _=>0) [(bh,some (.one false (.obj (.map ka false m ks [.own n (ns.eraseIdx i)] bs ck)))),(n,some (.fam false (fun x=>x<m) (fun x=>f (if x<i then x else x+1))))] [h] 1:=by
 have e:d0q i (.own h ns)= .svs ((i0F h ns).eraseIdx i):=if_pos hi
 rw [e] at hb
 exact n0d hb hbn hi hm hf hd h1
end Go.Sy
namespace Go.Sy
open Go.RowKit Go.ChangeShapes Go.WideShapes Go.Deep
inductive CK where
 |int (k:IntKind)
 |bool
 |str
def c0U:CK->Value->Prop
 | .int k,v=>∃n,v= .int k n/\(Lit.int k n).wf=true
 | .bool,v=>∃b,v= .bool b
 | .str,v=>∃s,v= .string s/\s.size<=maxLen
def AllOk:List CK->List Value->Prop
 | [],vs=>vs= []
 |c::cs,vs=>∃v r,vs=v::r/\c0U c v/\AllOk cs r
theorem AllOk.length:∀(ks:List CK) (vs:List Value),AllOk ks vs->vs.length=ks.length
 | [],vs,h=>by simp only [AllOk] at h;simp [h]
 |c::cs,vs,h=>by simp only [AllOk] at h;obtain ⟨v,r,rfl,_,h⟩:=h;simp [AllOk.length cs r h]
theorem AllOk.append:∀(a b:List CK) (vs:List Value),AllOk a (vs.take a.length)->AllOk b (vs.drop a.length)->AllOk (a++b) vs
 | [],b,vs,_,h=>by simpa using h
 |c::a,b,vs,h1,h2=>by
  cases vs with
  |nil=>simp only [List.length_cons,List.take_nil,AllOk] at h1;obtain ⟨v,r,e,_⟩:=h1;cases e
  |cons v vs=>
   simp only [List.length_cons,List.take_succ_cons,AllOk] at h1
   obtain ⟨v',r,e,hc,hr⟩:=h1
   simp only [List.cons.injEq] at e
   obtain ⟨rfl,rfl⟩:=e
   simp only [List.cons_append,AllOk]
   exact ⟨v,vs,rfl,hc,AllOk.append a b vs hr (by simpa using h2)⟩
mutual
def h0L (P:Program):Nat->TypeId->Option (List CK)
 |0,_=>none
 |n+1,t=>match P.underlying t with
  |some .bool=>some [.bool]
  |some (.int k)=>some [.int k]
  |some .string=>some [.str]
  |some (.struct fs)=>match f0U P n 0 fs.toList with
   |some ks=>bif Nat.beq (P.cellsOf t) ks.length then some ks else none
   |none=>none
  |_=>none
def f0U (P:Program):Nat->Nat->List Field->Option (List CK)
 |0,_,_=>none
 |_+1,_,[]=>some []
 |n+1,o,f::r=>bif Nat.beq f.offset o then (match h0L P n f.type with
  |some a=>bif Nat.beq (P.cellsOf f.type) a.length then (match f0U P n (o+a.length) r with|some b=>some (a++b)|none=>none) else none
  |none=>none) else none
end
section
variable {H:Type} {enc:TypeId×Value->H} {P:Program} {w:World} {base:Nat} {spare:Nat->Bool} {held:Bool}
theorem k0V:∀m:Nat,(∀(t:TypeId) (ks:List CK) (fuel:Nat) (cs:List Value) (x:DataW H×List MemPlace),h0L P m t=some ks->DataW.trod enc P w base spare held fuel t cs=some x->AllOk ks cs)/\
  (∀(o:Nat) (fs:List Field) (ks:List CK) (cs:List Value) (n:Nat),f0U P m o fs=some ks->cs.length=o+ks.length->(∀f∈fs,∃y,DataW.trod enc P w base spare held n f.type ((cs.drop f.offset).take (P.cellsOf f.type))=some y)->AllOk ks (cs.drop o)):=by
 intro m
 induction m with
 |zero=>exact ⟨fun t ks fuel cs x h=>by simp [h0L] at h,fun o fs ks cs n h=>by simp [f0U] at h⟩
 |succ m ih=>
  refine ⟨?_,?_⟩
  .intro t ks fuel cs x h ht
   simp only [h0L] at h
   split at h
   .rename_i hu;simp only [Option.some.injEq] at h;subst h
    obtain ⟨b,rfl,_⟩:=DataW.trod_bool hu ht
    simp only [AllOk,c0U];exact ⟨_,_,rfl,⟨b,rfl⟩,rfl⟩
   .rename_i k hu;simp only [Option.some.injEq] at h;subst h
    obtain ⟨n,rfl,_,hw⟩:=DataW.trod_int hu ht
    simp only [AllOk,c0U];exact ⟨_,_,rfl,⟨n,rfl,hw⟩,rfl⟩
   .rename_i hu;simp only [Option.some.injEq] at h;subst h
    obtain ⟨s,rfl,_,hw⟩:=DataW.trod_string hu ht
    simp only [AllOk,c0U];exact ⟨_,_,rfl,⟨s,rfl,hw⟩,rfl⟩
   .rename_i fs hu
    split at h
    .rename_i ks' hks
     cases hb:Nat.beq (P.cellsOf t) ks'.length with
     |false=>rw [hb] at h;simp at h
     |true=>
      rw [hb] at h
      simp only [cond_true,Option.some.injEq] at h
      subst h
      obtain ⟨xs,n,_,_,hlen,hxl,hf⟩:=DataW.trod_struct hu ht
      have:=ih.2 0 fs.toList ks' cs n hks (by rw [hlen,Nat.eq_of_beq_eq_true hb];simp) (by
       intro f hf'
       obtain ⟨i,hi,rfl⟩:=List.getElem_of_mem hf'
       have hi':i<fs.size:=by simpa using hi
       have h1:=hf i fs[i] (by simp [hi'])
       have h2:xs[i]?=some (xs[i]'(by omega)):=List.getElem?_eq_getElem (by omega)
       refine ⟨xs[i]'(by omega),?_⟩
       have:fs.toList[i]=fs[i]:=by simp
       rw [this,h1,h2])
      simpa using this
    .cases h
   .cases h
  .intro o fs ks cs n h hlen hall
   cases fs with
   |nil=>
    simp only [f0U,Option.some.injEq] at h
    subst h
    simp only [AllOk]
    exact List.drop_eq_nil_of_le (by simp at hlen;omega)
   |cons f r=>
    simp only [f0U] at h
    cases ho:Nat.beq f.offset o with
    |false=>rw [ho] at h;simp at h
    |true=>
     rw [ho] at h
     simp only [cond_true] at h
     split at h
     .rename_i a ha
      cases hb:Nat.beq (P.cellsOf f.type) a.length with
      |false=>rw [hb] at h;simp at h
      |true=>
       rw [hb] at h
       simp only [cond_true] at h
       split at h
       .rename_i b hbb
        simp only [Option.some.injEq] at h
        subst h
        have eo:=Nat.eq_of_beq_eq_true ho
        have ea:=Nat.eq_of_beq_eq_true hb
        obtain ⟨y,hy⟩:=hall f (by simp)
        have h1:=ih.1 f.type a n _ y ha hy
        rw [eo,ea] at h1
        refine AllOk.append a b (cs.drop o) h1 ?_
        rw [List.drop_drop]
        exact ih.2 (o+a.length) r b cs n hbb (by simp at hlen;omega) (fun f' hf'=>hall f' (by simp [hf']))
       .cases h
     .cases h
theorem j0T {m:Nat} {t:TypeId} {ks:List CK} {fuel:Nat} {cs:List Value} {x:DataW H×List MemPlace} (h:h0L P m t=some ks) (ht:DataW.trod enc P w base spare held fuel t cs=some x):AllOk ks cs:=(k0V m).1 t ks fuel cs x h ht
theorem b1J {n:Nat} {e t:TypeId} {r:Reach} {b0:Nat} {v:Value} (ht:P.underlying t=some (.array n e)) (h:Value.okWide P w r b0 t v):∃cs,v= .agg cs/\cs.size=P.cellsOf t:=by
 simp only [Value.okWide,ht] at h
 obtain ⟨cs,h1,h2,_⟩:=h
 exact ⟨cs,h1,h2⟩
theorem o0O {c:CK}:∀(n:Nat) (cs:List Value),cs.length=n->(∀v∈cs,c0U c v)->AllOk (List.replicate n c) cs
 |0,cs,hl,_=>by simp only [List.replicate_zero,AllOk];exact List.eq_nil_of_length_eq_zero hl
 |n+1,[],hl,_=>by simp at hl
 |n+1,v::cs,hl,h=>by
  simp only [List.replicate_succ,AllOk]
  exact ⟨v,cs,rfl,h v (by simp),o0O n cs (by simpa using hl) (fun x hx=>h x (by simp [hx]))⟩
theorem h1F {m n:Nat} {t e:TypeId} {c:CK} {fuel:Nat} {cs:List Value} {x:DataW H×List MemPlace} (hu:P.underlying t=some (.array n e)) (he:h0L P m e=some [c]) (h1:P.cellsOf e=1) (hn:P.cellsOf t=n) (ht:DataW.trod enc P w base spare held fuel t cs=some x):AllOk (List.replicate n c) cs:=by
 obtain ⟨xs,k,_,_,hlen,hxl,hf⟩:=DataW.trod_array hu ht
 rw [hn] at hlen
 refine o0O n cs hlen ?_
 intro v hv
 obtain ⟨i,hi,rfl⟩:=List.mem_iff_getElem.1 hv
 have hh:=hf i (by omega)
 have hxi:i<xs.length:=by omega
 rw [h1,Nat.mul_one,List.getElem?_eq_getElem hxi] at hh
 have:=j0T he hh
 rw [List.drop_eq_getElem_cons hi] at this
 simp only [List.take_succ_cons,List.take_zero,AllOk] at this
 obtain ⟨y,ys,e1,e2,_⟩:=this
 cases e1
 exact e2
def b1K:Value->Int| .int _ n=>n|_=>0
def b1L:Value->ByteArray| .string s=>s|_=>⟨#[]⟩
def w0e:Value->Bool| .bool b=>b|_=>false
def d0A:CK->Col->Nat->Prop
 | .int k,c,n=>∃l,c= .ints k l/\l.length=n/\∀x∈l,(Lit.int k x).wf=true
 | .bool,c,n=>∃l,c= .bools l/\l.length=n
 | .str,c,n=>∃l,c= .strs l/\l.length=n/\∀x∈l,x.size<=maxLen
def b0k:List CK->List Col->Nat->Prop
 | [],l,_=>l= []
 |c::cs,l,n=>∃x r,l=x::r/\d0A c x n/\b0k cs r n
def g0X (n:Nat) (v:Nat->Value):CK->Col
 | .int k=> .ints k ((List.range n).map fun i=>b1K (v i))
 | .bool=> .bools ((List.range n).map fun i=>w0e (v i))
 | .str=> .strs ((List.range n).map fun i=>b1L (v i))
def b0p (n:Nat) (v:Nat->Nat->Value):Nat->List CK->List Col
 |_,[]=> []
 |j,c::cs=>g0X n (fun i=>v i j) c::b0p n v (j+1) cs
theorem c0Q {α:Type} (n:Nat) (f:Nat->α) (d:α) (i:Nat) (h:i<n):((List.range n).map f).getD i d=f i:=by
 simp [List.getD,h]
theorem j0U {n:Nat} {v:Nat->Value} {c:CK} {g:G} {i:Nat} (hi:i<n) (h:c0U c (v i)):Rv g ((g0X n v c).at i) (v i):=by
 cases c with
 |int k=>obtain ⟨m,e,_⟩:=h;simp only [g0X,Col.at,c0Q n _ _ i hi,e,b1K,Rv]
 |bool=>obtain ⟨b,e⟩:=h;simp only [g0X,Col.at,c0Q n _ _ i hi,e,w0e,Rv]
 |str=>obtain ⟨s,e,_⟩:=h;simp only [g0X,Col.at,c0Q n _ _ i hi,e,b1L,Rv]
theorem g0i (n:Nat) (v:Nat->Nat->Value):∀(cs:List CK) (j k:Nat),nth (b0p n v j cs) k=(nth cs k).map (fun c=>g0X n (fun i=>v i (j+k)) c)
 | [],j,k=>by simp [b0p,nth]
 |c::cs,j,0=>by simp [b0p,nth]
 |c::cs,j,k+1=>by
  simp only [b0p,nth]
  rw [g0i n v cs (j+1) k,show j+1+k=j+(k+1) from by omega]
theorem k0W (n:Nat) (v:Nat->Nat->Value):∀(cs:List CK) (j:Nat),(b0p n v j cs).length=cs.length
 | [],j=>rfl
 |c::cs,j=>by simp [b0p,k0W n v cs (j+1)]
theorem e0i (n:Nat) (v:Nat->Nat->Value):∀(cs:List CK) (j:Nat),(∀i,i<n->∀k c,nth cs k=some c->c0U c (v i (j+k)))->b0k cs (b0p n v j cs) n
 | [],j,_=>by simp [b0p,b0k]
 |c::cs,j,h=>by
  simp only [b0p,b0k]
  refine ⟨_,_,rfl,?_,e0i n v cs (j+1) (fun i hi k c' hc=>by rw [show j+1+k=j+(k+1) from by omega];exact h i hi (k+1) c' hc)⟩
  have h0:∀i,i<n->c0U c (v i j):=fun i hi=>h i hi 0 c rfl
  cases c with
  |int k=>
   refine ⟨_,rfl,by simp,?_⟩
   intro x hx
   simp only [List.mem_map,List.mem_range] at hx
   obtain ⟨i,hi,rfl⟩:=hx
   obtain ⟨m,e,hw⟩:=h0 i hi
   rw [e];exact hw
  |bool=>exact ⟨_,rfl,by simp⟩
  |str=>
   refine ⟨_,rfl,by simp,?_⟩
   intro x hx
   simp only [List.mem_map,List.mem_range] at hx
   obtain ⟨i,hi,rfl⟩:=hx
   obtain ⟨m,e,hw⟩:=h0 i hi
   rw [e];exact hw
theorem AllOk.nth:∀(ks:List CK) (vs:List Value) (j:Nat) (c:CK),AllOk ks vs->Sy.nth ks j=some c->∃v,vs[j]?=some v/\c0U c v
 | [],vs,j,c,_,h=>by simp [Sy.nth] at h
 |k::ks,vs,j,c,h,hj=>by
  simp only [AllOk] at h
  obtain ⟨v,r,rfl,h1,h2⟩:=h
  cases j with
  |zero=>simp [Sy.nth] at hj;subst hj;exact ⟨v,by simp,h1⟩
  |succ j=>simp only [Sy.nth] at hj;obtain ⟨u,h3,h4⟩:=AllOk.nth ks r j c h2 hj;exact ⟨u,by simpa using h3,h4⟩
theorem h0M {c:CK} {v:Value} (h:c0U c v):v.oneCell'=true:=by
 cases c with
 |int k=>obtain ⟨n,rfl,_⟩:=h;rfl
 |bool=>obtain ⟨b,rfl⟩:=h;rfl
 |str=>obtain ⟨b,rfl,_⟩:=h;rfl
theorem f0t:∀(ks:List CK) (cols:List Col) (n:Nat),b0k ks cols n->cols.length=ks.length/\∀c∈cols,c.len=n
 | [],cols,n,h=>by simp only [b0k] at h;subst h;simp
 |k::ks,cols,n,h=>by
  simp only [b0k] at h
  obtain ⟨x,r,rfl,h1,h2⟩:=h
  obtain ⟨i1,i2⟩:=f0t ks r n h2
  refine ⟨by simp [i1],?_⟩
  intro c hc
  rcases List.mem_cons.1 hc with rfl|hc
  .cases k with
   |int k=>obtain ⟨l,rfl,e,_⟩:=h1;exact e
   |bool=>obtain ⟨l,rfl,e⟩:=h1;exact e
   |str=>obtain ⟨l,rfl,e,_⟩:=h1;exact e
  .exact i2 c hc
theorem z0I {t e:TypeId} {m fuel:Nat} {v:Value} {ks:List CK} {x:DataW H×List MemPlace} (ht:P.underlying t=some (.slice e)) (hk:h0L P m e=some ks) (hlen:P.cellsOf e=ks.length) (h0:0<ks.length)
  (h:DataW.trod enc P w base (fun _=>true) held fuel t [v]=some x):
  ∃(n:Nat) (β:Base) (cols:List Col),n<=maxLen/\b0k ks cols n/\(∀(g:G) (h:Nat),g h 0=some β->Rv g (.sl h 0 0 n) v)/\(∀g:G,BlkAt g β true (.cols n (b0b cols)) w):=by
 have dead:∀a,v= .slice a 0 0->∃(n:Nat) (β:Base) (cols:List Col),n<=maxLen/\b0k ks cols n/\(∀(g:G) (h:Nat),g h 0=some β->Rv g (.sl h 0 0 n) v)/\(∀g:G,BlkAt g β true (.cols n (b0b cols)) w):=by
  intro a hv
  have hok:b0k ks (b0p 0 (fun _ _=>undef) 0 ks) 0:=e0i _ _ _ _ (fun i hi=>absurd hi (Nat.not_lt_zero _))
  obtain ⟨l1,l2⟩:=f0t _ _ _ hok
  refine ⟨0,⟨0,0,ks.length,0⟩,b0p 0 (fun _ _=>undef) 0 ks,Nat.zero_le _,hok,?_,?_⟩
  .intro g h _
   subst hv
   simp only [Rv]
   exact ⟨a,0,rfl,Nat.le_refl _,.inl rfl⟩
  .intro g
   refine ⟨fun h=>by simp at h,by simp [Blk.es,(d0v _).1,l1],?_,fun i hi=>by simp only [Blk.has] at hi;omega,fun i j sv hi=>by simp only [Blk.has] at hi;omega,fun i j v hi=>by simp only [Blk.has] at hi;omega,(fun h=>by cases h),trivial⟩
   intro c hc
   obtain ⟨j,hj⟩:=c0J hc
   rw [(d0v _).2 j] at hj
   cases hn:nth (b0p 0 (fun _ _=>undef) 0 ks) j with
   |none=>rw [hn] at hj;cases hj
   |some y=>rw [hn] at hj;cases hj;exact l2 y (b0w hn)
 rcases open_slice ht h with ⟨hv,_⟩|⟨a,len,cap,mm,nn,D,Pl,hv,_,hl,hm,hmm,hx,hi⟩
 .simp only [List.cons.injEq,and_true] at hv
  exact dead none hv
 .simp only [List.cons.injEq,and_true] at hv
  simp only [if_true] at hmm
  subst hmm
  have cell:∀i,i<mm->∀j c,nth ks j=some c->∃u,w.cell? (a.add (i*ks.length+j))=some u/\c0U c u:=by
   intro i him j c hj
   obtain ⟨cs',hc,ht'⟩:=hi i him
   have hall:=j0T hk ht'
   obtain ⟨u,hu,hok⟩:=AllOk.nth ks cs' j c hall hj
   rw [hlen] at hc
   obtain ⟨_,hcl,hat⟩:=World.cells?_some hc
   have hjl:=b0S hj
   refine ⟨u,?_,hok⟩
   rw [<-Go.Deep.add_add,hat j hjl]
   exact hu
  by_cases hz:mm=0
  .subst hz
   have hl0:len=0:=by omega
   subst hl0
   exact dead (some a) hv
  .subst hv
   obtain ⟨c0,hc0⟩:∃c0,nth ks 0=some c0:=by
    cases ks with
    |nil=>simp at h0
    |cons c r=>exact ⟨c,rfl⟩
   obtain ⟨u0,hu0,_⟩:=cell 0 (by omega) 0 c0 hc0
   simp only [Nat.zero_mul,Nat.add_zero] at hu0
   have ha0:a.add 0=a:=by simp [Addr.add]
   rw [ha0] at hu0
   have hspot:a.spot=none:=by
    unfold World.cell? at hu0
    split at hu0
    .split at hu0
     .cases hu0
     .rename_i hs;simpa using hs
    .cases hu0
   have hblk:a.block<w.heap.size:=by
    unfold World.cell? at hu0
    split at hu0
    .rename_i hh;exact (Array.getElem?_eq_some_iff.1 hh).1
    .cases hu0
   let β:Base:=⟨a.block,a.off,ks.length,mm⟩
   have haddr:∀i j,a.add (i*ks.length+j)=β.addr i j:=by
    intro i j
    obtain ⟨b,o,s⟩:=a
    simp only at hspot
    subst hspot
    unfold Addr.add Base.addr
    split
    .rename_i h;simp only [β];congr 1;omega
    .simp only [β];congr 1;omega
   let val:Nat->Nat->Value:=fun i j=>(w.cell? (β.addr i j)).getD undef
   have hcols:b0k ks (b0p len val 0 ks) len:=by
    refine e0i len val ks 0 (fun i hi' k c hc=> ?_)
    obtain ⟨u,hu,hok⟩:=cell i (by omega) k c hc
    rw [haddr] at hu
    simp only [val,Nat.zero_add,hu,Option.getD_some];exact hok
   obtain ⟨l1,l2⟩:=f0t _ _ _ hcols
   obtain ⟨u1,u2⟩:=d0v (b0p len val 0 ks)
   refine ⟨len,β,b0p len val 0 ks,Nat.le_trans hl hm,hcols,?_,?_⟩
   .intro g h hg
    simp only [Rv]
    refine ⟨some a,mm,rfl,hl,.inr ⟨β,hg,?_,by simp [β]⟩⟩
    have:=haddr 0 0
    simp only [Nat.zero_mul,Nat.add_zero,ha0] at this
    rw [this]
   .intro g
    refine ⟨fun _=>hblk,by simp [Blk.es,u1,l1,β],?_,fun i hi=>by simp only [Blk.has] at hi;simp only [β];omega,?_,?_,(fun h=>by cases h),trivial⟩
    .intro c hc
     obtain ⟨j,hj⟩:=c0J hc
     rw [u2 j] at hj
     cases hn:nth (b0p len val 0 ks) j with
     |none=>rw [hn] at hj;cases hj
     |some y=>rw [hn] at hj;cases hj;exact l2 y (b0w hn)
    .intro i j sv hi' hj
     simp only [Blk.has] at hi'
     simp only [Blk.at,u2 j,g0i] at hj
     cases hc:nth ks j with
     |none=>rw [hc] at hj;simp at hj
     |some c=>
      rw [hc] at hj
      simp only [Option.map_some,Option.some.injEq,Nat.zero_add] at hj
      subst hj
      obtain ⟨u,hu,hok⟩:=cell i (by omega) j c hc
      rw [haddr] at hu
      have hval:val i j=u:=by simp only [val,hu,Option.getD_some]
      refine ⟨u,hu,?_⟩
      rw [<-hval]
      exact j0U (v:=fun i=>val i j) hi' (by rw [hval];exact hok)
    .intro i j v' hi' hj hv'
     simp only [Blk.has] at hi'
     obtain ⟨c,hc⟩:∃c,nth ks j=some c:=⟨ks[j],by rw [b0n];exact List.getElem?_eq_getElem hj⟩
     obtain ⟨u,hu,hok⟩:=cell i (by omega) j c hc
     rw [haddr,hv'] at hu
     cases hu
     exact h0M hok
theorem z0J {g:G} {w:World}:∀(Hp:a0v),(∀p∈Hp,∃b β,p.2=some (.one true b)/\g p.1 0=some β/\BlkAt g β true b w)->Holds g Hp w/\∀h q ro b,Ent Hp h q ro b->ro=true:=by
 intro Hp hall
 have key:∀h q ro b,Ent Hp h q ro b->ro=true/\∃β,g h q=some β/\BlkAt g β ro b w:=by
  intro h q ro b he
  obtain ⟨hb,m1,m2⟩:=h0E Hp h q ro b he
  have:∀(L:a0v),(∀p∈L,∃b β,p.2=some (.one true b)/\g p.1 0=some β/\BlkAt g β true b w)->Ent L h q ro b->ro=true/\∃β,g h q=some β/\BlkAt g β ro b w:=by
   intro L
   induction L with
   |nil=>intro _ he;obtain ⟨hb,e,_⟩:=he;simp [a0J] at e
   |cons p L ih=>
    intro hL he
    obtain ⟨k,o⟩:=p
    rcases a0E.1 he with ⟨rfl,hb',e1,e2,e3⟩|⟨_,he⟩
    .obtain ⟨b',β,f1,f2,f3⟩:=hL (k,o) (by simp)
     simp only at f1 f2
     rw [f1] at e1;cases e1
     simp only [HB.is] at e2
     obtain ⟨rfl,rfl⟩:=e2
     simp only [HB.ro] at e3
     subst e3
     exact ⟨rfl,β,f2,f3⟩
    .exact ih (fun p hp=>hL p (by simp [hp])) he
  exact this Hp hall he
 refine ⟨⟨fun h q ro b he=>(key h q ro b he).2,?_⟩,fun h q ro b he=>(key h q ro b he).1⟩
 intro h q h' q' b ro' b' β β' _ he
 have:=(key h q false b he).1
 cases this
end
end Go.Sy
namespace Go.Sy
open Go.RowKit Go.ChangeShapes Go.WideShapes Go.Deep
theorem h1G {α:Type} {l:List α} {n:Nat} (h:l.length=n+1):∃a r,l=a::r/\r.length=n:=by
 cases l with
 |nil=>cases h
 |cons a r=>exact ⟨a,r,rfl,by simpa using h⟩
theorem h1Y {α:Type} {l:List α} (h:l.length=0):l= []:=List.length_eq_zero_iff.1 h
theorem f1G {g:G} {l:List SV} {vs:Array Value} (h:Rvs g l vs.toList):Rv g (.agg l) (.agg vs):=by simp only [Rv];exact ⟨_,rfl,h⟩
theorem d1l {g:G} {x:SV} {l:List SV} {v:Value} {vs:List Value} (h:Rv g x v) (k:Rvs g l vs):Rvs g (x::l) (v::vs):=by simp only [Rvs];exact ⟨_,_,rfl,h,k⟩
theorem f1f {g:G}:Rvs g [] []:=by simp only [Rvs]
mutual
def d1m {H:Type}:DataW H->Option (List Value)
 | .lit l=>some [l.value]
 | .agg ds=>w0f ds
 |_=>none
def w0f {H:Type}:List (DataW H)->Option (List Value)
 | []=>some []
 |d::ds=>match d1m d,w0f ds with
  |some a,some b=>some (a++b)
  |_,_=>none
end
section
variable {H:Type} {enc:TypeId×Value->H} {P:Program} {w:World} {base:Nat} {spare:Nat->Bool} {held:Bool}
theorem q0k (s:ByteArray):(⟨s.data.toList.toArray⟩:ByteArray)=s:=by cases s;simp
theorem n0f:∀m:Nat,(∀(t:TypeId) (ks:List CK) (fuel:Nat) (cs:List Value) (x:DataW H×List MemPlace),h0L P m t=some ks->DataW.trod enc P w base spare held fuel t cs=some x->d1m x.1=some cs)/\
  (∀(o:Nat) (fs:List Field) (ks:List CK) (cs:List Value) (n:Nat) (xs:List (DataW H×List MemPlace)),f0U P m o fs=some ks->cs.length=o+ks.length->xs.length=fs.length->(∀(i:Nat) f,fs[i]?=some f->DataW.trod enc P w base spare held n f.type ((cs.drop f.offset).take (P.cellsOf f.type))=xs[i]?)->w0f (xs.map (·.1))=some (cs.drop o)):=by
 intro m
 induction m with
 |zero=>exact ⟨fun t ks fuel cs x h=>by simp [h0L] at h,fun o fs ks cs n xs h=>by simp [f0U] at h⟩
 |succ m ih=>
  refine ⟨?_,?_⟩
  .intro t ks fuel cs x h ht
   simp only [h0L] at h
   split at h
   .rename_i hu
    obtain ⟨b,rfl,rfl⟩:=DataW.trod_bool hu ht
    rfl
   .rename_i k hu
    obtain ⟨n,rfl,rfl,hw⟩:=DataW.trod_int hu ht
    rfl
   .rename_i hu
    obtain ⟨s,rfl,rfl,hw⟩:=DataW.trod_string hu ht
    simp only [d1m,Lit.value,q0k]
   .rename_i fs hu
    split at h
    .rename_i ks' hks
     cases hb:Nat.beq (P.cellsOf t) ks'.length with
     |false=>rw [hb] at h;simp at h
     |true=>
      rw [hb] at h
      simp only [cond_true,Option.some.injEq] at h
      subst h
      obtain ⟨xs,n,_,rfl,hlen,hxl,hf⟩:=DataW.trod_struct hu ht
      have:=ih.2 0 fs.toList ks' cs n xs hks (by rw [hlen,Nat.eq_of_beq_eq_true hb];simp) (by simpa using hxl) (by
       intro i f hf'
       exact hf i f (by simpa using hf'))
      simpa [d1m] using this
    .cases h
   .cases h
  .intro o fs ks cs n xs h hlen hxl hall
   cases fs with
   |nil=>
    simp only [f0U,Option.some.injEq] at h
    subst h
    cases xs with
    |nil=>
     simp only [List.map_nil,w0f,Option.some.injEq]
     exact (List.drop_eq_nil_of_le (by simp at hlen;omega)).symm
    |cons x xs=>simp at hxl
   |cons f r=>
    cases xs with
    |nil=>simp at hxl
    |cons x xs=>
     simp only [f0U] at h
     cases ho:Nat.beq f.offset o with
     |false=>rw [ho] at h;simp at h
     |true=>
      rw [ho] at h
      simp only [cond_true] at h
      split at h
      .rename_i a ha
       cases hb:Nat.beq (P.cellsOf f.type) a.length with
       |false=>rw [hb] at h;simp at h
       |true=>
        rw [hb] at h
        simp only [cond_true] at h
        split at h
        .rename_i b hbb
         simp only [Option.some.injEq] at h
         subst h
         have eo:=Nat.eq_of_beq_eq_true ho
         have ea:=Nat.eq_of_beq_eq_true hb
         have h0:=hall 0 f rfl
         simp only [List.getElem?_cons_zero] at h0
         have h1:=ih.1 f.type a n _ x ha h0
         have h2:=ih.2 (o+a.length) r b cs n xs hbb (by simp at hlen;omega) (by simpa using hxl) (fun i f' hf'=>by
          have:=hall (i+1) f' (by simpa using hf')
          simpa using this)
         simp only [List.map_cons,w0f,h1,h2,Option.some.injEq,eo,ea]
         rw [<-List.drop_drop,List.take_append_drop]
        .cases h
      .cases h
theorem z0K {m:Nat} {t:TypeId} {ks:List CK} {fuel:Nat} {cs:List Value} {x:DataW H×List MemPlace} (h:h0L P m t=some ks) (ht:DataW.trod enc P w base spare held fuel t cs=some x):d1m x.1=some cs:=(n0f m).1 t ks fuel cs x h ht
theorem o0P {β:Base} {n:Nat} {ks:List CK} {val:Nat->Nat->Value} (hes:β.es=ks.length) (hcap:n<=β.cap) (hlt:0<β.cap->β.blk<w.heap.size) (cell:∀i,i<n->∀j c,nth ks j=some c->w.cell? (β.addr i j)=some (val i j)/\c0U c (val i j)) (g:G):
  BlkAt g β true (.cols n (b0b (b0p n val 0 ks))) w:=by
 have hcols:b0k ks (b0p n val 0 ks) n:=by
  refine e0i n val ks 0 (fun i hi' k c hc=> ?_)
  rw [Nat.zero_add];exact (cell i hi' k c hc).2
 obtain ⟨l1,l2⟩:=f0t _ _ _ hcols
 obtain ⟨u1,u2⟩:=d0v (b0p n val 0 ks)
 refine ⟨hlt,by simp [Blk.es,u1,l1,hes],?_,fun i hi=>by simp only [Blk.has] at hi;omega,?_,?_,(fun h=>by cases h),trivial⟩
 .intro c hc
  obtain ⟨j,hj⟩:=c0J hc
  rw [u2 j] at hj
  cases hn:nth (b0p n val 0 ks) j with
  |none=>rw [hn] at hj;cases hj
  |some y=>rw [hn] at hj;cases hj;exact l2 y (b0w hn)
 .intro i j sv hi' hj
  simp only [Blk.has] at hi'
  simp only [Blk.at,u2 j,g0i] at hj
  cases hc:nth ks j with
  |none=>rw [hc] at hj;simp at hj
  |some c=>
   rw [hc] at hj
   simp only [Option.map_some,Option.some.injEq,Nat.zero_add] at hj
   subst hj
   obtain ⟨hu,hok⟩:=cell i hi' j c hc
   exact ⟨_,hu,j0U (v:=fun i=>val i j) hi' hok⟩
 .intro i j v' hi' hj hv'
  simp only [Blk.has] at hi'
  obtain ⟨c,hc⟩:∃c,nth ks j=some c:=⟨ks[j]'(by omega),by rw [b0n];exact List.getElem?_eq_getElem (by omega)⟩
  obtain ⟨hu,hok⟩:=cell i hi' j c hc
  rw [hv'] at hu
  cases hu
  exact h0M hok
def d1n {H:Type} (ds:List (DataW H)) (i j:Nat):Value:=(((ds[i]?).bind d1m).getD []).getD j undef
theorem f0u {nm:String} {v:Nat} {t e:TypeId} {m fuel n:Nat} {cs:Array Value} {ks:List CK} {ds:List (DataW H)} {p:List MemPlace} {cols:List Col} (hg:P.globalNamed nm=some v) (hv:w.var? P nm=some cs)
  (ht:P.underlying t=some (.array n e)) (hk:h0L P m e=some ks) (hlen:P.cellsOf e=ks.length) (hs:P.cellsOf t=n*ks.length) (h0:0<n*ks.length)
  (h:DataW.trod enc P w base spare held fuel t cs.toList=some (.agg ds,p)) (hc:b0p n (d1n ds) 0 ks=cols) (g:G):BlkAt g ⟨v,0,ks.length,n⟩ true (.cols n (b0b cols)) w:=by
 obtain ⟨xs,m1,_,hx,hl,hxl,hel⟩:=DataW.trod_array ht h
 simp only [Prod.mk.injEq,DataW.agg.injEq] at hx
 have hcl:cs.size=n*ks.length:=by simpa [hs] using hl
 have hcell:=World.var?_cell (w:=w) hg hv
 have hblk:v<w.heap.size:=by
  have:=hcell 0
  rw [Array.getElem?_eq_getElem (by omega)] at this
  unfold World.cell? at this
  split at this
  .rename_i hh;exact (Array.getElem?_eq_some_iff.1 hh).1
  .cases this
 have key:∀i,i<n->∃y,xs[i]?=some y/\d1m y.1=some ((cs.toList.drop (i*ks.length)).take ks.length)/\AllOk ks ((cs.toList.drop (i*ks.length)).take ks.length):=by
  intro i hi
  have h1:=hel i hi
  have h2:xs[i]?=some (xs[i]'(by omega)):=List.getElem?_eq_getElem (by omega)
  rw [h2,hlen] at h1
  exact ⟨_,h2,z0K hk h1,j0T hk h1⟩
 subst hc
 refine o0P rfl (Nat.le_refl _) (fun _=>hblk) ?_ g
 intro i hi j c hj
 obtain ⟨y,e1,e2,e3⟩:=key i hi
 obtain ⟨u,hu,hok⟩:=AllOk.nth ks _ j c e3 hj
 have hjl:=b0S hj
 have hd:d1n ds i j=u:=by
  unfold d1n
  rw [hx.1,List.getElem?_map,e1]
  simp only [Option.map_some,Option.bind_some,e2,Option.getD_some,List.getD,hu]
 rw [hd]
 refine ⟨?_,hok⟩
 have:Base.addr ⟨v,0,ks.length,n⟩ i j=⟨v,i*ks.length+j,none⟩:=by simp [Base.addr]
 rw [this,hcell]
 rw [List.getElem?_take,if_pos hjl,List.getElem?_drop] at hu
 simpa using hu
theorem o0Q {nm name:String} {v t tid fuel:Nat} {ms:Array (String×TypeId)} {cs:Array Value} {d:DataW H} {p:List MemPlace} (hg:P.globalNamed nm=some v) (hv:w.var? P nm=some cs)
  (ht:P.underlying t=some (.interface ms)) (hrow:∀u,P.typeName? 3 u=some name->u=tid)
  (h:DataW.trod enc P w base spare false fuel t cs.toList=some (.iface name d,p)) (g:G):BlkAt g ⟨v,0,1,1⟩ true (.cells [.iface tid .unk]) w:=by
 obtain ⟨_,u,x,hcs,hn,_⟩:=iface_of_trod ht h
 obtain rfl:=hrow u hn
 have hcell:=World.var?_cell (w:=w) hg hv
 have h0:w.cell? ⟨v,0,none⟩=some (.iface u x):=by
  rw [hcell,<-Array.getElem?_toList,hcs];rfl
 have hblk:v<w.heap.size:=by
  unfold World.cell? at h0
  split at h0
  .rename_i hh;exact (Array.getElem?_eq_some_iff.1 hh).1
  .cases h0
 refine ⟨fun _=>hblk,rfl,trivial,?_,?_,?_,(fun h=>by cases h),trivial⟩
 .intro i hi
  simp only [Blk.has] at hi
  subst hi;exact Nat.one_pos
 .intro i j sv hi hj
  simp only [Blk.has] at hi
  subst hi
  cases j with
  |zero=>
   simp only [Blk.at,nth,Option.some.injEq] at hj
   subst hj
   exact ⟨_,h0,by simp only [Rv];exact ⟨x,rfl,trivial⟩⟩
  |succ j=>simp [Blk.at,nth] at hj
 .intro i j v' hi hj hv'
  simp only [Blk.has] at hi
  subst hi
  have:j=0:=by simpa using hj
  subst this
  have e:w.cell? ⟨v,0,none⟩=some v':=hv'
  rw [h0] at e
  cases e
  rfl
theorem h1H {g:G} {Hp:a0v} {l:n0Q} (hl:∀q,(a0T l q).isSome=true->∃β,g 0 q=some β/\BlkAt g β true (q0g l q) w) (hall:∀p∈Hp,p.1≠0/\∃b β,p.2=some (.one true b)/\g p.1 0=some β/\BlkAt g β true b w):
  Holds g ((0,some (GB l))::Hp) w/\∀h q ro b,Ent ((0,some (GB l))::Hp) h q ro b->ro=true:=by
 obtain ⟨h1,h2⟩:=z0J (g:=g) (w:=w) Hp (fun p hp=>(hall p hp).2)
 have ro:∀h q ro b,Ent ((0,some (GB l))::Hp) h q ro b->ro=true:=by
  intro h q ro b he
  rcases a0E.1 he with ⟨rfl,hb,e1,e2,e3⟩|⟨_,he⟩
  .cases e1;exact e3.symm
  .exact h2 h q ro b he
 refine ⟨⟨?_,?_⟩,ro⟩
 .intro h q r b he
  rcases a0E.1 he with ⟨rfl,hb,e1,e2,e3⟩|⟨_,he⟩
  .cases e1
   obtain ⟨d,rfl⟩:=e2
   simp only [GB,HB.ro] at e3
   subst e3
   exact hl q d
  .exact h1.blk h q r b he
 .intro h q h' q' b ro' b' β β' _ he
  have:=ro h q false b he
  cases this
end
end Go.Sy
namespace Go.Sy
open Go.RowKit
def n0g (n:Nat):List SV->List SV->Prop
 | [],[]=>True
 |a::l,b::m=>(b=a\/(a= .nsl/\b= .sl n 0 0 0))/\n0g n l m
 |_,_=>False
theorem h0N {g g1:G} {n:Nat} (hle:G.le g g1):∀(l m:List SV) (vs:List Value),n0g n l m->Rvs g l vs->Rvs g1 m vs
 | [],[],vs,_,h=>by simp only [Rvs] at h⊢;exact h
 |a::l,b::m,vs,hn,h=>by
  simp only [Rvs] at h⊢
  obtain ⟨v,vs',rfl,h1,h2⟩:=h
  refine ⟨v,vs',rfl,?_,h0N hle l m vs' hn.2 h2⟩
  rcases hn.1 with rfl|⟨rfl,rfl⟩
  .exact (Rvs.mono hle [b] [v] (by simp only [Rvs];exact ⟨v,[],rfl,h1,rfl⟩))|>fun q=>by
    simp only [Rvs] at q
    obtain ⟨v2,_,e,q2,_⟩:=q
    obtain ⟨rfl,_⟩:=List.cons.inj e
    exact q2
  .simp only [Rv] at h1⊢
   exact ⟨none,0,h1,Nat.le_refl _,.inl rfl⟩
 | [],_::_,_,hn,_=>hn.elim
 |_::_,[],_,hn,_=>hn.elim
theorem s0c {P:Program} {n:Nat} {f:FuncId} {args args1:List SV} {H:a0v} {cs:List BCol} {post:SV->a0v->Nat->Prop} (hl:g0E cs=true) (ha:∀{g g1:G},G.le g g1->∀vs,Rvs g args vs->Rvs g1 args1 vs) (h:FC P (n+1) f args1 ((n,some (.one true (.cols 0 cs)))::H) post):FC P n f args H post:=by
 have key:∀(g:G) (w:World) (vals:List Value),g.glob->g.upto n->Holds g H w->Rvs g args vals->
   ∃g1:G,g1.glob/\g1.upto (n+1)/\Holds g1 ((n,some (.one true (.cols 0 cs)))::H) w/\Rvs g1 args1 vals/\∀v w',Out g1 w (n+1) ((n,some (.one true (.cols 0 cs)))::H) post v w'->Out g w n H post v w':=by
  intro g w vals hg hu hH hv
  have hle:G.le g (g.add n ⟨0,0,cs.length,0⟩):=G.le_add _ (hu n 0 (Nat.le_refl _))
  have hns:∀h q ro b,Ent H h q ro b->h≠n:=by
   intro h q ro b he e
   obtain ⟨β,hb,_⟩:=hH.blk _ _ _ _ he
   rw [hu h q (by omega)] at hb;cases hb
  have hsame:∀h q,h≠n->(g.add n ⟨0,0,cs.length,0⟩) h q=g h q:=by
   intro h q hh
   simp only [G.add]
   rw [if_neg (fun x=>hh x.1)]
  have hent:∀h q ro b,Ent ((n,some (.one true (.cols 0 cs)))::H) h q ro b->(n=h/\q=0/\ro=true/\b= .cols 0 cs)\/(h≠n/\Ent H h q ro b):=by
   intro h q ro b he
   rcases a0E.1 he with ⟨e,hb,e1,e2,e3⟩|⟨e,he⟩
   .cases e1
    simp only [HB.is] at e2
    exact .inl ⟨e,e2.1,e3.symm,e2.2⟩
   .exact .inr ⟨fun x=>e x.symm,he⟩
  have hW:∀k,e0G (g.add n ⟨0,0,cs.length,0⟩) ((n,some (.one true (.cols 0 cs)))::H) k->e0G g H k:=by
   rintro k ⟨h,q,b,β,he,hb,hc,e⟩
   rcases hent _ _ _ _ he with ⟨_,_,e2,_⟩|⟨hh,he⟩
   .cases e2
   .exact ⟨h,q,b,β,he,by rw [<-hsame h q hh];exact hb,hc,e⟩
  refine ⟨_,?_,?_,⟨?_,?_⟩,ha hle _ hv,?_⟩
  .intro q
   obtain ⟨es,cap,e⟩:=hg q
   exact ⟨es,cap,hle _ _ _ e⟩
  .intro h q hh
   rw [hsame h q (by omega)]
   exact hu h q (by omega)
  .intro h q ro b he
   rcases hent _ _ _ _ he with ⟨rfl,rfl,rfl,rfl⟩|⟨hh,he⟩
   .exact ⟨_,v0V,fun h=>by simp at h,rfl,j0M cs hl,fun i hi=>by simp only [Blk.has] at hi;omega,fun i j sv hi=>by simp only [Blk.has] at hi;omega,fun i j v hi=>by simp only [Blk.has] at hi;omega,fun _ i j hi=>by simp at hi,trivial⟩
   .obtain ⟨β,hb,hB⟩:=hH.blk _ _ _ _ he
    exact ⟨β,hle _ _ _ hb,b0H hB hle (Nat.le_refl _) (fun _=>rfl)⟩
  .intro h q h2 q2 b ro2 b2 β β2 hne he he2 hb hb2 hc hc2
   rcases hent _ _ _ _ he with ⟨_,_,e,_⟩|⟨hh,he⟩
   .cases e
   .rcases hent _ _ _ _ he2 with ⟨rfl,rfl,_,_⟩|⟨hh2,he2⟩
    .rw [v0V] at hb2
     cases hb2
     simp at hc2
    .exact hH.sep h q h2 q2 b ro2 b2 β β2 hne he he2 (by rw [<-hsame h q hh];exact hb) (by rw [<-hsame h2 q2 hh2];exact hb2) hc hc2
  .rintro v w' ⟨sv,H',n',g',hp,hn,hu',hk,hv',hH',hrw,hfr,hown⟩
   refine ⟨sv,H',n',g',hp,by omega,hu',fun h q hh=> ?_,hv',hH',hrw,?_,?_⟩
   .rw [hk h q (by omega),hsame h q (by omega)]
   .exact ⟨hfr.os,hfr.tape,hfr.output,hfr.size,fun k hk1 hk2=>hfr.block k hk1 (fun hq=>hk2 (hW k hq))⟩
   .intro h q b β he hb hc
    rcases hown h q b β he hb hc with hh|hh
    .exact .inl (hW _ hh)
    .exact .inr hh
 rcases h with ⟨hb,h⟩|h
 .refine .inl ⟨hb,fun g w vals h1 h2 h3 h4=> ?_⟩
  obtain ⟨g1,k1,k2,k3,k4,k5⟩:=key g w vals h1 h2 h3 h4
  refine (h g1 w vals k1 k2 k3 k4).mono ?_
  rintro e w' ⟨v,rfl,ho⟩
  exact ⟨v,rfl,k5 v w' ho⟩
 .refine .inr (fun g w vals h1 h2 h3 h4=> ?_)
  obtain ⟨g1,k1,k2,k3,k4,k5⟩:=key g w vals h1 h2 h3 h4
  obtain ⟨v,w',hr,ho⟩:=h g1 w vals k1 k2 k3 k4
  exact ⟨v,w',hr,k5 v w' ho⟩
theorem f1H {P:Program} {n:Nat} {f:FuncId} {args args1:List SV} {H:a0v} {cs:List BCol} {post:SV->a0v->Nat->Prop} (hl:g0E cs=true) (ha:n0g n args args1) (h:FC P (n+1) f args1 ((n,some (.one true (.cols 0 cs)))::H) post):FC P n f args H post:=
 s0c hl (fun hle vs hv=>h0N hle _ _ _ ha hv) h
theorem w0g {P:Program} {n:Nat} {f:FuncId} {l m:List SV} {H:a0v} {cs:List BCol} {post:SV->a0v->Nat->Prop} (hl:g0E cs=true) (ha:n0g n l m) (h:FC P (n+1) f [.agg m] ((n,some (.one true (.cols 0 cs)))::H) post):FC P n f [.agg l] H post:=
 s0c hl (fun hle vs hv=>by
  simp only [Rvs,Rv] at hv⊢
  obtain ⟨v,vs',rfl,⟨ws,rfl,h3⟩,h2⟩:=hv
  exact ⟨_,vs',rfl,⟨ws,rfl,h0N hle _ _ _ ha h3⟩,h2⟩) h
theorem f1I {P:Program} {n:Nat} {f:FuncId} {args:List SV} {H H':a0v} {post:SV->a0v->Nat->Prop} (he:∀k,a0J H' k=a0J H k) (h:FC P n f args H post):FC P n f args H' post:=by
 have ent:∀{k q:Nat} {ro:Bool} {b:Blk},Ent H k q ro b↔Ent H' k q ro b:=by intro k q ro b;unfold Ent;rw [he k]
 have hH:∀{g:G} {w:World},Holds g H' w->Holds g H w:=fun hH=>⟨fun k q ro b e=>hH.blk k q ro b (ent.1 e),fun k q k' q' b ro' b' β β' hne e e'=>hH.sep k q k' q' b ro' b' β β' hne (ent.1 e) (ent.1 e')⟩
 have hW:∀{g:G} k,e0G g H k->e0G g H' k:=fun k ⟨h,q,b,β,e,r⟩=>⟨h,q,b,β,ent.1 e,r⟩
 have ho:∀{g:G} {w:World} {v:Value} {w':World},Out g w n H post v w'->Out g w n H' post v w':=by
  rintro g w v w' ⟨sv,H1,n',g',hp,hn,hu',hk,hv',hH',hrw,hfr,hown⟩
  refine ⟨sv,H1,n',g',hp,hn,hu',hk,hv',hH',hrw,⟨hfr.os,hfr.tape,hfr.output,hfr.size,fun k hk1 hk2=>hfr.block k hk1 (fun hq=>hk2 (hW k hq))⟩,?_⟩
  intro h q b β e hb hc
  rcases hown h q b β e hb hc with hh|hh
  .exact .inl (hW _ hh)
  .exact .inr hh
 rcases h with ⟨hb,h⟩|h
 .refine .inl ⟨hb,fun g w vals h1 h2 h3 h4=>(h g w vals h1 h2 (hH h3) h4).mono ?_⟩
  rintro e w' ⟨v,rfl,hq⟩
  exact ⟨v,rfl,ho hq⟩
 .refine .inr (fun g w vals h1 h2 h3 h4=> ?_)
  obtain ⟨v,w',hr,hq⟩:=h g w vals h1 h2 (hH h3) h4
  exact ⟨v,w',hr,ho hq⟩
end Go.Sy
namespace Go.Sy
open Go.RowKit
mutual
def SV.mem (μ:Nat->Nat):SV->SV
 | .ptr h q i j=> .ptr h (q+μ h) i j
 | .sl h q i n=> .sl h (q+μ h) i n
 | .map h q=> .map h (q+μ h)
 | .fn f l=> .fn f (SV.mems μ l)
 | .iface t v=> .iface t (SV.mem μ v)
 | .agg l=> .agg (SV.mems μ l)
 | .tup l=> .tup (SV.mems μ l)
 | .bool b=> .bool b
 | .int k n=> .int k n
 | .str s=> .str s
 | .nptr=> .nptr
 | .nsl=> .nsl
 | .zsl=> .zsl
 | .nmap=> .nmap
 | .nif=> .nif
 | .arr n l=> .arr n l
 | .raw v=> .raw v
 | .unk=> .unk
def SV.mems (μ:Nat->Nat):List SV->List SV
 | []=> []
 |s::r=>SV.mem μ s::SV.mems μ r
end
def BCol.mem (μ:Nat->Nat):BCol->BCol
 | .sc c=> .sc c
 | .svs l=> .svs (SV.mems μ l)
 | .own h ns=> .own h ns
 | .arrs n k r=> .arrs n k r
 | .ptrs h n=> .ptrs h n
def d0b (μ:Nat->Nat):List BCol->List BCol
 | []=> []
 |c::l=>c.mem μ::d0b μ l
def ObjS.mem (μ:Nat->Nat):ObjS->ObjS
 | .map ka ea n ks vs bs ck=> .map ka ea n ks (d0b μ vs) bs ck
 | .iter h q a b c=> .iter h (q+μ h) a b c
 | .niter=> .niter
 | .siter s p=> .siter s p
 | .bld0 T=> .bld0 T
 | .bld T h q n=> .bld T h (q+μ h) n
 | .brow T s=> .brow T s
 | .bag Q=> .bag Q
def Blk.mem (μ:Nat->Nat):Blk->Blk
 | .cells l=> .cells (SV.mems μ l)
 | .cols n l=> .cols n (d0b μ l)
 | .obj o=> .obj (o.mem μ)
def BCol.mok (μ:Nat->Nat):BCol->Bool
 | .own h _=>Nat.beq (μ h) 0
 | .ptrs h _=>Nat.beq (μ h) 0
 |_=>true
def d0B (μ:Nat->Nat):List BCol->Bool
 | []=>true
 |c::l=>c.mok μ&&d0B μ l
def Blk.mok (μ:Nat->Nat):Blk->Bool
 | .cells _=>true
 | .cols _ l=>d0B μ l
 | .obj (.map _ _ _ _ vs _ _)=>d0B μ vs
 | .obj _=>true
def Sm (μ:Nat->Nat) (g g':G):Prop:=∀h q,g h q=g' h (q+μ h)
mutual
theorem Rv.mem {μ:Nat->Nat} {g g':G} (hs:Sm μ g g'):∀(sv:SV) (v:Value),Rv g sv v↔Rv g' (SV.mem μ sv) v
 | .bool _,_=>by simp only [SV.mem,Rv]
 | .int _ _,_=>by simp only [SV.mem,Rv]
 | .str _,_=>by simp only [SV.mem,Rv]
 | .ptr h q i j,v=>by simp only [SV.mem,Rv,hs h q]
 | .nptr,_=>by simp only [SV.mem,Rv]
 | .sl h q i m,v=>by simp only [SV.mem,Rv,hs h q]
 | .nsl,_=>by simp only [SV.mem,Rv]
 | .zsl,_=>by simp only [SV.mem,Rv]
 | .map h q,v=>by simp only [SV.mem,Rv,hs h q]
 | .nmap,_=>by simp only [SV.mem,Rv]
 | .fn f l,v=>by
   simp only [SV.mem,Rv]
   constructor
   .rintro ⟨vs,e,k⟩;exact ⟨vs,e,(Rvs.mem hs l _).1 k⟩
   .rintro ⟨vs,e,k⟩;exact ⟨vs,e,(Rvs.mem hs l _).2 k⟩
 | .iface t s,v=>by
   simp only [SV.mem,Rv]
   constructor
   .rintro ⟨u,e,k⟩;exact ⟨u,e,(Rv.mem hs s _).1 k⟩
   .rintro ⟨u,e,k⟩;exact ⟨u,e,(Rv.mem hs s _).2 k⟩
 | .nif,_=>by simp only [SV.mem,Rv]
 | .agg l,v=>by
   simp only [SV.mem,Rv]
   constructor
   .rintro ⟨vs,e,k⟩;exact ⟨vs,e,(Rvs.mem hs l _).1 k⟩
   .rintro ⟨vs,e,k⟩;exact ⟨vs,e,(Rvs.mem hs l _).2 k⟩
 | .arr _ _,_=>by simp only [SV.mem,Rv]
 | .tup l,v=>by
   simp only [SV.mem,Rv]
   constructor
   .rintro ⟨vs,e,k⟩;exact ⟨vs,e,(Rvs.mem hs l _).1 k⟩
   .rintro ⟨vs,e,k⟩;exact ⟨vs,e,(Rvs.mem hs l _).2 k⟩
 | .raw _,_=>by simp only [SV.mem,Rv]
 | .unk,_=>by simp only [SV.mem,Rv]
theorem Rvs.mem {μ:Nat->Nat} {g g':G} (hs:Sm μ g g'):∀(l:List SV) (vs:List Value),Rvs g l vs↔Rvs g' (SV.mems μ l) vs
 | [],_=>by simp only [SV.mems,Rvs]
 |s::l,vs=>by
  simp only [SV.mems,Rvs]
  constructor
  .rintro ⟨v,vs',e,h1,h2⟩;exact ⟨v,vs',e,(Rv.mem hs s v).1 h1,(Rvs.mem hs l vs').1 h2⟩
  .rintro ⟨v,vs',e,h1,h2⟩;exact ⟨v,vs',e,(Rv.mem hs s v).2 h1,(Rvs.mem hs l vs').2 h2⟩
end
theorem j0V (μ:Nat->Nat):∀l:List SV,SV.mems μ l=l.map (SV.mem μ)
 | []=>rfl
 |s::l=>by simp [SV.mems,j0V μ l]
theorem f0v (μ:Nat->Nat):∀l:List BCol,d0b μ l=l.map (BCol.mem μ)
 | []=>rfl
 |s::l=>by simp [d0b,f0v μ l]
theorem g0j {μ:Nat->Nat}:∀{l:List BCol} {c:BCol},d0B μ l=true->c∈l->c.mok μ=true
 | [],s,_,h=>by cases h
 |x::l,s,hw,h=>by
  simp only [d0B,Bool.and_eq_true] at hw
  rcases List.mem_cons.1 h with rfl|h
  .exact hw.1
  .exact g0j hw.2 h
theorem BCol.mem_at (μ:Nat->Nat) (c:BCol) (i:Nat) (h:c.mok μ=true):(c.mem μ).at i=SV.mem μ (c.at i):=by
 cases c with
 |sc c=>cases c<;>rfl
 |svs l=>
  simp only [BCol.mem,BCol.at,j0V,List.getD,List.getElem?_map]
  cases l[i]?<;>rfl
 |own hh ns=>
  have e:μ hh=0:=by simpa [BCol.mok] using h
  simp only [BCol.mem,BCol.at,SV.mem,e,Nat.add_zero]
 |arrs n k r=>rfl
 |ptrs hh m=>
  have e:μ hh=0:=by simpa [BCol.mok] using h
  simp only [BCol.mem,BCol.at,SV.mem,e,Nat.add_zero]
theorem Blk.mem_at (μ:Nat->Nat) (b:Blk) (i j:Nat) (h:b.mok μ=true):(b.mem μ).at i j=(b.at i j).map (SV.mem μ):=by
 cases b with
 |cells l=>simp only [Blk.mem,Blk.at,j0V,b0n,List.getElem?_map]
 |cols n l=>
  simp only [Blk.mem,Blk.at,f0v,b0n,List.getElem?_map]
  cases hc:l[j]? with
  |none=>rfl
  |some c=>simp [BCol.mem_at μ c i (g0j h (List.mem_of_getElem? hc))]
 |obj o=>rfl
theorem Blk.mem_has (μ:Nat->Nat) (b:Blk) (i:Nat):(b.mem μ).has i↔b.has i:=by cases b<;>exact Iff.rfl
theorem Blk.mem_es (μ:Nat->Nat) (b:Blk):(b.mem μ).es=b.es:=by
 cases b<;>simp [Blk.mem,Blk.es,j0V,f0v]
theorem g0k (μ:Nat->Nat) {l:List BCol} {n:Nat}:(∀c∈d0b μ l,c.len=n)↔∀c∈l,c.len=n:=by
 have:∀c:BCol,(c.mem μ).len=c.len:=by intro c;cases c<;>simp [BCol.mem,BCol.len,j0V]
 simp [f0v,this]
theorem Blk.mem_len (μ:Nat->Nat) (b:Blk):(b.mem μ).lenOk↔b.lenOk:=by
 cases b with
 |cells l=>exact Iff.rfl
 |cols n l=>exact g0k μ
 |obj o=>exact Iff.rfl
theorem j0W (μ:Nat->Nat):∀(l:List BCol) (i:Nat),d0B μ l=true->a0K (d0b μ l) i=SV.mems μ (a0K l i)
 | [],_,_=>rfl
 |c::l,i,h=>by
  simp only [d0B,Bool.and_eq_true] at h
  simp only [d0b,a0K,SV.mems,BCol.mem_at μ c i h.1,j0W μ l i h.2]
theorem o0R (μ:Nat->Nat) (ea:Bool) (l:List BCol) (i:Nat) (h:d0B μ l=true):b0o ea (d0b μ l) i=SV.mem μ (b0o ea l i):=by
 cases ea with
 |true=>simp only [b0o,SV.mem,j0W μ l i h]
 |false=>
  match l,h with
  | [],_=>rfl
  | [c],h=>simp only [d0b,b0o];exact BCol.mem_at μ c i (g0j h (List.mem_singleton.2 rfl))
  |_::_::_,_=>rfl
theorem o0S {μ:Nat->Nat} {g g':G} (hs:Sm μ g g') {β:Base} {b:Blk} {w:World} (hm:b.mok μ=true):b.Ok g w β↔(b.mem μ).Ok g' w β:=by
 cases b with
 |cells l=>exact Iff.rfl
 |cols n l=>exact Iff.rfl
 |obj o=>
  cases o with
  |map ka ea m ks vs bs ck=>
   have hm':d0B μ vs=true:=hm
   constructor
   .rintro ⟨c1,c2,es,e,k⟩
    exact ⟨c1,c2,es,e,k.size,k.kl,(g0k μ).2 k.vl,k.bl,k.nd,k.lt,fun i x hx=>⟨(k.row i x hx).1,(k.row i x hx).2.1,by rw [o0R μ ea vs i hm'];exact (Rv.mem hs _ _).1 (k.row i x hx).2.2⟩⟩
   .rintro ⟨c1,c2,es,e,k⟩
    exact ⟨c1,c2,es,e,k.size,k.kl,(g0k μ).1 k.vl,k.bl,k.nd,k.lt,fun i x hx=>⟨(k.row i x hx).1,(k.row i x hx).2.1,(Rv.mem hs _ _).2 (by have:=(k.row i x hx).2.2;rwa [o0R μ ea vs i hm'] at this)⟩⟩
  |iter h q bs ck sn=>
   constructor
   .rintro ⟨c1,c2,β',e1,e⟩
    exact ⟨c1,c2,β',by rw [<-hs];exact e1,e⟩
   .rintro ⟨c1,c2,β',e1,e⟩
    exact ⟨c1,c2,β',by rw [hs];exact e1,e⟩
  |niter=>exact Iff.rfl
  |siter s p=>exact Iff.rfl
  |bld0 T=>exact Iff.rfl
  |bld T h q n=>
   constructor
   .rintro ⟨c1,c2,β',e1,e⟩
    exact ⟨c1,c2,β',by rw [<-hs];exact e1,e⟩
   .rintro ⟨c1,c2,β',e1,e⟩
    exact ⟨c1,c2,β',by rw [hs];exact e1,e⟩
  |brow T s=>exact Iff.rfl
  |bag Q=>exact Iff.rfl
theorem o0T {μ:Nat->Nat} {g g':G} (hs:Sm μ g g') {β:Base} {ro:Bool} {b:Blk} {w:World} (hm:b.mok μ=true):BlkAt g β ro b w↔BlkAt g' β ro (b.mem μ) w:=by
 constructor
 .intro h
  refine ⟨h.lt,by rw [h.es,Blk.mem_es],(Blk.mem_len μ b).2 h.len,fun i hi=>h.cap i ((Blk.mem_has μ b i).1 hi),?_,fun i j v hi=>h.one i j v ((Blk.mem_has μ b i).1 hi),h.rw,(o0S hs hm).1 h.obj⟩
  intro i j sv hi hj
  rw [Blk.mem_at μ b i j hm] at hj
  cases hb:b.at i j with
  |none=>rw [hb] at hj;cases hj
  |some s=>
   rw [hb] at hj
   simp only [Option.map_some,Option.some.injEq] at hj
   subst hj
   obtain ⟨v,h1,h2⟩:=h.cell i j s ((Blk.mem_has μ b i).1 hi) hb
   exact ⟨v,h1,(Rv.mem hs s v).1 h2⟩
 .intro h
  refine ⟨h.lt,by rw [h.es,Blk.mem_es],(Blk.mem_len μ b).1 h.len,fun i hi=>h.cap i ((Blk.mem_has μ b i).2 hi),?_,fun i j v hi=>h.one i j v ((Blk.mem_has μ b i).2 hi),h.rw,(o0S hs hm).2 h.obj⟩
  intro i j sv hi hj
  obtain ⟨v,h1,h2⟩:=h.cell i j (SV.mem μ sv) ((Blk.mem_has μ b i).2 hi) (by rw [Blk.mem_at μ b i j hm,hj];rfl)
  exact ⟨v,h1,(Rv.mem hs sv v).2 h2⟩
theorem f1J {P:Program} {n:Nat} {f:FuncId} {args:List SV} {H H1:a0v} {post post1:SV->a0v->Nat->Prop} (μ:Nat->Nat) (h0:μ 0=0) (hn:∀h,n<=h->μ h=0)
  (hin:∀h q ro b,Ent H h q ro b->b.mok μ=true/\Ent H1 h (q+μ h) ro (b.mem μ))
  (hout:∀sv H' n',post sv H' n'->∃H1',post1 (sv.mem μ) H1' n'/\e0t H1'/\∀h q1 b1,Ent H1' h q1 false b1->(∃q b,q1=q+μ h/\b1=b.mem μ/\b.mok μ=true/\Ent H' h q false b)\/(h<n/\Ent H1 h q1 false b1/\∀q ro b,q1=q+μ h->¬Ent H h q ro b))
  (h:FC P n f args H post):FC P n f (SV.mems μ args) H1 post1:=by
 have key:∀(g':G) (w:World) (vals:List Value),g'.glob->g'.upto n->Holds g' H1 w->Rvs g' (SV.mems μ args) vals->
   ∃g:G,g.glob/\g.upto n/\Holds g H w/\Rvs g args vals/\∀v w',Out g w n H post v w'->Out g' w n H1 post1 v w':=by
  intro g' w vals hg hu hH hv
  have hs:Sm μ (fun h q=>g' h (q+μ h)) g':=fun h q=>rfl
  refine ⟨fun h q=>g' h (q+μ h),fun q=>by dsimp only;rw [h0,Nat.add_zero];exact hg q,fun h q hh=>hu h _ hh,⟨?_,?_⟩,(Rvs.mem hs args vals).2 hv,?_⟩
  .intro h q ro b he
   obtain ⟨hm,h1⟩:=hin h q ro b he
   obtain ⟨β,hb,hB⟩:=hH.blk _ _ _ _ h1
   exact ⟨β,hb,(o0T hs hm).2 hB⟩
  .intro h q h' q' b ro' b' β β' hne he he' hb hb' hc hc'
   refine hH.sep h (q+μ h) h' (q'+μ h') _ ro' _ β β' (fun e=>hne ⟨e.1,?_⟩) (hin _ _ _ _ he).2 (hin _ _ _ _ he').2 hb hb' hc hc'
   have e1:=e.1
   subst e1
   omega
  .rintro v w' ⟨sv,H',n',g1,hp,hnn,hu',hk,hv',hH',hrw,hfr,hown⟩
   obtain ⟨H1',p1,p2,p3⟩:=hout sv H' n' hp
   have hkk:∀h q,h<n->g1 h q=g' h (q+μ h):=fun h q hh=>hk h q hh
   let g1':G:=fun h q=>if h<n then g' h q else g1 h q
   have hs1:Sm μ g1 g1':=by
    intro h q
    by_cases hh:h<n
    .simp only [g1',hh,if_true];exact hkk h q hh
    .simp only [g1',hh,if_false];rw [hn h (by omega),Nat.add_zero]
   have hle:G.le g' g1':=by
    intro h q β e
    by_cases hh:h<n
    .simp only [g1',hh,if_true];exact e
    .rw [hu h q (by omega)] at e;cases e
   have hW:∀k,e0G (fun h q=>g' h (q+μ h)) H k->e0G g' H1 k:=by
    rintro k ⟨h,q,b,β,he,hb,hc,e⟩
    exact ⟨h,q+μ h,_,β,(hin _ _ _ _ he).2,hb,hc,e⟩
   have apart:∀h q1 ro1 b1 β,Ent H1 h q1 ro1 b1->(∀q ro b,q1=q+μ h->¬Ent H h q ro b)->g' h q1=some β->0<β.cap->¬e0G (fun h q=>g' h (q+μ h)) H β.blk:=by
    rintro h q1 ro1 b1 β he hno hb hc ⟨h2,q2,b2,β2,he2,hb2,hc2,e2⟩
    refine hH.sep h2 (q2+μ h2) h q1 _ ro1 b1 β2 β (fun e=> ?_) (hin _ _ _ _ he2).2 he hb2 hb hc2 hc e2
    have e1:=e.1
    subst e1
    exact hno q2 _ b2 e.2.symm he2
   have cls:∀h q1 b1,Ent H1' h q1 false b1->(∃q b β,q1=q+μ h/\b1=b.mem μ/\b.mok μ=true/\Ent H' h q false b/\g1 h q=some β/\g1' h q1=some β/\BlkAt g1 β false b w')\/(∃β,h<n/\Ent H1 h q1 false b1/\g' h q1=some β/\g1' h q1=some β/\BlkAt g' β false b1 w/\(0<β.cap->¬e0G (fun h q=>g' h (q+μ h)) H β.blk)):=by
    intro h q1 b1 he
    rcases p3 h q1 b1 he with ⟨q,b,e1,e2,e3,e4⟩|⟨e1,e2,e3⟩
    .obtain ⟨β,hb,hB⟩:=hH'.blk _ _ _ _ e4
     exact .inl ⟨q,b,β,e1,e2,e3,e4,hb,by rw [e1,<-hs1];exact hb,hB⟩
    .obtain ⟨β,hb,hB⟩:=hH.blk _ _ _ _ e2
     exact .inr ⟨β,e1,e2,hb,hle _ _ _ hb,hB,fun hc=>apart h q1 false b1 β e2 e3 hb hc⟩
   refine ⟨sv.mem μ,H1',n',g1',p1,hnn,?_,?_,(Rv.mem hs1 sv v).1 hv',⟨?_,?_⟩,p2,?_,?_⟩
   .intro h q hh
    simp only [g1']
    rw [if_neg (by omega)];exact hu' h q hh
   .intro h q hh
    simp only [g1',hh,if_true]
   .intro h q1 ro b1 he
    have:=p2 _ _ _ _ he
    subst this
    rcases cls h q1 b1 he with ⟨q,b,β,e1,e2,e3,e4,e5,e6,e7⟩|⟨β,e1,e2,e3,e4,e5,e6⟩
    .exact ⟨β,e6,by rw [e2];exact (o0T hs1 e3).1 e7⟩
    .exact ⟨β,e4,b0H e5 hle hfr.size (fun hc=>hfr.block _ (e5.lt hc) (e6 hc))⟩
   .intro h q h' q' b ro' b' β β' hne he he' hb hb' hc hc'
    have:=p2 _ _ _ _ he'
    subst this
    rcases cls h q b he with ⟨q0,b0,β0,e1,e2,e3,e4,e5,e6,e7⟩|⟨β0,e1,e2,e3,e4,e5,e6⟩
    .rw [hb] at e6;cases e6
     rcases cls h' q' b' he' with ⟨q2,b2,β2,k1,k2,k3,k4,k5,k6,k7⟩|⟨β2,k1,k2,k3,k4,k5,k6⟩
     .rw [hb'] at k6;cases k6
      refine hH'.sep h q0 h' q2 b0 false b2 β β' (fun e=>hne ⟨e.1,?_⟩) e4 k4 e5 k5 hc hc'
      rw [e1,k1,e.2,e.1]
     .rw [hb'] at k4;cases k4
      rcases hown h q0 b0 β e4 e5 hc with ho|ho
      .intro e;rw [e] at ho;exact k6 hc' ho
      .have:=k5.lt hc';omega
    .rw [hb] at e4;cases e4
     rcases cls h' q' b' he' with ⟨q2,b2,β2,k1,k2,k3,k4,k5,k6,k7⟩|⟨β2,k1,k2,k3,k4,k5,k6⟩
     .rw [hb'] at k6;cases k6
      rcases hown h' q2 b2 β' k4 k5 hc' with ho|ho
      .intro e;rw [<-e] at ho;exact e6 hc ho
      .have:=e5.lt hc;omega
     .rw [hb'] at k4;cases k4
      exact hH.sep h q h' q' b false b' β β' hne e2 k2 e3 k3 hc hc'
   .exact ⟨hfr.os,hfr.tape,hfr.output,hfr.size,fun k hk1 hk2=>hfr.block k hk1 (fun hq=>hk2 (hW k hq))⟩
   .intro h q b β he hb hc
    rcases cls h q b he with ⟨q0,b0,β0,e1,e2,e3,e4,e5,e6,e7⟩|⟨β0,e1,e2,e3,e4,e5,e6⟩
    .rw [hb] at e6;cases e6
     rcases hown h q0 b0 β e4 e5 hc with ho|ho
     .exact .inl (hW _ ho)
     .exact .inr ho
    .rw [hb] at e4;cases e4
     exact .inl ⟨h,q,b,β,e2,e3,hc,rfl⟩
 rcases h with ⟨hb,h⟩|h
 .refine .inl ⟨hb,fun g w vals h1 h2 h3 h4=> ?_⟩
  obtain ⟨g1,k1,k2,k3,k4,k5⟩:=key g w vals h1 h2 h3 h4
  refine (h g1 w vals k1 k2 k3 k4).mono ?_
  rintro e w' ⟨v,rfl,ho⟩
  exact ⟨v,rfl,k5 v w' ho⟩
 .refine .inr (fun g w vals h1 h2 h3 h4=> ?_)
  obtain ⟨g1,k1,k2,k3,k4,k5⟩:=key g w vals h1 h2 h3 h4
  obtain ⟨v,w',hr,ho⟩:=h g1 w vals k1 k2 k3 k4
  exact ⟨v,w',hr,k5 v w' ho⟩
structure FamAt where
 q:Nat
 dom:Nat->Prop
 f:Nat->Blk
abbrev t0T:=List (Nat×FamAt)
def fmu (L:t0T) (h:Nat):Nat:=match a0T L h with|some a=>a.q|none=>0
def o0U (L:t0T) (h:Nat):HB->HB
 | .one ro b=>match a0T L h with|some a=> .fam ro a.dom a.f|none=> .one ro (b.mem (fmu L))
 | .fam ro dom f=> .fam ro dom (fun x=>(f x).mem (fmu L))
def d1o (L:t0T):a0v->a0v
 | []=> []
 |(h,some hb)::r=>(h,some (o0U L h hb))::d1o L r
 |(h,none)::r=>(h,none)::d1o L r
def q0l (L:t0T) (h:Nat):HB->HB
 | .one ro b=>match a0T L h with|some a=> .fam ro a.dom (fun x=>if x=a.q then b.mem (fmu L) else a.f x)|none=> .one ro (b.mem (fmu L))
 | .fam ro dom f=> .fam ro dom (fun x=>(f x).mem (fmu L))
def j0X (L:t0T):a0v->a0v
 | []=> []
 |(h,some hb)::r=>(h,some (q0l L h hb))::j0X L r
 |(h,none)::r=>(h,none)::j0X L r
def s0d (L:t0T) (H H':a0v) (n:Nat):t0T->Prop
 | []=>True
 |(h,a)::r=>(0<h/\h<n/\∃ro b,a0J H h=some (.one ro b)/\a.dom a.q/\a.f a.q=b.mem (fmu L)/\(a0J H' h=none\/(ro=false/\∃b1,a0J H' h=some (.one false b1))))/\s0d L H H' n r
def HB.mok (μ:Nat->Nat):HB->Prop
 | .one _ b=>b.mok μ=true
 | .fam _ dom f=>∀q,dom q->(f q).mok μ=true
def g0l (μ:Nat->Nat):a0v->Prop
 | []=>True
 |(_,some hb)::r=>hb.mok μ/\g0l μ r
 |(_,none)::r=>g0l μ r
theorem e0j (L:t0T) (h:Nat):∀H:a0v,a0J (d1o L H) h=(a0J H h).map (o0U L h)
 | []=>rfl
 |(k,some hb)::r=>by
  simp only [d1o,a0U]
  by_cases e:k=h
  .rw [if_pos e,if_pos e,e];rfl
  .rw [if_neg e,if_neg e];exact e0j L h r
 |(k,none)::r=>by
  simp only [d1o,a0U]
  by_cases e:k=h
  .rw [if_pos e,if_pos e];rfl
  .rw [if_neg e,if_neg e];exact e0j L h r
theorem e0v (L:t0T) (h:Nat):∀H:a0v,a0J (j0X L H) h=(a0J H h).map (q0l L h)
 | []=>rfl
 |(k,some hb)::r=>by
  simp only [j0X,a0U]
  by_cases e:k=h
  .rw [if_pos e,if_pos e,e];rfl
  .rw [if_neg e,if_neg e];exact e0v L h r
 |(k,none)::r=>by
  simp only [j0X,a0U]
  by_cases e:k=h
  .rw [if_pos e,if_pos e];rfl
  .rw [if_neg e,if_neg e];exact e0v L h r
theorem e0w {μ:Nat->Nat} {h:Nat} {hb:HB}:∀{H:a0v},g0l μ H->a0J H h=some hb->hb.mok μ
 | [],_,e=>by cases e
 |(k,some x)::r,hm,e=>by
  simp only [g0l] at hm
  rw [a0U] at e
  split at e
  .cases e;exact hm.1
  .exact e0w hm.2 e
 |(k,none)::r,hm,e=>by
  simp only [g0l] at hm
  rw [a0U] at e
  split at e
  .cases e
  .exact e0w hm e
theorem c0L {L0:t0T} {H H':a0v} {n h:Nat} {a:FamAt}:∀{L:t0T},s0d L0 H H' n L->a0T L h=some a->0<h/\h<n/\∃ro b,a0J H h=some (.one ro b)/\a.dom a.q/\a.f a.q=b.mem (fmu L0)/\(a0J H' h=none\/(ro=false/\∃b1,a0J H' h=some (.one false b1)))
 | [],_,e=>by cases e
 |(k,x)::r,hm,e=>by
  simp only [s0d] at hm
  rw [b0R] at e
  split at e
  .rename_i q;subst q;cases e;exact hm.1
  .exact c0L hm.2 e
theorem s0e {P:Program} {n:Nat} {f:FuncId} {args:List SV} {H H':a0v} {r:SV} {n':Nat} (L:t0T) (hL:s0d L H H' n L) (hm:g0l (fmu L) H) (hm':g0l (fmu L) H') (hrw:e0t H') (h:FC P n f args H (a0s r H' n')):
  FC P n f (SV.mems (fmu L) args) (d1o L H) (a0s (r.mem (fmu L)) (j0X L H') n'):=by
 have hno:∀{x:Nat},a0T L x=none->fmu L x=0:=fun {x} e=>by unfold fmu;rw [e]
 have hyes:∀{x:Nat} {a:FamAt},a0T L x=some a->fmu L x=a.q:=fun {x a} e=>by unfold fmu;rw [e]
 refine f1J (fmu L) ?_ ?_ ?_ ?_ h
 .cases e:a0T L 0 with
  |none=>exact hno e
  |some a=>exact absurd (c0L hL e).1 (Nat.lt_irrefl _)
 .intro x hx
  cases e:a0T L x with
  |none=>exact hno e
  |some a=>have:=(c0L hL e).2.1;omega
 .rintro x q ro b ⟨hb,e1,e2,e3⟩
  have hmo:=e0w hm e1
  cases hb with
  |one r0 b0=>
   simp only [HB.is] at e2
   obtain ⟨rfl,rfl⟩:=e2
   refine ⟨hmo,?_⟩
   cases e:a0T L x with
   |none=>
    rw [hno e]
    refine ⟨.one r0 (b.mem (fmu L)),?_,⟨rfl,rfl⟩,e3⟩
    rw [e0j,e1]
    simp only [Option.map_some,o0U,e]
   |some a=>
    obtain ⟨_,_,ro1,b1,k1,k2,k3,_⟩:=c0L hL e
    rw [e1] at k1
    cases k1
    rw [hyes e,Nat.zero_add]
    refine ⟨.fam r0 a.dom a.f,?_,⟨k2,k3.symm⟩,e3⟩
    rw [e0j,e1]
    simp only [Option.map_some,o0U,e]
  |fam r0 dom F=>
   simp only [HB.is] at e2
   obtain ⟨h1,rfl⟩:=e2
   refine ⟨hmo q h1,?_⟩
   cases e:a0T L x with
   |none=>
    rw [hno e]
    refine ⟨.fam r0 dom (fun y=>(F y).mem (fmu L)),?_,⟨h1,rfl⟩,e3⟩
    rw [e0j,e1]
    simp only [Option.map_some,o0U]
   |some a=>
    obtain ⟨_,_,ro1,b1,k1,_⟩:=c0L hL e
    rw [e1] at k1
    cases k1
 .rintro sv Hx nx ⟨rfl,rfl,rfl⟩
  refine ⟨j0X L Hx,⟨rfl,rfl,rfl⟩,?_,?_⟩
  .rintro x q ro b ⟨hb,e1,e2,e3⟩
   rw [e0v] at e1
   cases e:a0J Hx x with
   |none=>rw [e] at e1;cases e1
   |some hb0=>
    rw [e] at e1
    simp only [Option.map_some,Option.some.injEq] at e1
    subst e1
    cases hb0 with
    |one r0 b0=>
     have:=hrw x 0 r0 b0 ⟨_,e,⟨rfl,rfl⟩,rfl⟩
     subst this
     rw [<-e3]
     simp only [q0l]
     split<;>rfl
    |fam r0 dom F=>
     simp only [q0l,HB.is] at e2
     have:=hrw x q r0 (F q) ⟨_,e,⟨e2.1,rfl⟩,rfl⟩
     subst this
     rw [<-e3];rfl
  .rintro x q1 b1 ⟨hb,e1,e2,e3⟩
   rw [e0v] at e1
   cases e:a0J Hx x with
   |none=>rw [e] at e1;cases e1
   |some hb0=>
    rw [e] at e1
    simp only [Option.map_some,Option.some.injEq] at e1
    subst e1
    have hmo:=e0w hm' e
    cases hb0 with
    |one r0 b0=>
     have:=hrw x 0 r0 b0 ⟨_,e,⟨rfl,rfl⟩,rfl⟩
     subst this
     cases ea:a0T L x with
     |none=>
      simp only [q0l,ea,HB.is] at e2
      exact .inl ⟨0,b0,by rw [hno ea];exact e2.1,e2.2,hmo,⟨_,e,⟨rfl,rfl⟩,rfl⟩⟩
     |some a=>
      simp only [q0l,ea,HB.is] at e2
      obtain ⟨hx0,hxn,ro1,bb,k1,k2,k3,k4⟩:=c0L hL ea
      have hro:ro1=false:=by
       rcases k4 with k4|k4
       .rw [e] at k4;cases k4
       .exact k4.1
      subst hro
      by_cases hq:q1=a.q
      .refine .inl ⟨0,b0,by rw [hyes ea,Nat.zero_add];exact hq,?_,hmo,⟨_,e,⟨rfl,rfl⟩,rfl⟩⟩
       rw [e2.2,if_pos hq]
      .refine .inr ⟨hxn,⟨.fam false a.dom a.f,?_,⟨e2.1,?_⟩,rfl⟩,?_⟩
       .rw [e0j,k1]
        simp only [Option.map_some,o0U,ea]
       .rw [e2.2,if_neg hq]
       .rintro q ro b hqe ⟨hb2,f1,f2,_⟩
        rw [k1] at f1
        cases f1
        simp only [HB.is] at f2
        rw [hyes ea,f2.1,Nat.zero_add] at hqe
        exact hq hqe
    |fam r0 dom F=>
     simp only [q0l,HB.is] at e2
     have:=hrw x q1 r0 (F q1) ⟨_,e,⟨e2.1,rfl⟩,rfl⟩
     subst this
     cases ea:a0T L x with
     |none=>exact .inl ⟨q1,F q1,by rw [hno ea];rfl,e2.2,hmo q1 e2.1,⟨_,e,⟨e2.1,rfl⟩,rfl⟩⟩
     |some a=>
      obtain ⟨_,_,ro1,bb,_,_,_,k4⟩:=c0L hL ea
      rcases k4 with k4|⟨_,b2,k4⟩
      .rw [e] at k4;cases k4
      .rw [e] at k4;cases k4
end Go.Sy
namespace Go.Sy
open Go.RowKit
theorem q0m {n:Nat} {R:Nat->Nat->Option (Nat×Nat)} {h q h' q' i j:Nat} (hn:n<=h') (e:R h' q'=some (h,q)):SLe n R (.ptr h q i j) (.ptr h' q' i j):=by
 intro g g1 v hle hR hv
 simp only [Rv] at hv⊢
 obtain ⟨β,e1,e2⟩:=hv
 exact ⟨β,hR h' q' _ hn e β e1,e2⟩
theorem q0n {n:Nat} {R:Nat->Nat->Option (Nat×Nat)} {h q h' q':Nat} (hn:n<=h') (e:R h' q'=some (h,q)):SLe n R (.map h q) (.map h' q'):=by
 intro g g1 v hle hR hv
 simp only [Rv] at hv⊢
 obtain ⟨β,e1,e2⟩:=hv
 exact ⟨β,hR h' q' _ hn e β e1,e2⟩
def h1Z (n:Nat) (R:Nat->Nat->Option (Nat×Nat)):List SV->List SV->Prop
 | [],[]=>True
 |a::l,b::m=>SLe n R a b/\h1Z n R l m
 |_,_=>False
theorem q0o {n:Nat} {R:Nat->Nat->Option (Nat×Nat)}:∀{l m:List SV},h1Z n R l m->m.length=l.length/\∀j b,nth m j=some b->∃a,nth l j=some a/\SLe n R a b
 | [],[],_=>⟨rfl,fun j b h=>by simp [nth] at h⟩
 |a::l,b::m,h=>by
  obtain ⟨h1,h2⟩:=q0o h.2
  refine ⟨by rw [List.length_cons,List.length_cons,h1],fun j c hc=> ?_⟩
  cases j with
  |zero=>simp only [nth,Option.some.injEq] at hc;subst hc;exact ⟨a,rfl,h.1⟩
  |succ j=>simp only [nth] at hc⊢;exact h2 j c hc
 | [],_::_,h=>h.elim
 |_::_,[],h=>h.elim
theorem j0Y {n:Nat} {R:Nat->Nat->Option (Nat×Nat)} {l m:List SV} (h:h1Z n R l m):BLe n R (.cells l) (.cells m):= .inr ⟨(q0o h).1,(q0o h).2⟩
theorem n0h {n:Nat} {R:Nat->Nat->Option (Nat×Nat)} {ka:Bool} {m:Nat} {ks:List Col} {c c':BCol} {bs:List Nat} {ck:Nat} (hl:c'.len=m) (h:∀i,i<m->SLe n R (c.at i) (c'.at i)):BLe n R (.obj (.map ka false m ks [c] bs ck)) (.obj (.map ka false m ks [c'] bs ck)):=
 .inr ⟨rfl,rfl,rfl,rfl,rfl,rfl,fun _ c2 h2=>by rw [List.mem_singleton] at h2;subst h2;exact hl,fun i hi=>h i hi⟩
def i1a (n:Nat) (R:Nat->Nat->Option (Nat×Nat)) (m:Nat):List BCol->List BCol->Prop
 | [],[]=>True
 |c::l,d::r=>((c.len=m->d.len=m)/\∀i,i<m->SLe n R (c.at i) (d.at i))/\i1a n R m l r
 |_,_=>False
theorem n0i {n m:Nat} {R:Nat->Nat->Option (Nat×Nat)}:∀{l r:List BCol},i1a n R m l r->r.length=l.length/\((∀c∈l,c.len=m)->∀c∈r,c.len=m)/\∀i j d,i<m->nth r j=some d->∃c,nth l j=some c/\SLe n R (c.at i) (d.at i)
 | [],[],_=>⟨rfl,fun _ c h=>(by cases h),fun i j d _ h=>by simp [nth] at h⟩
 |a::l,b::r,h=>by
  obtain ⟨h1,h2,h3⟩:=n0i h.2
  refine ⟨by rw [List.length_cons,List.length_cons,h1],fun hl c hc=> ?_,fun i j d hi hd=> ?_⟩
  .rcases List.mem_cons.1 hc with rfl|hc
   .exact h.1.1 (hl a (List.mem_cons_self))
   .exact h2 (fun c hc=>hl c (List.mem_cons_of_mem _ hc)) c hc
  .cases j with
   |zero=>simp only [nth,Option.some.injEq] at hd;subst hd;exact ⟨a,rfl,h.1.2 i hi⟩
   |succ j=>simp only [nth] at hd⊢;exact h3 i j d hi hd
 | [],_::_,h=>h.elim
 |_::_,[],h=>h.elim
theorem i0J {n m:Nat} {R:Nat->Nat->Option (Nat×Nat)} {l r:List BCol} (h:i1a n R m l r):BLe n R (.cols m l) (.cols m r):=
 .inr ⟨Nat.le_refl _,(n0i h).1,(n0i h).2.1,(n0i h).2.2⟩
theorem f1K {n m:Nat} {R:Nat->Nat->Option (Nat×Nat)} (c:BCol):(c.len=m->c.len=m)/\∀i,i<m->SLe n R (c.at i) (c.at i):=⟨id,fun i _=>f0s _⟩
theorem z0L {n m h nb h':Nat} {R:Nat->Nat->Option (Nat×Nat)} (hn:n<=h') (h1:∀q,q<m->R h' q=some (h,q)) (h2:R h' m=some (nb,0)):∀i,i<m+1->SLe n R ((BCol.svs (e0M h m++ [.ptr nb 0 0 0])).at i) ((BCol.ptrs h' (m+1)).at i):=by
 intro i hi
 by_cases e:i<m
 .have e1:(BCol.svs (e0M h m++ [.ptr nb 0 0 0])).at i= .ptr h i 0 0:=by
   show (e0M h m++ [SV.ptr nb 0 0 0]).getD i .unk=_
   rw [List.getD,List.getElem?_append_left (by rw [b0D];exact e)]
   exact e0q e
  rw [e1]
  exact q0m hn (h1 i e)
 .have ei:i=m:=by omega
  subst ei
  have e1:(BCol.svs (e0M h i++ [.ptr nb 0 0 0])).at i= .ptr nb 0 0 0:=by
   show (e0M h i++ [SV.ptr nb 0 0 0]).getD i .unk=_
   rw [List.getD,List.getElem?_append_right (by rw [b0D];exact Nat.le_refl _),b0D,Nat.sub_self];rfl
  rw [e1]
  exact q0m hn h2
theorem z0M {h m i:Nat} (hi:i<m):(e0M h m).set i (.ptr h i 0 0)=e0M h m:=by
 refine List.ext_getElem? fun j=> ?_
 rw [List.getElem?_set]
 split
 .rename_i e
  subst e
  simp [e0M,hi]
 .rfl
theorem z0N {h m i:Nat} (hi:i<m):b0j i (.ptr h i 0 0) (e0M h m)=e0M h m:=by
 unfold b0j
 rw [if_pos (by rw [b0D];exact hi)];exact z0M hi
theorem z0O {h m:Nat} {v:SV}:b0j m v (e0M h m)=e0M h m++ [v]:=by
 unfold b0j
 rw [if_neg (by rw [b0D];omega)]
theorem f1L {n m h:Nat} {R:Nat->Nat->Option (Nat×Nat)}:∀i,i<m->SLe n R ((BCol.svs (e0M h m)).at i) ((BCol.ptrs h m).at i):=by
 intro i hi
 have e1:(BCol.svs (e0M h m)).at i= .ptr h i 0 0:=e0q hi
 rw [e1];exact f0s _
theorem f1M {H:a0v} {n th:Nat} {tb0 tb:Blk} (hth:th<n) (ht:a0J H th=some (.one false tb0)) (hle:BLe n (fun _ _=>none) tb0 tb):Relab H n (fun _ _=>none) (fun _=>0) [(th,some (.one false tb))] [] 0:=by
 have key:∀{h q:Nat} {ro:Bool} {b:Blk},Ent [(th,some (HB.one false tb))] h q ro b->h=th/\q=0/\ro=false/\b=tb:=by
  intro h q ro b he
  rcases a0E.1 he with ⟨rfl,hb2,e1,e2,e3⟩|⟨_,he⟩
  .cases e1;exact ⟨rfl,e2.1,e3.symm,e2.2⟩
  .exact (n0c he).elim
 refine ⟨fun h q p _ e=>(by cases e),fun h q ro b he=>(key he).2.2.1,?_,fun h q p _ e=>(by cases e),?_⟩
 .intro h q b' he
  obtain ⟨rfl,rfl,_,rfl⟩:=key he
  exact .inl ⟨h,0,tb0,.inl ⟨hth,rfl,rfl⟩,⟨_,ht,⟨rfl,rfl⟩,rfl⟩,hle⟩
 .intro h q h' q' h0 q0 _ _ h1 h2
  rcases h1 with ⟨_,rfl,rfl⟩|⟨_,e⟩
  .rcases h2 with ⟨_,e1,e2⟩|⟨_,e⟩
   .exact ⟨e1,e2⟩
   .cases e
  .cases e
structure GD where
 old:Nat
 nw:Nat
 f:Nat->Blk
def gdR (n m:Nat) (D:List GD) (h q:Nat):Option (Nat×Nat):=if n<=h/\q<=m then (match nth D (h-n) with|some d=>if q<m then some (d.old,q) else some (d.nw,0)|none=>none) else none
def gdN (n m:Nat):Nat->List GD->a0v
 |_,[]=> []
 |i,d::r=>(n+i,some (.fam false (fun x=>x<m) d.f))::gdN n m (i+1) r
def gdr:List GD->List Nat
 | []=> []
 |d::r=>d.old::d.nw::gdr r
theorem n0j:∀{D:List GD} {i:Nat} {d:GD},nth D i=some d->d.old∈gdr D/\d.nw∈gdr D
 | [],i,d,h=>by simp [nth] at h
 |x::D,0,d,h=>by simp only [nth,Option.some.injEq] at h;subst h;simp [gdr]
 |x::D,i+1,d,h=>by
  have:=n0j (D:=D) (i:=i) h
  simp [gdr,this]
theorem q0p {n m:Nat}:∀{D:List GD} {i h q:Nat} {ro:Bool} {b:Blk},Ent (gdN n m i D) h q ro b->∃j d,h=n+(i+j)/\nth D j=some d/\q<m/\ro=false/\b=d.f q
 | [],i,h,q,ro,b,he=>(n0c he).elim
 |x::D,i,h,q,ro,b,he=>by
  simp only [gdN] at he
  rcases a0E.1 he with ⟨rfl,hb2,e1,e2,e3⟩|⟨_,he⟩
  .cases e1
   exact ⟨0,x,by omega,rfl,e2.1,e3.symm,e2.2⟩
  .obtain ⟨j,d,h1,h2,h3⟩:=q0p he
   exact ⟨j+1,d,by omega,h2,h3⟩
theorem s0f {n m:Nat}:∀{D:List GD} {i x:Nat},x∈a0I (gdN n m i D)->n<=x
 | [],i,x,h=>by simp [gdN,a0I] at h
 |d::D,i,x,h=>by
  simp only [gdN,a0I,List.mem_cons] at h
  rcases h with h|h
  .omega
  .exact s0f h
theorem w0h {α:Type}:∀{l:List α} {i:Nat} {x:α},nth l i=some x->i<l.length
 | [],i,x,h=>by simp [nth] at h
 |y::l,0,x,h=>by simp
 |y::l,i+1,x,h=>by have:=w0h (l:=l) (i:=i) h;simp;exact this
theorem g0Y {n m:Nat} {D:List GD} {h q:Nat} {p:Nat×Nat} (e:gdR n m D h q=some p):n<=h/\q<=m/\∃d,nth D (h-n)=some d/\((q<m/\p=(d.old,q))\/(q=m/\p=(d.nw,0))):=by
 unfold gdR at e
 split at e
 .rename_i c
  split at e
  .rename_i d hd
   refine ⟨c.1,c.2,d,hd,?_⟩
   split at e
   .rename_i w;simp only [Option.some.injEq] at e;exact .inl ⟨w,e.symm⟩
   .rename_i w;simp only [Option.some.injEq] at e;exact .inr ⟨by omega,e.symm⟩
  .cases e
 .cases e
theorem h0O {n m i q:Nat} {D:List GD} {d:GD} (hd:nth D i=some d) (hq:q<m):gdR n m D (n+i) q=some (d.old,q):=by
 unfold gdR
 rw [if_pos ⟨by omega,by omega⟩,Nat.add_sub_cancel_left,hd]
 exact if_pos hq
theorem h0P {n m i:Nat} {D:List GD} {d:GD} (hd:nth D i=some d):gdR n m D (n+i) m=some (d.nw,0):=by
 unfold gdR
 rw [if_pos ⟨by omega,by omega⟩,Nat.add_sub_cancel_left,hd]
 exact if_neg (Nat.lt_irrefl _)
def i1b (H:a0v) (n m th:Nat) (R:Nat->Nat->Option (Nat×Nat)):List GD->Prop
 | []=>True
 |d::r=>(d.old≠th/\d.nw≠th/\(∃dom f,a0J H d.old=some (.fam false dom f)/\(∀q,q<m->dom q/\BLe n R (f q) (d.f q)))/\∃b,a0J H d.nw=some (.one false b)/\BLe n R b (d.f m))/\i1b H n m th R r
theorem q0q {H:a0v} {n m th:Nat} {R:Nat->Nat->Option (Nat×Nat)}:∀{D:List GD} {i:Nat} {d:GD},i1b H n m th R D->nth D i=some d->d.old≠th/\d.nw≠th/\(∃dom f,a0J H d.old=some (.fam false dom f)/\(∀q,q<m->dom q/\BLe n R (f q) (d.f q)))/\∃b,a0J H d.nw=some (.one false b)/\BLe n R b (d.f m)
 | [],i,d,_,e=>by simp [nth] at e
 |x::D,0,d,h,e=>by simp only [nth,Option.some.injEq] at e;subst e;exact h.1
 |x::D,i+1,d,h,e=>q0q (D:=D) (i:=i) h.2 e
def gdl (D:List GD):List Nat:=gdr D
def b1M (D:List GD):Bool:=j0g (gdr D)
theorem s0g:∀{l:List Nat} {x:Nat},v0n l x=true↔x∈l
 | [],x=>by simp [v0n]
 |y::l,x=>by
  simp only [v0n,Bool.or_eq_true,s0g (l:=l),List.mem_cons]
  constructor
  .rintro (h|h)
   .exact .inl (Nat.eq_of_beq_eq_true h).symm
   .exact .inr h
  .rintro (h|h)
   .subst h;exact .inl (by simp)
   .exact .inr h
theorem n0k:∀{l:List Nat},j0g l=true->l.Nodup
 | [],_=>List.nodup_nil
 |x::l,h=>by
  simp only [j0g,Bool.and_eq_true,Bool.not_eq_true'] at h
  exact List.nodup_cons.2 ⟨fun q=>(by have:=s0g.2 q;rw [h.1] at this;cases this),n0k h.2⟩
theorem w0i:∀{D:List GD},(gdr D).Nodup->∀{i j:Nat} {d e:GD},nth D i=some d->nth D j=some e->(d.old=e.old->i=j)/\(d.nw=e.nw->i=j)/\d.old≠e.nw
 | [],_,i,j,d,e,h,_=>by simp [nth] at h
 |x::D,hn,i,j,d,e,h1,h2=>by
  simp only [gdr] at hn
  obtain ⟨n1,n2⟩:=List.nodup_cons.1 hn
  obtain ⟨n3,n4⟩:=List.nodup_cons.1 n2
  cases i with
  |zero=>
   simp only [nth,Option.some.injEq] at h1
   subst h1
   cases j with
   |zero=>
    simp only [nth,Option.some.injEq] at h2
    subst h2
    exact ⟨fun _=>rfl,fun _=>rfl,fun q=>n1 (by rw [q];simp)⟩
   |succ j=>
    have m:=n0j (D:=D) (i:=j) h2
    refine ⟨fun q=>absurd (List.mem_cons_of_mem _ (by rw [q];exact m.1)) n1,fun q=>absurd (by rw [q];exact m.2) n3,fun q=>n1 (List.mem_cons_of_mem _ (by rw [q];exact m.2))⟩
  |succ i=>
   have m:=n0j (D:=D) (i:=i) h1
   cases j with
   |zero=>
    simp only [nth,Option.some.injEq] at h2
    subst h2
    refine ⟨fun q=>absurd (List.mem_cons_of_mem _ (by rw [<-q];exact m.1)) n1,fun q=>absurd (by rw [<-q];exact m.2) n3,fun q=>n3 (by rw [<-q];exact m.1)⟩
   |succ j=>
    obtain ⟨a,b,c⟩:=w0i (D:=D) n4 (i:=i) (j:=j) h1 h2
    exact ⟨fun q=>by rw [a q],fun q=>by rw [b q],c⟩
theorem h0Q {H:a0v} {n m th:Nat} {tb0 tb:Blk} (D:List GD) (hth:th<n) (ht:a0J H th=some (.one false tb0)) (hle:BLe n (gdR n m D) tb0 tb) (hD:i1b H n m th (gdR n m D) D) (hdist:b1M D=true):
  Relab H n (gdR n m D) (fun _=>0) ((th,some (.one false tb))::gdN n (m+1) 0 D) (gdr D) D.length:=by
 have hnd:=n0k hdist
 have key:∀{h q:Nat} {ro:Bool} {b:Blk},Ent ((th,some (HB.one false tb))::gdN n (m+1) 0 D) h q ro b->(h=th/\q=0/\ro=false/\b=tb)\/∃j d,h=n+j/\nth D j=some d/\q<m+1/\ro=false/\b=d.f q:=by
  intro h q ro b he
  rcases a0E.1 he with ⟨rfl,hb2,e1,e2,e3⟩|⟨_,he⟩
  .cases e1;exact .inl ⟨rfl,e2.1,e3.symm,e2.2⟩
  .obtain ⟨j,d,h1,h2⟩:=q0p he
   exact .inr ⟨j,d,by omega,h2⟩
 refine ⟨?_,?_,?_,?_,?_⟩
 .intro h q p h1 h2
  obtain ⟨_,_,d,h3,_⟩:=g0Y h2
  have:=w0h h3
  omega
 .intro h q ro b he
  rcases key he with ⟨_,_,e,_⟩|⟨_,_,_,_,_,e,_⟩<;>exact e
 .intro h q b' he
  rcases key he with ⟨rfl,rfl,_,rfl⟩|⟨j,d,rfl,hd,hq,_,rfl⟩
  .exact .inl ⟨h,0,tb0,.inl ⟨hth,rfl,rfl⟩,⟨_,ht,⟨rfl,rfl⟩,rfl⟩,hle⟩
  .obtain ⟨_,_,⟨dom,f,g1,g2⟩,b,g3,g4⟩:=q0q hD hd
   by_cases e:q<m
   .exact .inl ⟨d.old,q,f q,.inr ⟨by omega,h0O hd e⟩,⟨_,g1,⟨(g2 q e).1,rfl⟩,rfl⟩,(g2 q e).2⟩
   .have eq:q=m:=by omega
    subst eq
    exact .inl ⟨d.nw,0,b,.inr ⟨by omega,h0P hd⟩,⟨_,g3,⟨rfl,rfl⟩,rfl⟩,g4⟩
 .intro h q p h1 h2
  obtain ⟨_,_,d,h3,h4⟩:=g0Y h2
  have:=n0j h3
  rcases h4 with ⟨_,rfl⟩|⟨_,rfl⟩
  .exact this.1
  .exact this.2
 .intro h q h' q' h0 q0 hk hk' h1 h2
  have kk:∀{x:Nat},x∈a0I ((th,some (HB.one false tb))::gdN n (m+1) 0 D)->x=th\/n<=x:=by
   intro x hx
   simp only [a0I,List.mem_cons] at hx
   rcases hx with hx|hx
   .exact .inl hx
   .exact .inr (s0f hx)
  have no:∀{x y:Nat},n<=x->gdR n m D x y=some (h0,q0)->h0≠th:=by
   intro x y hx e
   obtain ⟨_,_,d,h3,h4⟩:=g0Y e
   obtain ⟨g1,g2,_⟩:=q0q hD h3
   rcases h4 with ⟨_,h4⟩|⟨_,h4⟩
   .cases h4;exact g1
   .cases h4;exact g2
  rcases h1 with ⟨a1,rfl,rfl⟩|⟨a1,a2⟩
  .rcases h2 with ⟨b1,e1,e2⟩|⟨b1,b2⟩
   .exact ⟨e1,e2⟩
   .exfalso
    have e:h0=th:=by rcases kk hk with e|e<;>omega
    exact no b1 b2 e
  .rcases h2 with ⟨b1,rfl,rfl⟩|⟨b1,b2⟩
   .exfalso
    have e:h0=th:=by rcases kk hk' with e|e<;>omega
    exact no a1 a2 e
   .obtain ⟨_,_,d,h3,h4⟩:=g0Y a2
    obtain ⟨_,_,d',h3',h4'⟩:=g0Y b2
    obtain ⟨i1,i2,i3⟩:=w0i hnd h3 h3'
    obtain ⟨_,_,i4⟩:=w0i hnd h3' h3
    rcases h4 with ⟨w,h4⟩|⟨w,h4⟩<;>rcases h4' with ⟨w',h4'⟩|⟨w',h4'⟩
    .cases h4
     simp only [Prod.mk.injEq] at h4'
     have:=i1 h4'.1
     exact ⟨by omega,h4'.2⟩
    .cases h4
     simp only [Prod.mk.injEq] at h4'
     exact absurd h4'.1 i3
    .cases h4
     simp only [Prod.mk.injEq] at h4'
     exact absurd h4'.1.symm i4
    .cases h4
     simp only [Prod.mk.injEq] at h4'
     have:=i2 h4'.1
     exact ⟨by omega,by omega⟩
theorem h0R {H:a0v} {n th:Nat} {tb0 tb:Blk} (D:List GD) (hth:th<n) (ht:a0J H th=some (.one false tb0)) (hle:BLe n (fun _ _=>none) tb0 tb):
  Relab H n (fun _ _=>none) (fun _=>0) ((th,some (.one false tb))::gdN n 0 0 D) [] D.length:=by
 have key:∀{h q:Nat} {ro:Bool} {b:Blk},Ent ((th,some (HB.one false tb))::gdN n 0 0 D) h q ro b->h=th/\q=0/\ro=false/\b=tb:=by
  intro h q ro b he
  rcases a0E.1 he with ⟨rfl,hb2,e1,e2,e3⟩|⟨_,he⟩
  .cases e1;exact ⟨rfl,e2.1,e3.symm,e2.2⟩
  .obtain ⟨j,d,h1,h2,h3,_⟩:=q0p he
   omega
 refine ⟨fun h q p _ e=>(by cases e),fun h q ro b he=>(key he).2.2.1,?_,fun h q p _ e=>(by cases e),?_⟩
 .intro h q b' he
  obtain ⟨rfl,rfl,_,rfl⟩:=key he
  exact .inl ⟨h,0,tb0,.inl ⟨hth,rfl,rfl⟩,⟨_,ht,⟨rfl,rfl⟩,rfl⟩,hle⟩
 .intro h q h' q' h0 q0 _ _ h1 h2
  rcases h1 with ⟨_,rfl,rfl⟩|⟨_,e⟩
  .rcases h2 with ⟨_,e1,e2⟩|⟨_,e⟩
   .exact ⟨e1,e2⟩
   .cases e
  .cases e
end Go.Sy
namespace Go.Sy
open Go.RowKit
structure RD where
 old:Nat
 f:Nat->Blk
def rdR (n m:Nat) (D:List RD) (h q:Nat):Option (Nat×Nat):=if n<=h/\q<m then (match nth D (h-n) with|some d=>some (d.old,q)|none=>none) else none
def rdN (n m:Nat):Nat->List RD->a0v
 |_,[]=> []
 |i,d::r=>(n+i,some (.fam false (fun x=>x<m) d.f))::rdN n m (i+1) r
def rdr:List RD->List Nat
 | []=> []
 |d::r=>d.old::rdr r
theorem n0q:∀{D:List RD} {i:Nat} {d:RD},nth D i=some d->d.old∈rdr D
 | [],i,d,h=>by simp [nth] at h
 |x::D,0,d,h=>by simp only [nth,Option.some.injEq] at h;subst h;simp [rdr]
 |x::D,i+1,d,h=>by
  have:=n0q (D:=D) (i:=i) h
  simp [rdr,this]
theorem w0I {n m:Nat}:∀{D:List RD} {i h q:Nat} {ro:Bool} {b:Blk},Ent (rdN n m i D) h q ro b->∃j d,h=n+(i+j)/\nth D j=some d/\q<m/\ro=false/\b=d.f q
 | [],i,h,q,ro,b,he=>(n0c he).elim
 |x::D,i,h,q,ro,b,he=>by
  simp only [rdN] at he
  rcases a0E.1 he with ⟨rfl,hb2,e1,e2,e3⟩|⟨_,he⟩
  .cases e1
   exact ⟨0,x,by omega,rfl,e2.1,e3.symm,e2.2⟩
  .obtain ⟨j,d,h1,h2,h3⟩:=w0I he
   exact ⟨j+1,d,by omega,h2,h3⟩
theorem s0q {n m:Nat}:∀{D:List RD} {i x:Nat},x∈a0I (rdN n m i D)->n<=x
 | [],i,x,h=>by simp [rdN,a0I] at h
 |d::D,i,x,h=>by
  simp only [rdN,a0I,List.mem_cons] at h
  rcases h with h|h
  .omega
  .exact s0q h
theorem h0h {n m:Nat} {D:List RD} {h q:Nat} {p:Nat×Nat} (e:rdR n m D h q=some p):n<=h/\q<m/\∃d,nth D (h-n)=some d/\p=(d.old,q):=by
 unfold rdR at e
 split at e
 .rename_i c
  split at e
  .rename_i d hd
   simp only [Option.some.injEq] at e
   exact ⟨c.1,c.2,d,hd,e.symm⟩
  .cases e
 .cases e
theorem s0r {n m i q:Nat} {D:List RD} {d:RD} (hd:nth D i=some d) (hq:q<m):rdR n m D (n+i) q=some (d.old,q):=by
 unfold rdR
 rw [if_pos ⟨by omega,hq⟩,Nat.add_sub_cancel_left,hd]
def i1i (H:a0v) (n m th:Nat) (R:Nat->Nat->Option (Nat×Nat)):List RD->Prop
 | []=>True
 |d::r=>(d.old≠th/\∃dom f,a0J H d.old=some (.fam false dom f)/\(∀q,q<m->dom q/\BLe n R (f q) (d.f q)))/\i1i H n m th R r
theorem q0C {H:a0v} {n m th:Nat} {R:Nat->Nat->Option (Nat×Nat)}:∀{D:List RD} {i:Nat} {d:RD},i1i H n m th R D->nth D i=some d->d.old≠th/\∃dom f,a0J H d.old=some (.fam false dom f)/\(∀q,q<m->dom q/\BLe n R (f q) (d.f q))
 | [],i,d,_,e=>by simp [nth] at e
 |x::D,0,d,h,e=>by simp only [nth,Option.some.injEq] at e;subst e;exact h.1
 |x::D,i+1,d,h,e=>q0C (D:=D) (i:=i) h.2 e
theorem b1R:∀{D:List RD},(rdr D).Nodup->∀{i j:Nat} {d e:RD},nth D i=some d->nth D j=some e->d.old=e.old->i=j
 | [],_,i,j,d,e,h,_=>by simp [nth] at h
 |x::D,hn,i,j,d,e,h1,h2=>by
  simp only [rdr] at hn
  obtain ⟨n1,n2⟩:=List.nodup_cons.1 hn
  cases i with
  |zero=>
   simp only [nth,Option.some.injEq] at h1
   subst h1
   cases j with
   |zero=>exact fun _=>rfl
   |succ j=>
    have m:=n0q (D:=D) (i:=j) h2
    exact fun q=>absurd (by rw [q];exact m) n1
  |succ i=>
   have m:=n0q (D:=D) (i:=i) h1
   cases j with
   |zero=>
    simp only [nth,Option.some.injEq] at h2
    subst h2
    exact fun q=>absurd (by rw [<-q];exact m) n1
   |succ j=>exact fun q=>by rw [b1R (D:=D) n2 (i:=i) (j:=j) h1 h2 q]
theorem w0J {H:a0v} {n m th:Nat} {tb0 tb:Blk} (D:List RD) (hth:th<n) (ht:a0J H th=some (.one false tb0)) (hle:BLe n (rdR n m D) tb0 tb) (hD:i1i H n m th (rdR n m D) D) (hdist:j0g (rdr D)=true):
  Relab H n (rdR n m D) (fun _=>0) ((th,some (.one false tb))::rdN n m 0 D) (rdr D) D.length:=by
 have hnd:=n0k hdist
 have key:∀{h q:Nat} {ro:Bool} {b:Blk},Ent ((th,some (HB.one false tb))::rdN n m 0 D) h q ro b->(h=th/\q=0/\ro=false/\b=tb)\/∃j d,h=n+j/\nth D j=some d/\q<m/\ro=false/\b=d.f q:=by
  intro h q ro b he
  rcases a0E.1 he with ⟨rfl,hb2,e1,e2,e3⟩|⟨_,he⟩
  .cases e1;exact .inl ⟨rfl,e2.1,e3.symm,e2.2⟩
  .obtain ⟨j,d,h1,h2⟩:=w0I he
   exact .inr ⟨j,d,by omega,h2⟩
 refine ⟨?_,?_,?_,?_,?_⟩
 .intro h q p h1 h2
  obtain ⟨_,_,d,h3,_⟩:=h0h h2
  have:=w0h h3
  omega
 .intro h q ro b he
  rcases key he with ⟨_,_,e,_⟩|⟨_,_,_,_,_,e,_⟩<;>exact e
 .intro h q b' he
  rcases key he with ⟨rfl,rfl,_,rfl⟩|⟨j,d,rfl,hd,hq,_,rfl⟩
  .exact .inl ⟨h,0,tb0,.inl ⟨hth,rfl,rfl⟩,⟨_,ht,⟨rfl,rfl⟩,rfl⟩,hle⟩
  .obtain ⟨_,dom,f,g1,g2⟩:=q0C hD hd
   exact .inl ⟨d.old,q,f q,.inr ⟨by omega,s0r hd hq⟩,⟨_,g1,⟨(g2 q hq).1,rfl⟩,rfl⟩,(g2 q hq).2⟩
 .intro h q p h1 h2
  obtain ⟨_,_,d,h3,rfl⟩:=h0h h2
  exact n0q h3
 .intro h q h' q' h0 q0 hk hk' h1 h2
  have kk:∀{x:Nat},x∈a0I ((th,some (HB.one false tb))::rdN n m 0 D)->x=th\/n<=x:=by
   intro x hx
   simp only [a0I,List.mem_cons] at hx
   rcases hx with hx|hx
   .exact .inl hx
   .exact .inr (s0q hx)
  have no:∀{x y:Nat},n<=x->rdR n m D x y=some (h0,q0)->h0≠th:=by
   intro x y hx e
   obtain ⟨_,_,d,h3,h4⟩:=h0h e
   obtain ⟨g1,_⟩:=q0C hD h3
   cases h4;exact g1
  rcases h1 with ⟨a1,rfl,rfl⟩|⟨a1,a2⟩
  .rcases h2 with ⟨b1,e1,e2⟩|⟨b1,b2⟩
   .exact ⟨e1,e2⟩
   .exfalso
    have e:h0=th:=by rcases kk hk with e|e<;>omega
    exact no b1 b2 e
  .rcases h2 with ⟨b1,rfl,rfl⟩|⟨b1,b2⟩
   .exfalso
    have e:h0=th:=by rcases kk hk' with e|e<;>omega
    exact no a1 a2 e
   .obtain ⟨_,_,d,h3,h4⟩:=h0h a2
    obtain ⟨_,_,d',h3',h4'⟩:=h0h b2
    cases h4
    simp only [Prod.mk.injEq] at h4'
    have:=b1R hnd h3 h3' h4'.1
    exact ⟨by omega,h4'.2⟩
end Go.Sy
namespace Go.Sy
open Go.RowKit
abbrev g1f (a c:List ByteArray) (v:List Int) (n:Nat):ObjS:= .map true false n [.strs a,.strs c] [.sc (.ints .i64 v)] (List.range n) n
abbrev y0J:=List ByteArray->List ByteArray->List Int->Prop
theorem g1g {g:G} {w:World} {β:Base} {Q:y0J} (h:(ObjS.bag Q).Ok g w β):∃a c v n,Q a c v/\a.length=n/\c.length=n/\v.length=n/\(g1f a c v n).Ok g w β:=by
 obtain ⟨a,c,v,n,es,hq,e,k1,k2,k3,k4,k5⟩:=h
 refine ⟨a,c,v,n,hq,k2,k3,k4,es,e,k1,?_,?_,by simp,List.nodup_range,fun b hb=>by simpa using hb,fun i x hx=> ?_⟩
 .intro y hy
  simp only [List.mem_cons,List.not_mem_nil,or_false] at hy
  rcases hy with rfl|rfl
  .exact k2
  .exact k3
 .intro y hy
  simp only [List.mem_singleton] at hy
  subst hy
  exact k4
 .obtain ⟨h1,h2,h3⟩:=k5 i x hx
  have hi:i<n:=by rw [<-k1];exact (Array.getElem?_eq_some_iff.1 hx).1
  refine ⟨?_,h2,h3⟩
  rw [h1,List.getD,List.getElem?_range hi];rfl
theorem a1c {g:G} {w:World} {β:Base} {Q:y0J} {a c:List ByteArray} {v:List Int} {n:Nat} (hq:Q a c v) (h:(g1f a c v n).Ok g w β):(ObjS.bag Q).Ok g w β:=by
 obtain ⟨es,e,m⟩:=h
 refine ⟨a,c,v,n,es,hq,e,m.size,m.kl (.strs a) (by simp),m.kl (.strs c) (by simp),m.vl (.sc (.ints .i64 v)) (by simp),fun i x hx=> ?_⟩
 obtain ⟨h1,h2,h3⟩:=m.row i x hx
 have hi:i<n:=by rw [<-m.size];exact (Array.getElem?_eq_some_iff.1 hx).1
 refine ⟨?_,h2,h3⟩
 rw [h1,List.getD,List.getElem?_range hi];rfl
theorem s0s {g:G} {w:World} {β:Base} {ro:Bool} {Q:y0J} (h:BlkAt g β ro (.obj (.bag Q)) w):∃a c v n,Q a c v/\a.length=n/\c.length=n/\v.length=n/\BlkAt g β ro (.obj (g1f a c v n)) w:=by
 obtain ⟨a,c,v,n,hq,k1,k2,k3,k⟩:=g1g h.obj.2.2
 exact ⟨a,c,v,n,hq,k1,k2,k3,h.lt,h.es,trivial,fun i hi=>hi.elim,fun i j sv hi=>hi.elim,fun i j x hi=>hi.elim,h.rw,h.obj.1,h.obj.2.1,k⟩
theorem u0d {g:G} {w:World} {β:Base} {ro:Bool} {Q:y0J} {a c:List ByteArray} {v:List Int} {n:Nat} (hq:Q a c v) (h:BlkAt g β ro (.obj (g1f a c v n)) w):BlkAt g β ro (.obj (.bag Q)) w:=
 ⟨h.lt,h.es,trivial,fun i hi=>hi.elim,fun i j sv hi=>hi.elim,fun i j x hi=>hi.elim,h.rw,h.obj.1,h.obj.2.1,a1c hq h.obj.2.2⟩
theorem d0k {H:a0v} {k:Nat} {ro:Bool} {b b':Blk} {h q:Nat} {r:Bool} {x:Blk} (he:Ent ((k,some (.one ro b))::H) h q r x):(h=k/\q=0/\r=ro/\x=b/\Ent ((k,some (.one ro b'))::H) h q r b')\/(h≠k/\Ent ((k,some (.one ro b'))::H) h q r x):=by
 rcases a0E.1 he with ⟨rfl,hb,e1,e2,e3⟩|⟨hne,he⟩
 .cases e1
  exact .inl ⟨rfl,e2.1,e3.symm,e2.2,a0E.2 (.inl ⟨rfl,_,rfl,⟨e2.1,rfl⟩,e3⟩)⟩
 .exact .inr ⟨fun e=>hne e.symm,a0E.2 (.inr ⟨hne,he⟩)⟩
theorem u0e {g:G} {H:a0v} {w:World} {k:Nat} {ro:Bool} {b b':Blk} (hH:Holds g ((k,some (.one ro b))::H) w) (hb:∀β,BlkAt g β ro b w->BlkAt g β ro b' w):Holds g ((k,some (.one ro b'))::H) w:=by
 refine ⟨fun h q r x he=> ?_,fun h q h' q' x r' x' β β' hne he he'=> ?_⟩
 .rcases d0k (b':=b) he with ⟨rfl,rfl,rfl,rfl,he2⟩|⟨_,he2⟩
  .obtain ⟨β,e1,e2⟩:=hH.blk _ _ _ _ he2
   exact ⟨β,e1,hb β e2⟩
  .exact hH.blk _ _ _ _ he2
 .have h1:∃y,Ent ((k,some (HB.one ro b))::H) h q false y:=by
   rcases d0k (b':=b) he with ⟨_,_,_,_,he2⟩|⟨_,he2⟩
   .exact ⟨_,he2⟩
   .exact ⟨_,he2⟩
  have h2:∃y,Ent ((k,some (HB.one ro b))::H) h' q' r' y:=by
   rcases d0k (b':=b) he' with ⟨_,_,_,_,he2⟩|⟨_,he2⟩
   .exact ⟨_,he2⟩
   .exact ⟨_,he2⟩
  obtain ⟨y,h1⟩:=h1
  obtain ⟨y',h2⟩:=h2
  exact hH.sep h q h' q' y r' y' β β' hne h1 h2
theorem w0K {g:G} {H:a0v} {k:Nat} {ro:Bool} {b b':Blk}:e0G g ((k,some (.one ro b))::H)=e0G g ((k,some (.one ro b'))::H):=by
 have key:∀(b b':Blk) x,e0G g ((k,some (.one ro b))::H) x->e0G g ((k,some (.one ro b'))::H) x:=by
  rintro b b' x ⟨h,q,y,β,he,e1,e2,e3⟩
  rcases d0k (b':=b') he with ⟨_,_,_,_,he2⟩|⟨_,he2⟩
  .exact ⟨h,q,_,β,he2,e1,e2,e3⟩
  .exact ⟨h,q,_,β,he2,e1,e2,e3⟩
 funext x
 exact propext ⟨key b b' x,key b' b x⟩
theorem w0L {g:G} {H:a0v} {k:Nat} {ro:Bool} {b b':Blk} {W:Nat->Prop} {w0:World} (h:v0b g ((k,some (.one ro b))::H) W w0):v0b g ((k,some (.one ro b'))::H) W w0:=by
 intro x q y β he e1 e2
 rcases d0k (b':=b) he with ⟨_,_,_,_,he2⟩|⟨_,he2⟩
 .exact h x q _ β he2 e1 e2
 .exact h x q _ β he2 e1 e2
theorem u0f {H:a0v} {k:Nat} {b b':Blk} (h:e0t ((k,some (.one false b))::H)):e0t ((k,some (.one false b'))::H):=by
 intro x q r y he
 rcases d0k (b':=b) he with ⟨_,_,_,_,he2⟩|⟨_,he2⟩
 .exact h _ _ _ _ he2
 .exact h _ _ _ _ he2
section
variable {P:Program}
theorem p0g {α:Type} {n:Nat} {f:FuncId} {args:List SV} {H:a0v} {k:Nat} {ro:Bool} {b:Blk} {B:α->Blk} {A:α->Prop} {post post':SV->a0v->Nat->Prop}
  (hopen:∀(g:G) (w:World) (β:Base),BlkAt g β ro b w->∃x,A x/\BlkAt g β ro (B x) w)
  (hout:∀(g:G) (w w':World) (v:Value) (H0:a0v),Out g w n H0 post' v w'->Out g w n H0 post v w')
  (h:∀x,A x->FC P n f args ((k,some (.one ro (B x)))::H) post'):FC P n f args ((k,some (.one ro b))::H) post:=by
 have pick:∀(g:G) (w:World),Holds g ((k,some (.one ro b))::H) w->∃x,A x/\Holds g ((k,some (.one ro (B x)))::H) w:=by
  intro g w hH
  obtain ⟨β,e1,e2⟩:=hH.blk k 0 ro b (a0E.2 (.inl ⟨rfl,_,rfl,⟨rfl,rfl⟩,rfl⟩))
  obtain ⟨x,hx,e3⟩:=hopen g w β e2
  refine ⟨x,hx,?_⟩
  refine ⟨fun h q r y he=> ?_,?_⟩
  .rcases d0k (b':=b) he with ⟨rfl,rfl,rfl,rfl,he2⟩|⟨_,he2⟩
   .exact ⟨β,e1,e3⟩
   .exact hH.blk _ _ _ _ he2
  .intro h q h' q' y r' y' γ γ' hne he he'
   have h1:∃y,Ent ((k,some (HB.one ro b))::H) h q false y:=by
    rcases d0k (b':=b) he with ⟨_,_,_,_,he2⟩|⟨_,he2⟩<;>exact ⟨_,he2⟩
   have h2:∃y,Ent ((k,some (HB.one ro b))::H) h' q' r' y:=by
    rcases d0k (b':=b) he' with ⟨_,_,_,_,he2⟩|⟨_,he2⟩<;>exact ⟨_,he2⟩
   obtain ⟨z,h1⟩:=h1
   obtain ⟨z',h2⟩:=h2
   exact hH.sep h q h' q' z r' z' γ γ' hne h1 h2
 have back:∀(g:G) (w w':World) (v:Value) (x:α),Out g w n ((k,some (.one ro (B x)))::H) post' v w'->Out g w n ((k,some (.one ro b))::H) post v w':=by
  intro g w w' v x ho
  obtain ⟨sv,H1,n1,g',h1,h2,h3,h4,h5,h6,h7,h8,h9⟩:=hout g w w' v _ ho
  rw [w0K (b':=b)] at h8 h9
  exact ⟨sv,H1,n1,g',h1,h2,h3,h4,h5,h6,h7,h8,h9⟩
 by_cases hb:d0r P f
 .left
  refine ⟨hb,fun g w vals hg hu hH hv=> ?_⟩
  obtain ⟨x,hx,hH'⟩:=pick g w hH
  rcases h x hx with h|h
  .exact (h.2 g w vals hg hu hH' hv).mono fun e w' ⟨v,he,ho⟩=>⟨v,he,back g w w' v x ho⟩
  .obtain ⟨v,w',hr,_⟩:=h g w vals hg hu hH' hv
   rw [f0q hb] at hr;cases hr
 .right
  intro g w vals hg hu hH hv
  obtain ⟨x,hx,hH'⟩:=pick g w hH
  rcases h x hx with h|h
  .exact absurd h.1 hb
  .obtain ⟨v,w',hr,ho⟩:=h g w vals hg hu hH' hv
   exact ⟨v,w',hr,back g w w' v x ho⟩
structure BagX where
 a:List ByteArray
 c:List ByteArray
 v:List Int
 n:Nat
def BagX.ok (Q:y0J) (x:BagX):Prop:=Q x.a x.c x.v/\x.a.length=x.n/\x.c.length=x.n/\x.v.length=x.n
abbrev BagX.blk (x:BagX):Blk:= .obj (g1f x.a x.c x.v x.n)
theorem q0D {n:Nat} {g:G} {w w':World} {v:Value} {H0:a0v} {Q':y0J} {k' n':Nat} {r:SV} {H2:a0v} (ho:Out g w n H0 (fun sv H1 n1=>∃x:BagX,Q' x.a x.c x.v/\a0s r ((k',some (.one false x.blk))::H2) n' sv H1 n1) v w'):Out g w n H0 (a0s r ((k',some (.one false (.obj (.bag Q'))))::H2) n') v w':=by
 obtain ⟨sv,H1,n1,g',⟨x,hq,rfl,rfl,rfl⟩,h2,h3,h4,h5,h6,h7,h8,h9⟩:=ho
 exact ⟨_,_,_,g',⟨rfl,rfl,rfl⟩,h2,h3,h4,h5,u0e h6 (fun β hb=>u0d hq hb),u0f h7,h8,w0L h9⟩
theorem g1h {n:Nat} {f:FuncId} {args:List SV} {H:a0v} {k:Nat} {ro:Bool} {Q Q':y0J} {k' n':Nat} {r:SV} {H2:a0v}
  (h:∀x:BagX,x.ok Q->FC P n f args ((k,some (.one ro x.blk))::H) (fun sv H1 n1=>∃x':BagX,Q' x'.a x'.c x'.v/\a0s r ((k',some (.one false x'.blk))::H2) n' sv H1 n1)):
  FC P n f args ((k,some (.one ro (.obj (.bag Q))))::H) (a0s r ((k',some (.one false (.obj (.bag Q'))))::H2) n'):=
 p0g (A:=BagX.ok Q) (B:=BagX.blk) (fun g w β hb=>by
  obtain ⟨a,c,v,m,hq,k1,k2,k3,k4⟩:=s0s hb
  exact ⟨⟨a,c,v,m⟩,⟨hq,k1,k2,k3⟩,k4⟩) (fun g w w' v H0 ho=>q0D ho) h
theorem w0M {n:Nat} {f:FuncId} {args:List SV} {H:a0v} {k:Nat} {ro:Bool} {Q:y0J} {post:SV->a0v->Nat->Prop} (h:∀x:BagX,x.ok Q->FC P n f args ((k,some (.one ro x.blk))::H) post):
  FC P n f args ((k,some (.one ro (.obj (.bag Q))))::H) post:=
 p0g (A:=BagX.ok Q) (B:=BagX.blk) (fun g w β hb=>by
  obtain ⟨a,c,v,m,hq,k1,k2,k3,k4⟩:=s0s hb
  exact ⟨⟨a,c,v,m⟩,⟨hq,k1,k2,k3⟩,k4⟩) (fun g w w' v H0 ho=>ho) h
theorem u0g {n:Nat} {f:FuncId} {args:List SV} {H:a0v} {Q':y0J} {k' n':Nat} {r:SV} {H2:a0v} {x:BagX} (hq:Q' x.a x.c x.v) (h:FC P n f args H (a0s r ((k',some (.one false x.blk))::H2) n')):FC P n f args H (a0s r ((k',some (.one false (.obj (.bag Q'))))::H2) n'):=by
 rcases h with ⟨hb,h⟩|h
 .exact .inl ⟨hb,fun g w vals hg hu hH hv=>(h g w vals hg hu hH hv).mono fun e w' ⟨v,he,ho⟩=>⟨v,he,q0D (by obtain ⟨sv,H1,n1,g',h1,h2⟩:=ho;exact ⟨sv,H1,n1,g',⟨x,hq,h1⟩,h2⟩)⟩⟩
 .exact .inr fun g w vals hg hu hH hv=>by
   obtain ⟨v,w',hr,ho⟩:=h g w vals hg hu hH hv
   exact ⟨v,w',hr,q0D (by obtain ⟨sv,H1,n1,g',h1,h2⟩:=ho;exact ⟨sv,H1,n1,g',⟨x,hq,h1⟩,h2⟩)⟩
end
end Go.Sy
namespace Go.Sy
open Go.RowKit
theorem w0N {n m h nb h' k:Nat} {ns:List Nat} {R:Nat->Nat->Option (Nat×Nat)} (hl:ns.length=m) (hn:n<=h') (h1:∀q,q<m->R h' q=some (h,q)) (h2:R h' m=some (nb,0)):∀i,i<m+1->SLe n R ((BCol.svs (i0F h ns++ [.sl nb 0 0 k])).at i) ((BCol.own h' (ns++ [k])).at i):=by
 intro i hi
 by_cases e:i<m
 .have e1:(BCol.svs (i0F h ns++ [.sl nb 0 0 k])).at i= .sl h i 0 (ns.getD i 0):=by
   show (i0F h ns++ [SV.sl nb 0 0 k]).getD i .unk=_
   rw [List.getD,List.getElem?_append_left (by rw [b0N];omega)]
   exact d0T (by omega)
  have e2:(BCol.own h' (ns++ [k])).at i= .sl h' i 0 (ns.getD i 0):=by
   show SV.sl h' i 0 ((ns++ [k]).getD i 0)=_
   rw [List.getD,List.getElem?_append_left (by omega)];rfl
  rw [e1,e2]
  exact l0T hn (h1 i e)
 .have ei:i=m:=by omega
  subst ei
  have e1:(BCol.svs (i0F h ns++ [.sl nb 0 0 k])).at i= .sl nb 0 0 k:=by
   show (i0F h ns++ [SV.sl nb 0 0 k]).getD i .unk=_
   rw [List.getD,List.getElem?_append_right (by rw [b0N];omega),b0N,show i-ns.length=0 from by omega];rfl
  have e2:(BCol.own h' (ns++ [k])).at i= .sl h' i 0 k:=by
   show SV.sl h' i 0 ((ns++ [k]).getD i 0)=_
   rw [List.getD,List.getElem?_append_right (by omega),show i-ns.length=0 from by omega];rfl
  rw [e1,e2]
  exact l0T hn h2
theorem a1d {H:a0v} {n a b g m k:Nat} {ns:List Nat} {dom:Nat->Prop} {f F:Nat->Blk} {bg:Blk} (hl:ns.length=m) (ha:a<n) (hta:a0J H a=some (.one false (.cols (m+1) [.svs (i0F b ns++ [.sl g 0 0 k])]))) (hb:a0J H b=some (.fam false dom f)) (hdom:∀q,q<m->dom q)
  (hg:a0J H g=some (.one false bg)) (hba:b≠a) (hga:g≠a) (hbg:b≠g) (hF:∀q,q<m->F q=f q) (hFm:F m=bg):
  Relab H n (gdR n m [⟨b,g,F⟩]) (fun _=>0) [(a,some (.one false (.cols (m+1) [.own n (ns++ [k])]))),(n+0,some (.fam false (fun x=>x<m+1) F))] [b,g] 1:=by
 have r0:∀q,q<m->gdR n m [⟨b,g,F⟩] n q=some (b,q):=fun q hq=>h0O (i:=0) (D:= [⟨b,g,F⟩]) rfl hq
 have s0:gdR n m [⟨b,g,F⟩] n m=some (g,0):=h0P (i:=0) (D:= [⟨b,g,F⟩]) rfl
 refine h0Q (n:=n) (m:=m) (th:=a) [⟨b,g,F⟩] ha hta (i0J ?_) ?_ ?_
 .refine ⟨⟨fun _=> ?_,w0N hl (Nat.le_refl _) r0 s0⟩,trivial⟩
  show (ns++ [k]).length=m+1
  rw [List.length_append,List.length_singleton];omega
 .refine ⟨⟨hba,hga,⟨dom,f,hb,fun q hq=>⟨hdom q hq,.inl (hF q hq)⟩⟩,bg,hg,.inl hFm⟩,trivial⟩
 .show (!(Nat.beq g b||false)&&(!false&&true))=true
  have:Nat.beq g b=false:=by
   cases e:Nat.beq g b with
   |false=>rfl
   |true=>exact absurd (Nat.eq_of_beq_eq_true e).symm hbg
  rw [this];rfl
theorem w0O {H:a0v} {n a:Nat} {F:Nat->Blk} (ha:a<n) (hta:a0J H a=some (.one false (.cols 0 [.svs []]))):
  Relab H n (fun _ _=>none) (fun _=>0) [(a,some (.one false (.cols 0 [.own n []]))),(n+0,some (.fam false (fun x=>x<0) F))] [] 1:=by
 refine h0R (n:=n) (th:=a) [⟨0,0,F⟩] ha hta (i0J ⟨⟨fun _=>rfl,fun i hi=>absurd hi (Nat.not_lt_zero _)⟩,trivial⟩)
end Go.Sy
namespace Go.Sy
open Go.RowKit
def g1i (P:Program) (t:TypeId) (name:String):Option FuncId:=
 match P.info? t,P.underlying t with
 |some _,some (.pointer _)=>none
 |some ti,some _=>(match ti.methods.find? (·.name==name) with
  |some m=>(match m.path.toList,m.func with
   | [],some (f,false)=>some f
   |_,_=>none)
  |none=>none)
 |_,_=>none
theorem c0V {P:Program} {t:TypeId} {name:String} {f:FuncId} (h:g1i P t name=some f):n0W P t name f:=by
 unfold g1i at h
 split at h
 .cases h
 .rename_i ti d hnp hi hd
  split at h
  .rename_i m hm
   split at h
   .rename_i f' hp hf
    simp only [Option.some.injEq] at h
    subst h
    intro v w
    have e:P.types.size+Made.depth=(P.types.size+(Made.depth-1))+1:=by unfold Made.depth;omega
    rw [e]
    have hti:(typeInfo t).run P w= .ok ti w:=by simp [typeInfo,hi]
    have hun:(underlying t).run P w= .ok d w:=run_underlying hd w
    have hpe:m.path= #[]:=by apply Array.ext';simpa using hp
    unfold method
    simp only [Sem.run_bind,hti,Result.andThen_ok,hm,hp,follow,Sem.run_pure,hf,receiverAt,hun]
    cases d<;>first|(exact absurd rfl (hnp _))|simp [Place.get,hpe]
   .cases h
  .cases h
 .cases h
end Go.Sy
namespace Go.Sy
open Go.RowKit
section
variable {P:Program}
def e0J (L:List ByteArray) (sep:ByteArray):ByteArray:=⟨(Lib.join (L.map (·.data.toList)) sep.data.toList).toArray⟩
def i1j (P:Program) (f:FuncId):Prop:=∀(bk o c:Nat) (xs:List ByteArray) (sep:ByteArray) (w:World),(∀(j:Nat) x,xs[j]?=some x->w.cell? ⟨bk,o+j,none⟩=some (.string x))->bk<w.heap.size->xs.length<=140737488355328->xs.length<=c->(Lib.join (xs.map (·.data.toList)) sep.data.toList).length<=140737488355328->
 Calls P f #[.slice (some ⟨bk,o,none⟩) xs.length c,.string sep] w fun e w'=>e= .returned (.string ⟨(Lib.join (xs.map (·.data.toList)) sep.data.toList).toArray⟩)/\Below w.heap.size w w'
theorem d1D {f:FuncId} (hj:i1j P f) (hbd:d0r P f) (n:Nat) (L:List ByteArray) (sep:ByteArray) (h0:0<n) (hN:n<=1000000) (hlen:(e0J L sep).size<=140737488355328):
  FC P 2 f [.sl 1 0 0 n,.str sep] [(1,some (.one true (.cols n [.sc (.strs L)])))] (a0s (.str (e0J L sep)) [] 2):=by
 refine Or.inl ⟨hbd,fun g w vals hg hu hH hvs=> ?_⟩
 obtain ⟨v,vs',rfl,hv0,hv1⟩:=hvs
 obtain ⟨v2,vs2,rfl,hv2,hv3⟩:=hv1
 simp only [Rvs] at hv3
 subst hv3
 simp only [Rv] at hv2
 subst hv2
 obtain ⟨a,c,rfl,hnc,hc⟩:=rsv hv0
 have hE:Ent [(1,some (HB.one true (Blk.cols n [.sc (.strs L)])))] 1 0 true (Blk.cols n [.sc (.strs L)]):=⟨_,rfl,⟨rfl,rfl⟩,rfl⟩
 obtain ⟨β,hgβ,hB⟩:=hH.blk 1 0 true _ hE
 have hL:L.length=n:=hB.len _ (List.mem_singleton.2 rfl)
 have hes:β.es=1:=hB.es
 obtain hc|⟨β',hg',ha,hcap⟩:=hc
 .omega
 rw [hgβ] at hg'
 cases hg'
 have hcp:0<β.cap:=by omega
 subst ha
 have hlt:=hB.lt hcp
 have hca:=hj β.blk β.off c L sep w (fun j x hx=>by
  obtain ⟨hj',hxe⟩:=List.getElem?_eq_some_iff.1 hx
  obtain ⟨v,e1,e2⟩:=hB.cell j 0 _ (show j<n by omega) rfl
  rw [f0c hes] at e1
  rw [e1]
  have e3:(BCol.sc (.strs L)).at j= .str x:=by
   show SV.str (L.getD j ⟨#[]⟩)=_
   rw [List.getD,hx];rfl
  rw [e3] at e2
  simp only [Rv] at e2
  rw [e2]) hlt (by omega) (by omega) (by
   have:(e0J L sep).size=(Lib.join (L.map (·.data.toList)) sep.data.toList).length:=by unfold e0J;simp [ByteArray.size]
   omega)
 rw [hL] at hca
 have ea:β.addr 0 0=⟨β.blk,β.off,none⟩:=by rw [f0c hes];rfl
 rw [ea]
 refine hca.mono ?_
 rintro e w' ⟨rfl,hb⟩
 refine ⟨_,rfl,_,_,_,g,⟨rfl,rfl,rfl⟩,Nat.le_refl _,hu,fun _ _ _=>rfl,by simp only [Rv];rfl,⟨?_,?_⟩,a0k,⟨hb.os,hb.tape,hb.output,hb.size,fun k hk _=>hb.block k hk⟩,?_⟩
 .intro h q ro b he;obtain ⟨hb,e,_⟩:=he;simp [a0J] at e
 .intro h q h' q' b ro' b' β β' _ he;obtain ⟨hb,e,_⟩:=he;simp [a0J] at e
 .intro h q b β he;obtain ⟨hb,e,_⟩:=he;simp [a0J] at e
end
end Go.Sy
namespace Go.Sy
open Go.RowKit
theorem a1H {P:Program} {f:FuncId} {args:List SV} {vals:List Value} (L:List ByteArray) (ty:TypeId) (hbd:d0r P f) (hv:∀g vs,Rvs g args vs->vs=vals)
  (hc:∀w,Calls P f vals.toArray w (fun e w'=>e= .returned (.slice (some ⟨w.heap.size,0,none⟩) L.length L.length)/\w'=w.alloc (.cells (L.map Value.string).toArray ty))):
  FC P 1 f args [] (a0s (.sl 1 0 0 L.length) [(1,some (.one false (.cols L.length [.sc (.strs L)])))] 2):=by
 refine Or.inl ⟨hbd,fun g w vs hg hu hH hvs=> ?_⟩
 rw [hv g vs hvs]
 refine (hc w).mono ?_
 rintro e w' ⟨rfl,rfl⟩
 have A:=e0V (g:=g) (H:= []) (nx:=1) (w:=w) (r:= .sl 1 0 0 L.length) (cs:=(L.map Value.string).toArray) (ty:=ty) (bl:= .cols L.length [.sc (.strs L)]) (cap:=L.length) (v:= .slice (some ⟨w.heap.size,0,none⟩) L.length L.length) (w':=w.alloc (.cells (L.map Value.string).toArray ty))
  (.inl rfl) hH rfl rfl rfl rfl (fun q=>hu 1 q (Nat.le_refl _))
  (by
   intro c hc
   rw [List.mem_singleton] at hc
   subst hc;rfl)
  (by
   intro v hv
   rw [List.toList_toArray] at hv
   obtain ⟨s,_,rfl⟩:=List.mem_map.1 hv
   rfl)
  (by show L.length*1<=(L.map Value.string).toArray.size;simp)
  (fun i hi=>hi)
  (by
   intro i j sv hi hj
   have hi':i<L.length:=hi
   cases j with
   |zero=>
    simp only [Blk.at,nth,Option.some.injEq] at hj
    subst hj
    refine ⟨.string (L[i]),?_,?_⟩
    .show (L.map Value.string).toArray[i*1+0]?=_
     rw [Nat.mul_one,Nat.add_zero,List.getElem?_toArray,List.getElem?_map,List.getElem?_eq_getElem hi'];rfl
    .show Rv g (.str (L.getD i ⟨#[]⟩)) _
     rw [List.getD,List.getElem?_eq_getElem hi']
     simp only [Rv];rfl
   |succ j=>simp [Blk.at,nth] at hj)
  (o0d (Nat.le_refl _))
 refine ⟨_,rfl,_,_,_,_,⟨rfl,rfl,rfl⟩,by decide,?_,?_,A.rv,by simpa using A.heap,a0d a0k,A.fr,by simpa using A.own⟩
 .intro h q hh
  exact A.born h q (hu h q (by omega)) (by omega)
 .intro h q hh
  simp only [G.add]
  rw [if_neg (fun x=>by omega)]
end Go.Sy
namespace Go.Sy
open Go.RowKit
def FCD (P:Program) (n:Nat) (f:FuncId) (args:List SV) (H:a0v) (post:SV->a0v->Nat->Prop):Prop:=
 ∀(g:G) (w:World) (vals:List Value) (u:FrameMode),d0r P f/\(g.glob->g.upto n->Holds g H w->Rvs g args vals->CallsD P f vals.toArray u w (fun e u' w'=>u'=u/\∃v,e= .returned v/\Out g w n H post v w'))
section
variable {P:Program} {T:Tab} {g:G} {C:Ctx} {vs:VS} {a:Act} {w:World}
theorem c1s (hname:True) {n:Nat} {N:Nat} {args:List SV} {H:a0v} {vals:List Value} (hNle:args.length<=N) (hg:g.glob) (hup:g.upto n) (hH:Holds g H w) (hv:Rvs g args vals):
  Rel ⟨g,n,w,e0G g H,N,[]⟩ g ⟨m0z 0 args,H,n⟩ { tmps:=vals.toArray++Array.replicate (N-vals.toArray.size) undef,defers:= []} w:=by
 have hlen:=Rvs.length _ _ hv
 refine ⟨?_,?_,rfl,hg,hup,Nat.le_refl _,fun _ _ _=>rfl,hH,Fr.refl _ _,fun h q b β he hgb hc=> .inl ⟨h,q,b,β,he,hgb,hc,rfl⟩⟩
 .intro t sv ht
  obtain ⟨_,v,h1,h2⟩:=n0a args vals 0 hv t sv ht
  have hlt:t<vals.length:=by
   rcases Nat.lt_or_ge t vals.length with h|h
   .exact h
   .simp only [Nat.sub_zero] at h1;rw [List.getElem?_eq_none h] at h1;cases h1
  have e:(vals.toArray++Array.replicate (N-vals.toArray.size) undef).getD t undef=v:=by
   rw [Array.getD_eq_getD_getElem?,Array.getElem?_append_left (by simpa using hlt)]
   simp only [Nat.sub_zero] at h1
   simp [h1]
  show Rv g sv ((vals.toArray++Array.replicate (N-vals.toArray.size) undef).getD t undef)
  rw [e];exact h2
 .show (vals.toArray++Array.replicate (N-vals.toArray.size) undef).size=N
  simp;omega
theorem t0f (hT:b0t P T) {fn:Func} {post:SV->a0v->Nat->Prop} {H:a0v} (hg0:C.W=e0G C.g H) (hR:Rel C g vs a w) (hk:t0v T vs fn.results.toList (fun l=>a0Y C.n0 post (d0a l) vs)):
  ∃v,(results fn a.tmps).run P w= .ok v w/\Out C.g C.w C.n0 H post v w:=by
 obtain ⟨svs,v,h1,h2,h3⟩:=l0Q hT hR hk
 obtain ⟨l,u,r0,H0,n1,hu,hp⟩:=h1
 obtain ⟨gu,vu,Ru,hle,ro⟩:=o0K u vs g _ hR hu
 obtain ⟨g0,hB,k1,k2,k3,k4,k5,k6⟩:=m0Z Ru ro.ids ro.heap
 refine ⟨v,h3,r0,H0,n1,g0,hp,k3,k2,k4,Rv.back hB r0 v (by rw [<-ro.res];exact Rv.mono hle _ _ h2),k5,ro.rw,?_,?_⟩
 .rw [<-hg0];exact Ru.fr
 .rw [<-hg0];exact k6
theorem i1G (hm:P.follows .mixedOrders=true) (hT:b0t P T) {n:Nat} {f:FuncId} {fn:Func} {c:Code} (hf:P.funcs[f]?=some fn) (hb:fn.body=some c) (hname:(fn.name=="runtime.NumGoroutine")=false) {args:List SV} {H:a0v} {post:SV->a0v->Nat->Prop}
  (hN:Nat.ble args.length fn.ntmps=true) (hok:c0o fn.ntmps c=true) (h:c0t P T n c ⟨m0z 0 args,H,n⟩ (h1U T n fn.results.toList post)):FCD P n f args H post:=by
 intro g w vals u
 refine ⟨⟨fn,c,hf,hb,hname⟩,fun hg hup hH hv=> ?_⟩
 refine callsD_of_wp hf hb ?_
 refine a0X (C:=⟨g,n,w,e0G g H,fn.ntmps,[]⟩) hm hT c _ g _ w _ _ hok (c1s trivial (Nat.le_of_ble_eq_true hN) hg hup hH hv) h ?_
 intro e vs' g' a' w' hk hR
 cases e with
 |normal=>
  obtain ⟨v,h1,h2⟩:=t0f hT rfl hR hk
  exact ⟨hR.defers,v,h1,v,rfl,h2⟩
 |ret=>
  obtain ⟨v,h1,h2⟩:=t0f hT rfl hR hk
  exact ⟨hR.defers,v,h1,v,rfl,h2⟩
 |_=>exact hk.elim
def k0E:List Oper->Bool
 | []=>false
 |o::r=>match r with
  | []=>(match o.op with| .defer _=>true|_=>false)
  |_::_=>k0E r
def y0d (P:Program) (T:Tab) (ops:List Oper):List Oper->VS->(SV->VS->Prop)->Prop
 | [],_,_=>False
 |o::r,vs,K=>match r with
  | []=>(match o.op,o.dst,o.guard with
    | .defer ⟨.value fo,args,_⟩,none,none=>(match args.toList,gv vs fo with
      | [],some (.fn f cap)=>K (.fn f cap) vs
      |_,_=>False)
    |_,_,_=>False)
  |_::_=>match c0R ops o with
   |none=>vop P T ops o vs (fun vs'=>y0d P T ops r vs' K)
   |some _=>False
def y0e (f:VS->Prop) (K:Exit->VS->Prop):Exit->VS->Prop:=fun e vs'=>match e with| .normal=>f vs'|e=>K e vs'
def m0m (P:Program) (T:Tab) (n0:Nat):Code->VS->(Exit->VS->Prop)->(SV->Exit->VS->Prop)->Prop
 | .seq a b,vs,K0,K1=>(match a with
   | .region _ ops draw=>bif k0E ops.toList then (bif draw then False else y0d P T ops.toList ops.toList vs (fun sv v=>c0t P T v.next b v (K1 sv))) else c0t P T n0 a vs (y0e (fun v=>m0m P T n0 b v K0 K1) K0)
   |_=>c0t P T n0 a vs (y0e (fun v=>m0m P T n0 b v K0 K1) K0))
 |c,vs,K0,_=>c0t P T n0 c vs K0
theorem t0g (hT:b0t P T) {ops:Array Oper} {Q:Exit->Act->World->Prop}:∀(l:List Oper) (vs:VS) (g:G) (a:Act) (w:World) (K:SV->VS->Prop),e0T C.N l=true->Rel C g vs a w->y0d P T ops.toList l vs K->
  (∀f cap cs vs' g' a' w',K (.fn f cap) vs'->Rvs g' cap cs.toList->Rel C g' vs' a' w'->Q .normal { a' with defers:=⟨.fn (.func f) cs,#[]⟩::a'.defers} w')->wpList P ops Q l a w
 | [],vs,g,a,w,K,_,R,h,hq=>h.elim
 | [o],vs,g,a,w,K,hds,R,h,hq=>by
   simp only [y0d] at h
   split at h
   .rename_i fo args ts hop hdst hgd
    split at h
    .rename_i f cap hargs hf
     have hfv:=a0N R.glob R.env hf
     simp only [Rv] at hfv
     obtain ⟨cs,hcs,hcr⟩:=hfv
     have ha:args= #[]:=by apply Array.ext';rw [hargs]
     subst ha
     have hrun:(execOp a.eval o).run P w= .ok (.defer ⟨.fn (.func f) cs,#[]⟩) w:=by
      simp [execOp,hop,resolve,hcs,Deferred.ofValue]
     unfold wpList
     rw [if_pos (by simp [Region.wanted,hgd])]
     refine .inl ?_
     simp only [Oper.wp,hrun,Oper.upon_defer,hdst]
     unfold wpList
     exact hq f cap cs vs g a w h hcr R
    .exact h.elim
   .exact h.elim
 |o::p::l,vs,g,a,w,K,hds,R,h,hq=>by
  simp only [e0T,Bool.and_eq_true] at hds
  have hd:∀d,o.dst=some d->d<C.N:=by
   intro d e
   have:=hds.1
   rw [e] at this
   exact Nat.le_of_ble_eq_true this
  simp only [y0d] at h
  split at h
  .exact v0M hT R hd h (fun vs' g' a' w' k1 k2=>t0g hT (p::l) vs' g' a' w' K (by simp only [e0T,Bool.and_eq_true];exact hds.2) k2 k1 hq)
  .exact h.elim
theorem p0z (hm:P.follows .mixedOrders=true) (hT:b0t P T) {Q:Exit->Act->World->Prop}:∀(c:Code) (vs:VS) (g:G) (a:Act) (w:World) (K0:Exit->VS->Prop) (K1:SV->Exit->VS->Prop),c0o C.N c=true->Rel C g vs a w->m0m P T C.n0 c vs K0 K1->
  (∀e vs' g' a' w',K0 e vs'->Rel C g' vs' a' w'->Q e a' w')->
  (∀n1 g1 f cap cs,C.n0<=n1->g1.upto n1->(∀h q,h<C.n0->g1 h q=C.g h q)->Rvs g1 cap cs.toList->∀e vs' g' a' w',K1 (.fn f cap) e vs'->Rel ⟨g1,n1,C.w,C.W,C.N,⟨.fn (.func f) cs,#[]⟩::C.ds⟩ g' vs' a' w'->Q e a' w')->c.wp P Q a w
 | .seq x b,vs,g,a,w,K0,K1,ho,R,h,hq,hq1=>by
   simp only [c0o,Bool.and_eq_true] at ho
   have plain:c0t P T C.n0 x vs (y0e (fun v=>m0m P T C.n0 b v K0 K1) K0)->(Code.seq x b).wp P Q a w:=by
    intro h
    refine wp_seq (a0X hm hT x vs g a w _ _ ho.1 R h ?_)
    intro e vs' g' a' w' k1 k2
    cases e with
    |normal=>exact p0z hm hT b vs' g' a' w' K0 K1 ho.2 k2 k1 hq hq1
    |_=>exact hq _ _ _ _ _ k1 k2
   simp only [m0m] at h
   split at h
   .rename_i id ops draw
    cases hl:k0E ops.toList with
    |false=>rw [hl] at h;exact plain h
    |true=>
     rw [hl] at h
     simp only [cond_true] at h
     cases draw with
     |true=>exact h.elim
     |false=>
      simp only [cond_false] at h
      have ho1:=ho.1
      simp only [c0o,Bool.and_eq_true] at ho1
      refine wp_seq (wp_region_list (t0g hT ops.toList vs g a w _ ho1.1 R h ?_))
      intro f cap cs vs' g' a' w' k1 k2 k3
      have R':Rel ⟨g',vs'.next,C.w,C.W,C.N,⟨.fn (.func f) cs,#[]⟩::C.ds⟩ g' vs' { a' with defers:=⟨.fn (.func f) cs,#[]⟩::a'.defers} w':=
       ⟨k3.env,k3.size,by show _::a'.defers=_;rw [k3.defers],k3.glob,k3.upto,Nat.le_refl _,fun _ _ _=>rfl,k3.heap,k3.fr,k3.own⟩
      exact a0X (C:=⟨g',vs'.next,C.w,C.W,C.N,⟨.fn (.func f) cs,#[]⟩::C.ds⟩) hm hT b vs' g' _ w' (K1 (.fn f cap)) Q ho.2 R' k1 (fun e v2 g2 a2 w2 h1 h2=>hq1 vs'.next g' f cap cs k3.lo k3.upto k3.keep k2 e v2 g2 a2 w2 h1 h2)
   .exact plain h
 | .skip,vs,g,a,w,K0,K1,ho,R,h,hq,_=>a0X hm hT _ vs g a w K0 Q ho R h hq
 | .region _ _ _,vs,g,a,w,K0,K1,ho,R,h,hq,_=>a0X hm hT _ vs g a w K0 Q ho R h hq
 | .cond _ _ _,vs,g,a,w,K0,K1,ho,R,h,hq,_=>a0X hm hT _ vs g a w K0 Q ho R h hq
 | .block _ _,vs,g,a,w,K0,K1,ho,R,h,hq,_=>a0X hm hT _ vs g a w K0 Q ho R h hq
 | .loop _,vs,g,a,w,K0,K1,ho,R,h,hq,_=>a0X hm hT _ vs g a w K0 Q ho R h hq
 | .exit _,vs,g,a,w,K0,K1,ho,R,h,hq,_=>a0X hm hT _ vs g a w K0 Q ho R h hq
 | .ret,vs,g,a,w,K0,K1,ho,R,h,hq,_=>a0X hm hT _ vs g a w K0 Q ho R h hq
 | .label _,vs,g,a,w,K0,K1,ho,R,h,hq,_=>a0X hm hT _ vs g a w K0 Q ho R h hq
 | .scope _,vs,g,a,w,K0,K1,ho,R,h,hq,_=>a0X hm hT _ vs g a w K0 Q ho R h hq
def e1v (P:Program) (T:Tab) (n0:Nat) (rs:List ResultVar) (post:SV->a0v->Nat->Prop) (f:FuncId) (cap:List SV) (vs:VS):Prop:=
 ∃(l:List Nat) (args0:List SV) (H:a0v) (post0:SV->a0v->Nat->Prop),FCD P l.length f args0 H post0/\Fits l vs.next cap args0 H vs.heap/\
  ∀sv H' n',post0 sv H' n'->l0s vs none sv (l0q (rho l vs.next) H'++l0r (rho l vs.next) H) (n'-l.length) (fun v=>t0v T v rs (fun m=>a0Y n0 post (d0a m) v))
def j1w (P:Program) (T:Tab) (n0:Nat) (rs:List ResultVar) (post:SV->a0v->Nat->Prop):SV->Exit->VS->Prop
 | .fn f cap,.normal,vs=>e1v P T n0 rs post f cap vs
 | .fn f cap,.ret,vs=>e1v P T n0 rs post f cap vs
 |_,_,_=>False
theorem e1w {g1 g2:G} {n:Nat} (hu:g1.upto n) (hk:∀h q,h<n->g2 h q=g1 h q):G.le g1 g2:=by
 intro h q β e
 rcases Nat.lt_or_ge h n with hh|hh
 .rw [hk h q hh];exact e
 .rw [hu h q hh] at e;cases e
theorem g0v (hm:P.follows .mixedOrders=true) (hT:b0t P T) {n:Nat} {f:FuncId} {fn:Func} {c:Code} (hf:P.funcs[f]?=some fn) (hb:fn.body=some c) (hname:(fn.name=="runtime.NumGoroutine")=false) {args:List SV} {H:a0v} {post:SV->a0v->Nat->Prop}
  (hN:Nat.ble args.length fn.ntmps=true) (hok:c0o fn.ntmps c=true) (h:m0m P T n c ⟨m0z 0 args,H,n⟩ (h1U T n fn.results.toList post) (j1w P T n fn.results.toList post)):FC P n f args H post:=by
 refine .inl ⟨⟨fn,c,hf,hb,hname⟩,?_⟩
 intro g w vals hg hup hH hv
 refine calls_of_wp_defers hf hb ?_
 refine p0z (C:=⟨g,n,w,e0G g H,fn.ntmps,[]⟩) hm hT c _ g _ w _ _ hok (c1s trivial (Nat.le_of_ble_eq_true hN) hg hup hH hv) h ?_ ?_
 .intro e vs' g' a' w' hk hR
  have fin:t0v T vs' fn.results.toList (fun l=>a0Y n post (d0a l) vs')->Leaves P fn a'.tmps (fun e w'=>∃v,e= .returned v/\Out g w n H post v w') a'.defers .returning w':=by
   intro hk
   obtain ⟨v,h1,h2⟩:=t0f hT rfl hR hk
   rw [show a'.defers= [] from hR.defers]
   exact ⟨v,h1,v,rfl,h2⟩
  cases e with
  |normal=>exact fin hk
  |ret=>exact fin hk
  |_=>exact hk.elim
 .intro n1 g1 f1 cap cs hn1 hup1 hkeep hcs e vs' g' a' w' hk hR
  have fin:e1v P T n fn.results.toList post f1 cap vs'->Leaves P fn a'.tmps (fun e w'=>∃v,e= .returned v/\Out g w n H post v w') a'.defers .returning w':=by
   rintro ⟨l,args0,H0,post0,hfc,hfit,hk⟩
   rw [show a'.defers= [⟨.fn (.func f1) cs,#[]⟩] from hR.defers]
   have hcap:Rvs g' cap cs.toList:=Rvs.mono (e1w hup1 hR.keep) _ _ hcs
   obtain ⟨g0,k1,k2,k3,k4,k5⟩:=o0y hfit hR.glob hR.heap hcap (fun _ _ _ _ h q hh _=>hR.upto h q hh)
   obtain ⟨hbd,hcd⟩:=hfc g0 w' cs.toList .returning
   refine leaves_cons (by simp) (args:=cs) (f:=f1) ?_ ?_
   .simp only [invoke]
    rw [f0q hbd];simp
   .refine CallsD.mono (by simpa using hcd k1 k2 k3 k4) ?_
    rintro e1 u1 w1 ⟨rfl,v1,rfl,ho⟩
    obtain ⟨sv,H',n',g2,hp,A⟩:=k5 v1 w1 ho
    have R2:Rel ⟨g1,n1,w,e0G g H,fn.ntmps,[⟨.fn (.func f1) cs,#[]⟩]⟩ g2 _ _ w1:=b0A (o:=⟨none,.move (.tmp 0),0,"",#[],none⟩) hR A (by intro x e;cases e)
    have R3:Rel ⟨g,n,w,e0G g H,fn.ntmps,[]⟩ g2 ⟨vs'.env,(l0q (rho l vs'.next) H'++l0r (rho l vs'.next) H0)++vs'.heap,vs'.next+(n'-l.length)⟩ { tmps:=a'.tmps,defers:= []} w1:=
     ⟨R2.env,R2.size,rfl,R2.glob,R2.upto,Nat.le_trans hn1 R2.lo,fun h q hh=>(R2.keep h q (Nat.lt_of_lt_of_le hh hn1)).trans (hkeep h q hh),R2.heap,R2.fr,R2.own⟩
    have h3:=b0X.1 (hk sv H' n' hp)
    obtain ⟨v,h4,h5⟩:=t0f hT rfl R3 h3
    exact ⟨v,h4,v,rfl,h5⟩
  cases e with
  |normal=>exact fin hk
  |ret=>exact fin hk
  |_=>exact hk.elim
theorem y0f {l:List Nat} {n0:Nat} {rs:List ResultVar} {post:SV->a0v->Nat->Prop} {f:FuncId} {cap args0:List SV} {vs:VS} {H H':a0v} {r:SV} {n':Nat} (hc:FCD P l.length f args0 H (a0s r H' n'))
  (hk:l0s vs none r (l0q (rho l vs.next) H'++l0r (rho l vs.next) H) (n'-l.length) (fun v=>t0v T v rs (fun m=>a0Y n0 post (d0a m) v)))
  (h1:n0V l=true:=by exact rfl) (h2:r0B (rho l vs.next) H H=true:=by exact rfl) (h3:cap=SV.rens (rho l vs.next) args0:=by exact rfl) (h4:SV.wfs l.length args0=true:=by exact rfl)
  (h5:f0O l.length H:=by (repeat' (first|exact trivial|exact z0B|exact fun _ _=>rfl|constructor));first|done|fail)
  (h6:e0S (rho l vs.next) H vs.heap:=by (repeat' (first|exact trivial|exact n0b rfl|constructor));first|done|fail):e1v P T n0 rs post f cap vs:=
 ⟨l,args0,H,_,hc,⟨h1,h2,h3,h4,h5,h6⟩,by rintro sv H1 n1 ⟨rfl,rfl,rfl⟩;exact hk⟩
end
end Go.Sy
namespace Go.Sy
open Go.RowKit Go.ChangeShapes Go.WideShapes Go.Deep
inductive K2 where
 |sc (c:CK)
 |sl (ks:List CK)
def j1e (w:World) (ks:List CK) (v:Value) (n:Nat) (β:Base) (cols:List Col):Prop:=
 n<=maxLen/\b0k ks cols n/\(∀(g:G) (h q:Nat),g h q=some β->Rv g (.sl h q 0 n) v)/\(∀g:G,BlkAt g β true (.cols n (b0b cols)) w)
def l0j (w:World):K2->Value->Prop
 | .sc c,v=>c0U c v
 | .sl ks,v=>v.oneCell'=true/\∃n β cols,j1e w ks v n β cols
def AllOk2 (w:World):List K2->List Value->Prop
 | [],vs=>vs= []
 |c::cs,vs=>∃v r,vs=v::r/\l0j w c v/\AllOk2 w cs r
theorem AllOk2.append {w:World}:∀(a b:List K2) (vs:List Value),AllOk2 w a (vs.take a.length)->AllOk2 w b (vs.drop a.length)->AllOk2 w (a++b) vs
 | [],b,vs,_,h=>by simpa using h
 |c::a,b,vs,h1,h2=>by
  cases vs with
  |nil=>simp only [List.length_cons,List.take_nil,AllOk2] at h1;obtain ⟨v,r,e,_⟩:=h1;cases e
  |cons v vs=>
   simp only [List.length_cons,List.take_succ_cons,AllOk2] at h1
   obtain ⟨v',r,e,hc,hr⟩:=h1
   simp only [List.cons.injEq] at e
   obtain ⟨rfl,rfl⟩:=e
   simp only [List.cons_append,AllOk2]
   exact ⟨v,vs,rfl,hc,AllOk2.append a b vs hr (by simpa using h2)⟩
theorem AllOk2.nth {w:World}:∀(ks:List K2) (vs:List Value) (j:Nat) (c:K2),AllOk2 w ks vs->Sy.nth ks j=some c->∃v,vs[j]?=some v/\l0j w c v
 | [],vs,j,c,_,h=>by simp [Sy.nth] at h
 |k::ks,vs,j,c,h,hj=>by
  simp only [AllOk2] at h
  obtain ⟨v,r,rfl,h1,h2⟩:=h
  cases j with
  |zero=>simp [Sy.nth] at hj;subst hj;exact ⟨v,by simp,h1⟩
  |succ j=>simp only [Sy.nth] at hj;obtain ⟨u,h3,h4⟩:=AllOk2.nth ks r j c h2 hj;exact ⟨u,by simpa using h3,h4⟩
mutual
def r0m (P:Program):Nat->TypeId->Option (List K2)
 |0,_=>none
 |n+1,t=>match P.underlying t with
  |some .bool=>some [.sc .bool]
  |some (.int k)=>some [.sc (.int k)]
  |some .string=>some [.sc .str]
  |some (.slice e)=>(match h0L P n e with
   |some ks=>bif Nat.beq (P.cellsOf e) ks.length&&Nat.blt 0 ks.length then some [.sl ks] else none
   |none=>none)
  |some (.struct fs)=>(match i0a P n 0 fs.toList with
   |some ks=>bif Nat.beq (P.cellsOf t) ks.length then some ks else none
   |none=>none)
  |_=>none
def i0a (P:Program):Nat->Nat->List Field->Option (List K2)
 |0,_,_=>none
 |_+1,_,[]=>some []
 |n+1,o,f::r=>bif Nat.beq f.offset o then (match r0m P n f.type with
  |some a=>bif Nat.beq (P.cellsOf f.type) a.length then (match i0a P n (o+a.length) r with|some b=>some (a++b)|none=>none) else none
  |none=>none) else none
end
section
variable {H:Type} {enc:TypeId×Value->H} {P:Program} {w:World} {base:Nat} {held:Bool}
theorem g1Z {v:Value} {n:Nat} {β:Base} (hR:∀(g:G) (h:Nat),g h 0=some β->Rv g (.sl h 0 0 n) v) (g:G) (h q:Nat) (hg:g h q=some β):Rv g (.sl h q 0 n) v:=by
 have:=hR (fun _ _=>some β) h rfl
 simp only [Rv] at this⊢
 obtain ⟨a,c,e1,e2,e3⟩:=this
 refine ⟨a,c,e1,e2,?_⟩
 rcases e3 with e3|⟨β',e4,e5,e6⟩
 .exact .inl e3
 .simp only [Option.some.injEq] at e4
  subst e4
  exact .inr ⟨_,hg,e5,e6⟩
theorem k0F:∀m:Nat,(∀(t:TypeId) (ks:List K2) (fuel:Nat) (cs:List Value) (x:DataW H×List MemPlace),r0m P m t=some ks->DataW.trod enc P w base (fun _=>true) held fuel t cs=some x->AllOk2 w ks cs)/\
  (∀(o:Nat) (fs:List Field) (ks:List K2) (cs:List Value) (n:Nat),i0a P m o fs=some ks->cs.length=o+ks.length->(∀f∈fs,∃y,DataW.trod enc P w base (fun _=>true) held n f.type ((cs.drop f.offset).take (P.cellsOf f.type))=some y)->AllOk2 w ks (cs.drop o)):=by
 intro m
 induction m with
 |zero=>exact ⟨fun t ks fuel cs x h=>by simp [r0m] at h,fun o fs ks cs n h=>by simp [i0a] at h⟩
 |succ m ih=>
  refine ⟨?_,?_⟩
  .intro t ks fuel cs x h ht
   simp only [r0m] at h
   split at h
   .rename_i hu;simp only [Option.some.injEq] at h;subst h
    obtain ⟨b,rfl,_⟩:=DataW.trod_bool hu ht
    simp only [AllOk2,l0j,c0U];exact ⟨_,_,rfl,⟨b,rfl⟩,rfl⟩
   .rename_i k hu;simp only [Option.some.injEq] at h;subst h
    obtain ⟨n,rfl,_,hw⟩:=DataW.trod_int hu ht
    simp only [AllOk2,l0j,c0U];exact ⟨_,_,rfl,⟨n,rfl,hw⟩,rfl⟩
   .rename_i hu;simp only [Option.some.injEq] at h;subst h
    obtain ⟨s,rfl,_,hw⟩:=DataW.trod_string hu ht
    simp only [AllOk2,l0j,c0U];exact ⟨_,_,rfl,⟨s,rfl,hw⟩,rfl⟩
   .rename_i e hu
    split at h
    .rename_i ks' hks
     cases hb:(Nat.beq (P.cellsOf e) ks'.length&&Nat.blt 0 ks'.length) with
     |false=>rw [hb] at h;simp at h
     |true=>
      rw [hb] at h
      simp only [cond_true,Option.some.injEq] at h
      subst h
      simp only [Bool.and_eq_true] at hb
      have hl:=Nat.eq_of_beq_eq_true hb.1
      have h0:0<ks'.length:=Nat.le_of_ble_eq_true hb.2
      have key:∀a n c,cs= [.slice a n c]->AllOk2 w [.sl ks'] cs:=by
       intro a n c hv
       subst hv
       obtain ⟨n',β,cols,k1,k2,k3,k4⟩:=z0I hu hks hl h0 ht
       simp only [AllOk2,l0j]
       exact ⟨_,_,rfl,⟨rfl,n',β,cols,k1,k2,g1Z k3,k4⟩,rfl⟩
      rcases open_slice hu ht with ⟨hv,_⟩|⟨a,len,cap,mm,nn,D,Pl,hv,_⟩
      .exact key _ _ _ hv
      .exact key _ _ _ hv
    .cases h
   .rename_i fs hu
    split at h
    .rename_i ks' hks
     cases hb:Nat.beq (P.cellsOf t) ks'.length with
     |false=>rw [hb] at h;simp at h
     |true=>
      rw [hb] at h
      simp only [cond_true,Option.some.injEq] at h
      subst h
      obtain ⟨xs,n,_,_,hlen,hxl,hf⟩:=DataW.trod_struct hu ht
      have:=ih.2 0 fs.toList ks' cs n hks (by rw [hlen,Nat.eq_of_beq_eq_true hb];simp) (by
       intro f hf'
       obtain ⟨i,hi,rfl⟩:=List.getElem_of_mem hf'
       have hi':i<fs.size:=by simpa using hi
       have h1:=hf i fs[i] (by simp [hi'])
       have h2:xs[i]?=some (xs[i]'(by omega)):=List.getElem?_eq_getElem (by omega)
       refine ⟨xs[i]'(by omega),?_⟩
       have:fs.toList[i]=fs[i]:=by simp
       rw [this,h1,h2])
      simpa using this
    .cases h
   .cases h
  .intro o fs ks cs n h hlen hall
   cases fs with
   |nil=>
    simp only [i0a,Option.some.injEq] at h
    subst h
    simp only [AllOk2]
    exact List.drop_eq_nil_of_le (by simp at hlen;omega)
   |cons f r=>
    simp only [i0a] at h
    cases ho:Nat.beq f.offset o with
    |false=>rw [ho] at h;simp at h
    |true=>
     rw [ho] at h
     simp only [cond_true] at h
     split at h
     .rename_i a ha
      cases hb:Nat.beq (P.cellsOf f.type) a.length with
      |false=>rw [hb] at h;simp at h
      |true=>
       rw [hb] at h
       simp only [cond_true] at h
       split at h
       .rename_i b hbb
        simp only [Option.some.injEq] at h
        subst h
        have eo:=Nat.eq_of_beq_eq_true ho
        have ea:=Nat.eq_of_beq_eq_true hb
        obtain ⟨y,hy⟩:=hall f (by simp)
        have h1:=ih.1 f.type a n _ y ha hy
        rw [eo,ea] at h1
        refine AllOk2.append a b (cs.drop o) h1 ?_
        rw [List.drop_drop]
        exact ih.2 (o+a.length) r b cs n hbb (by simp at hlen;omega) (fun f' hf'=>hall f' (by simp [hf']))
       .cases h
     .cases h
theorem u0I {m:Nat} {t:TypeId} {ks:List K2} {fuel:Nat} {cs:List Value} {x:DataW H×List MemPlace} (h:r0m P m t=some ks) (ht:DataW.trod enc P w base (fun _=>true) held fuel t cs=some x):AllOk2 w ks cs:=(k0F m).1 t ks fuel cs x h ht
theorem r0n {t e:TypeId} {m fuel:Nat} {v:Value} {ks:List K2} {x:DataW H×List MemPlace} (ht:P.underlying t=some (.slice e)) (hk:r0m P m e=some ks) (hlen:P.cellsOf e=ks.length) (h0:0<ks.length)
  (h:DataW.trod enc P w base (fun _=>true) held fuel t [v]=some x):
  ∃(n:Nat) (β:Base) (val:Nat->Nat->Value),n<=maxLen/\(∀(g:G) (h q:Nat),g h q=some β->Rv g (.sl h q 0 n) v)/\β.es=ks.length/\n<=β.cap/\(0<β.cap->β.blk<w.heap.size)/\
   ∀i,i<n->∀j c,nth ks j=some c->w.cell? (β.addr i j)=some (val i j)/\l0j w c (val i j):=by
 have dead:∀a,v= .slice a 0 0->∃(n:Nat) (β:Base) (val:Nat->Nat->Value),n<=maxLen/\(∀(g:G) (h q:Nat),g h q=some β->Rv g (.sl h q 0 n) v)/\β.es=ks.length/\n<=β.cap/\(0<β.cap->β.blk<w.heap.size)/\
   ∀i,i<n->∀j c,nth ks j=some c->w.cell? (β.addr i j)=some (val i j)/\l0j w c (val i j):=by
  intro a hv
  refine ⟨0,⟨0,0,ks.length,0⟩,fun _ _=>undef,Nat.zero_le _,?_,rfl,Nat.le_refl _,fun h=>absurd h (Nat.lt_irrefl _),fun i hi=>absurd hi (Nat.not_lt_zero _)⟩
  intro g h q _
  subst hv
  simp only [Rv]
  exact ⟨a,0,rfl,Nat.le_refl _,.inl rfl⟩
 rcases open_slice ht h with ⟨hv,_⟩|⟨a,len,cap,mm,nn,D,Pl,hv,_,hl,hm,hmm,hx,hi⟩
 .simp only [List.cons.injEq,and_true] at hv
  exact dead none hv
 .simp only [List.cons.injEq,and_true] at hv
  simp only [if_true] at hmm
  subst hmm
  have cell:∀i,i<mm->∀j c,nth ks j=some c->∃u,w.cell? (a.add (i*ks.length+j))=some u/\l0j w c u:=by
   intro i him j c hj
   obtain ⟨cs',hc,ht'⟩:=hi i him
   have hall:=u0I hk ht'
   obtain ⟨u,hu,hok⟩:=AllOk2.nth ks cs' j c hall hj
   rw [hlen] at hc
   obtain ⟨_,hcl,hat⟩:=World.cells?_some hc
   have hjl:=b0S hj
   refine ⟨u,?_,hok⟩
   rw [<-Go.Deep.add_add,hat j hjl]
   exact hu
  by_cases hz:mm=0
  .subst hz
   have hl0:len=0:=by omega
   subst hl0
   exact dead (some a) hv
  .subst hv
   obtain ⟨c0,hc0⟩:∃c0,nth ks 0=some c0:=by
    cases ks with
    |nil=>simp at h0
    |cons c r=>exact ⟨c,rfl⟩
   obtain ⟨u0,hu0,_⟩:=cell 0 (by omega) 0 c0 hc0
   simp only [Nat.zero_mul,Nat.add_zero] at hu0
   have ha0:a.add 0=a:=by simp [Addr.add]
   rw [ha0] at hu0
   have hspot:a.spot=none:=by
    unfold World.cell? at hu0
    split at hu0
    .split at hu0
     .cases hu0
     .rename_i hs;simpa using hs
    .cases hu0
   have hblk:a.block<w.heap.size:=by
    unfold World.cell? at hu0
    split at hu0
    .rename_i hh;exact (Array.getElem?_eq_some_iff.1 hh).1
    .cases hu0
   obtain ⟨β,hβ⟩:∃β:Base,β=⟨a.block,a.off,ks.length,mm⟩:=⟨_,rfl⟩
   have haddr:∀i j,a.add (i*ks.length+j)=β.addr i j:=by
    intro i j
    obtain ⟨b,o,s⟩:=a
    simp only at hspot
    subst hspot
    unfold Addr.add Base.addr
    split
    .rename_i h;simp only [hβ];congr 1;omega
    .simp only [hβ];congr 1;omega
   have hcap:β.cap=mm:=by rw [hβ]
   refine ⟨len,β,fun i j=>(w.cell? (β.addr i j)).getD undef,Nat.le_trans hl hm,?_,by rw [hβ],by omega,fun _=>by rw [hβ];exact hblk,?_⟩
   .intro g h q hg
    simp only [Rv]
    refine ⟨some a,mm,rfl,hl,.inr ⟨β,hg,?_,by omega⟩⟩
    have:=haddr 0 0
    simp only [Nat.zero_mul,Nat.add_zero,ha0] at this
    rw [this]
   .intro i hi' j c hc
    obtain ⟨u,hu,hok⟩:=cell i (by omega) j c hc
    rw [haddr] at hu
    refine ⟨by simp only [hu,Option.getD_some],?_⟩
    simp only [hu,Option.getD_some];exact hok
def f0M (n:Nat) (val:Nat->Nat->Value) (h:Nat) (ns:List Nat):Nat->List K2->List BCol
 |_,[]=> []
 |j,.sc c::r=> .sc (g0X n (fun i=>val i j) c)::f0M n val h ns (j+1) r
 |j,.sl _::r=> .own h ns::f0M n val h ns (j+1) r
def i0C (n h:Nat) (ns:List Nat):List K2->List BCol->Prop
 | [],l=>l= []
 | .sc c::r,l=>∃x t,l= .sc x::t/\d0A c x n/\i0C n h ns r t
 | .sl _::r,l=>∃t,l= .own h ns::t/\i0C n h ns r t
theorem k0G (n:Nat) (val:Nat->Nat->Value) (h:Nat) (ns:List Nat):∀(ks:List K2) (j k:Nat),nth (f0M n val h ns j ks) k=(nth ks k).map (fun c=>match c with| .sc c=> .sc (g0X n (fun i=>val i (j+k)) c)| .sl _=> .own h ns)
 | [],j,k=>by simp [f0M,nth]
 | .sc c::ks,j,0=>by simp [f0M,nth]
 | .sl c::ks,j,0=>by simp [f0M,nth]
 | .sc c::ks,j,k+1=>by simp only [f0M,nth];rw [k0G n val h ns ks (j+1) k,show j+1+k=j+(k+1) from by omega]
 | .sl c::ks,j,k+1=>by simp only [f0M,nth];rw [k0G n val h ns ks (j+1) k,show j+1+k=j+(k+1) from by omega]
theorem f0l (n:Nat) (val:Nat->Nat->Value) (h:Nat) (ns:List Nat):∀(ks:List K2) (j:Nat),(f0M n val h ns j ks).length=ks.length
 | [],j=>rfl
 | .sc c::ks,j=>by simp [f0M,f0l n val h ns ks (j+1)]
 | .sl c::ks,j=>by simp [f0M,f0l n val h ns ks (j+1)]
theorem e1x {n:Nat} {v:Nat->Value} {c:CK} (h:∀i,i<n->c0U c (v i)):d0A c (g0X n v c) n:=by
 have:=e0i n (fun i _=>v i) [c] 0 (fun i hi k c' hc=>by
  cases k with
  |zero=>simp [nth] at hc;subst hc;exact h i hi
  |succ k=>simp [nth] at hc)
 simp only [b0p,b0k] at this
 obtain ⟨x,r,e,k,_⟩:=this
 simp only [List.cons.injEq] at e
 rw [e.1];exact k
theorem i0V {n:Nat} {val:Nat->Nat->Value} {h:Nat} {ns:List Nat}:∀(ks:List K2) (j:Nat),(∀i,i<n->∀k c,nth ks k=some c->l0j w c (val i (j+k)))->i0C n h ns ks (f0M n val h ns j ks)
 | [],j,_=>by simp [f0M,i0C]
 | .sc c::cs,j,hh=>by
   simp only [f0M,i0C]
   exact ⟨_,_,rfl,e1x (fun i hi=>hh i hi 0 (.sc c) rfl),i0V cs (j+1) (fun i hi k c' hc=>by rw [show j+1+k=j+(k+1) from by omega];exact hh i hi (k+1) c' hc)⟩
 | .sl c::cs,j,hh=>by
   simp only [f0M,i0C]
   exact ⟨_,rfl,i0V cs (j+1) (fun i hi k c' hc=>by rw [show j+1+k=j+(k+1) from by omega];exact hh i hi (k+1) c' hc)⟩
theorem y0g:∀{k:CK} {c:Col} {n:Nat},d0A k c n->c.len=n
 | .int k,c,n,h=>by obtain ⟨l,rfl,e,_⟩:=h;exact e
 | .bool,c,n,h=>by obtain ⟨l,rfl,e⟩:=h;exact e
 | .str,c,n,h=>by obtain ⟨l,rfl,e,_⟩:=h;exact e
theorem r0o {n h:Nat} {ns:List Nat} (hn:ns.length=n):∀{ks:List K2} {cols:List BCol},i0C n h ns ks cols->∀c∈cols,c.len=n
 | [],cols,hh,c,hc=>by simp only [i0C] at hh;subst hh;cases hc
 | .sc k::ks,cols,hh,c,hc=>by
   simp only [i0C] at hh
   obtain ⟨x,t,rfl,h1,h2⟩:=hh
   rcases List.mem_cons.1 hc with rfl|hc
   .exact y0g h1
   .exact r0o hn h2 c hc
 | .sl k::ks,cols,hh,c,hc=>by
   simp only [i0C] at hh
   obtain ⟨t,rfl,h2⟩:=hh
   rcases List.mem_cons.1 hc with rfl|hc
   .exact hn
   .exact r0o hn h2 c hc
def i1H:K2->Bool
 | .sc _=>true
 | .sl _=>false
def m0n:Nat->List K2->Bool
 |_,[]=>true
 |0,_::r=>r.all i1H
 |p+1,.sc _::r=>m0n p r
 |_+1,.sl _::_=>false
theorem h1a:∀{r:List K2} {j:Nat} {k:List CK},r.all i1H=true->nth r j≠some (.sl k)
 | [],j,k,h=>by simp [nth]
 |c::r,0,k,h=>by
  simp only [List.all_cons,Bool.and_eq_true] at h
  intro e
  simp only [nth,Option.some.injEq] at e
  rw [e] at h
  exact absurd h.1 (by simp [i1H])
 |c::r,j+1,k,h=>by
  simp only [List.all_cons,Bool.and_eq_true] at h
  exact h1a (r:=r) (j:=j) h.2
theorem y0h:∀{ks:List K2} {p j:Nat} {k:List CK},m0n p ks=true->nth ks j=some (.sl k)->j=p
 | [],p,j,k,_,h=>by simp [nth] at h
 |c::r,0,0,k,_,_=>rfl
 |c::r,0,j+1,k,h,e=>by
  simp only [m0n] at h
  exact absurd e (h1a (r:=r) (j:=j) h)
 | .sl c::r,p+1,j,k,h,e=>by simp [m0n] at h
 | .sc c::r,p+1,0,k,h,e=>by simp [nth] at e
 | .sc c::r,p+1,j+1,k,h,e=>by
   simp only [m0n] at h
   simp only [nth] at e
   rw [y0h h e]
theorem y0i {t e:TypeId} {m fuel:Nat} {v:Value} {ks:List K2} {x:DataW H×List MemPlace} (h' p:Nat) (k:List CK) (hp:nth ks p=some (.sl k)) (hu:m0n p ks=true) (ht:P.underlying t=some (.slice e)) (hk:r0m P m e=some ks) (hlen:P.cellsOf e=ks.length)
  (h:DataW.trod enc P w base (fun _=>true) held fuel t [v]=some x):
  ∃(n:Nat) (β:Base) (ns:List Nat) (rows:Nat->List Col) (bs:Nat->Base) (cols:List BCol),n<=maxLen/\ns.length=n/\i0C n h' ns ks cols/\(∀i,i<n->ns.getD i 0<=maxLen/\b0k k (rows i) (ns.getD i 0)/\∀g:G,BlkAt g (bs i) true (.cols (ns.getD i 0) (b0b (rows i))) w)/\
   (∀(g:G) (h q:Nat),g h q=some β->Rv g (.sl h q 0 n) v)/\(∀g:G,(∀i,i<n->g h' i=some (bs i))->BlkAt g β true (.cols n cols) w):=by
 have h0:0<ks.length:=Nat.lt_of_le_of_lt (Nat.zero_le _) (b0S hp)
 obtain ⟨n,β,val,h1,h2,h3,h4,h5,h6⟩:=r0n ht hk hlen h0 h
 have hin:∀i,∃y:Nat×Base×List Col,i<n->j1e w k (val i p) y.1 y.2.1 y.2.2:=by
  intro i
  by_cases hi:i<n
  .obtain ⟨_,m',β',cols',hc⟩:=(h6 i hi p _ hp).2
   exact ⟨⟨m',β',cols'⟩,fun _=>hc⟩
  .exact ⟨⟨0,β,[]⟩,fun q=>absurd q hi⟩
 obtain ⟨F,hF⟩:=Classical.axiomOfChoice hin
 have hns:∀i,i<n->((List.range n).map (fun i=>(F i).1)).getD i 0=(F i).1:=fun i hi=>c0Q n _ 0 i hi
 refine ⟨n,β,(List.range n).map (fun i=>(F i).1),fun i=>(F i).2.2,fun i=>(F i).2.1,f0M n val h' ((List.range n).map (fun i=>(F i).1)) 0 ks,h1,by simp,i0V ks 0 (fun i hi k c hc=>by rw [Nat.zero_add];exact (h6 i hi k c hc).2),?_,h2,?_⟩
 .intro i hi
  obtain ⟨a1,a2,_,a4⟩:=hF i hi
  rw [hns i hi]
  exact ⟨a1,a2,a4⟩
 .intro g hg
  refine ⟨h5,by rw [h3];simp [Blk.es,f0l],r0o (by simp) (i0V (w:=w) ks 0 (fun i hi k c hc=>by rw [Nat.zero_add];exact (h6 i hi k c hc).2)),fun i hi=>by simp only [Blk.has] at hi;omega,?_,?_,(fun h=>by cases h),trivial⟩
  .intro i j sv hi hj
   simp only [Blk.has] at hi
   simp only [Blk.at,k0G] at hj
   cases hc:nth ks j with
   |none=>rw [hc] at hj;simp at hj
   |some c=>
    rw [hc] at hj
    obtain ⟨k1,k2⟩:=h6 i hi j c hc
    cases c with
    |sc c=>
     simp only [Option.map_some,Option.some.injEq,Nat.zero_add] at hj
     subst hj
     exact ⟨_,k1,j0U (v:=fun i=>val i j) hi k2⟩
    |sl k'=>
     have ej:=y0h hu hc
     subst ej
     simp only [Option.map_some,Option.some.injEq] at hj
     subst hj
     obtain ⟨_,_,a3,_⟩:=hF i hi
     refine ⟨_,k1,?_⟩
     show Rv g (.sl h' i 0 (((List.range n).map (fun i=>(F i).1)).getD i 0)) _
     rw [hns i hi]
     exact a3 g h' i (hg i hi)
  .intro i j v' hi hj hv'
   simp only [Blk.has] at hi
   rw [h3] at hj
   obtain ⟨c,hc⟩:∃c,nth ks j=some c:=⟨ks[j],by rw [b0n];exact List.getElem?_eq_getElem hj⟩
   obtain ⟨k1,k2⟩:=h6 i hi j c hc
   rw [hv'] at k1
   cases k1
   cases c with
   |sc c=>exact h0M k2
   |sl k'=>exact k2.1
def gS (k:Nat) (l:List Col):List ByteArray:=match nth l k with|some (.strs m)=>m|_=> []
def gI (k:Nat) (l:List Col):List Int:=match nth l k with|some (.ints _ m)=>m|_=> []
def gB (k:Nat) (l:List Col):List Bool:=match nth l k with|some (.bools m)=>m|_=> []
def e1y (g:G) (w:World) (p:Nat×Option HB):Prop:=
 (∃b β,p.2=some (.one true b)/\g p.1 0=some β/\BlkAt g β true b w)\/(∃dom f,p.2=some (.fam true dom f)/\∀q,dom q->∃β,g p.1 q=some β/\BlkAt g β true (f q) w)
theorem y0j {g:G} {w:World}:∀(Hp:a0v),(∀p∈Hp,e1y g w p)->Holds g Hp w/\∀h q ro b,Ent Hp h q ro b->ro=true:=by
 intro Hp hall
 have key:∀h q ro b,Ent Hp h q ro b->ro=true/\∃β,g h q=some β/\BlkAt g β ro b w:=by
  intro h q ro b he
  have:∀(L:a0v),(∀p∈L,e1y g w p)->Ent L h q ro b->ro=true/\∃β,g h q=some β/\BlkAt g β ro b w:=by
   intro L
   induction L with
   |nil=>intro _ he;obtain ⟨hb,e,_⟩:=he;simp [a0J] at e
   |cons p L ih=>
    intro hL he
    obtain ⟨k,o⟩:=p
    rcases a0E.1 he with ⟨rfl,hb',e1,e2,e3⟩|⟨_,he⟩
    .rcases hL (k,o) (by simp) with ⟨b',β,f1,f2,f3⟩|⟨dom,f,f1,f2⟩
     .simp only at f1 f2
      rw [f1] at e1;cases e1
      simp only [HB.is] at e2
      obtain ⟨rfl,rfl⟩:=e2
      simp only [HB.ro] at e3
      subst e3
      exact ⟨rfl,β,f2,f3⟩
     .simp only at f1 f2
      rw [f1] at e1;cases e1
      simp only [HB.is] at e2
      obtain ⟨e2,rfl⟩:=e2
      simp only [HB.ro] at e3
      subst e3
      exact ⟨rfl,f2 q e2⟩
    .exact ih (fun p hp=>hL p (by simp [hp])) he
  exact this Hp hall he
 refine ⟨⟨fun h q ro b he=>(key h q ro b he).2,?_⟩,fun h q ro b he=>(key h q ro b he).1⟩
 intro h q h' q' b ro' b' β β' _ he
 have:=(key h q false b he).1
 cases this
end
end Go.Sy
namespace Go.Sy
open Go.RowKit
section
variable {w:World}
theorem y0k {g:G} {Hp:a0v} {l:n0Q} (hl:∀q,(a0T l q).isSome=true->∃β,g 0 q=some β/\BlkAt g β true (q0g l q) w) (hall:∀p∈Hp,e1y g w p):
  Holds g ((0,some (GB l))::Hp) w/\∀h q ro b,Ent ((0,some (GB l))::Hp) h q ro b->ro=true:=by
 obtain ⟨h1,h2⟩:=y0j (g:=g) (w:=w) Hp hall
 have ro:∀h q ro b,Ent ((0,some (GB l))::Hp) h q ro b->ro=true:=by
  intro h q ro b he
  rcases a0E.1 he with ⟨rfl,hb,e1,e2,e3⟩|⟨_,he⟩
  .cases e1;exact e3.symm
  .exact h2 h q ro b he
 refine ⟨⟨?_,?_⟩,ro⟩
 .intro h q r b he
  rcases a0E.1 he with ⟨rfl,hb,e1,e2,e3⟩|⟨_,he⟩
  .cases e1
   obtain ⟨d,rfl⟩:=e2
   simp only [GB,HB.ro] at e3
   subst e3
   exact hl q d
  .exact h1.blk h q r b he
 .intro h q h' q' b ro' b' β β' _ he
  have:=ro h q false b he
  cases this
end
end Go.Sy
namespace Go.Sy
open Go.RowKit
theorem m0o (μ:Nat->Nat):∀cs:List Col,d0b μ (b0b cs)=b0b cs
 | []=>rfl
 |c::r=>by
  show BCol.mem μ (.sc c)::d0b μ (b0b r)=_
  rw [m0o μ r];rfl
theorem m0p (μ:Nat->Nat):∀cs:List Col,d0B μ (b0b cs)=true
 | []=>rfl
 |c::r=>by
  show (BCol.mok μ (.sc c)&&d0B μ (b0b r))=true
  rw [m0p μ r];rfl
theorem b1k (μ:Nat->Nat) (l:n0Q) (q:Nat):(q0g l q).mem μ=q0g l q:=by
 unfold q0g
 cases a0T l q with
 |none=>rfl
 |some x=>
  dsimp only
  cases Nat.beq x.1 0 with
  |true=>rfl
  |false=>exact congrArg (Blk.cols x.1) (m0o μ x.2)
theorem b1l (μ:Nat->Nat) (l:n0Q) (q:Nat):(q0g l q).mok μ=true:=by
 unfold q0g
 cases a0T l q with
 |none=>rfl
 |some x=>
  dsimp only
  cases Nat.beq x.1 0 with
  |true=>rfl
  |false=>exact m0p μ x.2
theorem h1b (μ:Nat->Nat) (l:n0Q):(GB l).mok μ:=fun q _=>b1l μ l q
theorem h1c (L:t0T) (h:Nat) (l:n0Q):o0U L h (GB l)=GB l:=by
 show HB.fam true _ (fun x=>(q0g l x).mem (fmu L))=HB.fam true _ (q0g l)
 exact congrArg (HB.fam true _) (funext fun x=>b1k (fmu L) l x)
end Go.Sy
