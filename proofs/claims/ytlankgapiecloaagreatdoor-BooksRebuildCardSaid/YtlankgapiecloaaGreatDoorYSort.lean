/- Sorting: the library's sort as a contract of the layer, from what the kit proves of it; a map's keys. No program in sight. -/
import Derived.Test.YtlankgapiecloaaGreatDoorYLib
import Derived.Sort.KeysCollected
import Derived.Sort.Grow
namespace Go.Sy
open Go.RowKit
set_option linter.unusedVariables false
section
variable {P:Program}
theorem cellOf {β:Base} (h:β.es=1) (i:Nat):β.addr i 0=⟨β.blk,β.off+i,none⟩:=by unfold Base.addr;rw [h];simp
def Sorts {α:Type} [Inhabited α] (P:Program) (f:FuncId) (enc:α→Value) (srt:List α→List α):Prop:=
 (∀(blk off cap:Nat) (ss:List α) (W:World),Go.Sort.Holds enc W blk off ss.toArray→blk<W.heap.size→ss.length<4611686018427387904→
  Calls P f #[.slice (some ⟨blk,off,none⟩) ss.length cap] W fun e w'=>e= .returned (.tuple #[])∧∃k os,w'=Go.Sort.grow (Go.Sort.putRow enc (Go.Sort.ahead W k) blk off (srt ss).toArray) os)∧
 (∀(p:Option Addr) (cap:Nat) (W:World),Calls P f #[.slice p 0 cap] W fun e w'=>e= .returned (.tuple #[])∧w'=W)
theorem fc_sort {α:Type} [Inhabited α] {f:FuncId} {enc:α→Value} {srt:List α→List α} (mk:List α→Col) (hs:Sorts P f enc srt) (hbd:bodied P f) (hl:∀l,(mk l).len=l.length) (hv:∀l i,i<l.length→(mk l).val i=enc (l.toArray[i]!)) (h1:∀x,(enc x).oneCell'=true) (hp:∀l,(srt l).length=l.length)
  (n:Nat) (l:List α) (hn:n<4611686018427387904):FC P 2 f [.sl 1 0 0 n] [(1,some (.one false (.cols n [.sc (mk l)])))] (isOut (.tup []) [(1,some (.one false (.cols n [.sc (mk (srt l))])))] 2):=by
 refine Or.inl ⟨hbd,fun g w vals hg hu hH hvs=> ?_⟩
 obtain ⟨v,vs',rfl,hv0,hv1⟩:=hvs
 simp only [Rvs] at hv1
 subst hv1
 obtain ⟨a,c,rfl,hnc,hc⟩:=rsv hv0
 have hE:Ent [(1,some (HB.one false (Blk.cols n [.sc (mk l)])))] 1 0 false (Blk.cols n [.sc (mk l)]):=⟨_,rfl,⟨rfl,rfl⟩,rfl⟩
 obtain ⟨β,hgβ,hB⟩:=hH.blk 1 0 false _ hE
 have hlen:l.length=n:=by rw [←hl];exact hB.len _ (List.mem_singleton.2 rfl)
 have hes:β.es=1:=hB.es
 have only:∀{b:Blk} {h q:Nat} {ro:Bool} {b':Blk},Ent [(1,some (HB.one false b))] h q ro b'→h=1∧q=0∧ro=false∧b'=b:=by
  rintro b h q ro b' ⟨hb,e,hi,hr⟩
  rw [hget_cons] at e
  split at e
  ·cases e
   rename_i e1
   exact ⟨e1.symm,hi.1,hr.symm,hi.2⟩
  ·cases e
 by_cases h0:n=0
 ·subst h0
  refine (hs.2 a c w).mono ?_
  rintro e w' ⟨rfl,rfl⟩
  have hnil:l= []:=List.eq_nil_of_length_eq_zero hlen
  have hsn:srt l=l:=by rw [hnil];exact List.eq_nil_of_length_eq_zero (by rw [hp];rfl)
  rw [hsn]
  refine ⟨_,rfl,_,_,_,g,⟨rfl,rfl,rfl⟩,Nat.le_refl _,hu,fun _ _ _=>rfl,?_,hH,allRw_cons allRw_nil,Fr.refl _ _,?_⟩
  ·simp only [Rv];exact ⟨_,rfl,by simp [Rvs]⟩
  ·intro h q b β' he hg' hc'
   exact .inl ⟨h,q,b,β',he,hg',hc',rfl⟩
 ·obtain hc|⟨β',hg',ha,hcap⟩:=hc
  ·omega
  ·rw [hgβ] at hg'
   cases hg'
   have hcp:0<β.cap:=by omega
   subst ha
   have hHo:Go.Sort.Holds enc w β.blk β.off l.toArray:=by
    intro j hj
    have hj':j<n:=by rw [←hlen];simpa using hj
    obtain ⟨x,hx,hr⟩:=hB.cell j 0 _ hj' rfl
    rw [cellOf hes] at hx
    refine ⟨?_,?_⟩
    ·rw [hx]
     have:=hv l j (by omega)
     rw [←this]
     have e1:(BCol.sc (mk l)).at j=(mk l).at j:=rfl
     rw [e1] at hr
     have h2:=Col.at_ok g (mk l) j
     revert hr h2
     cases mk l<;>simp [Col.at,Col.val,Rv]
    ·have:=(hB.rw rfl j 0 (by have:=hB.cap j hj';omega) (by omega)).1
     rwa [cellOf hes] at this
   have hlt:=hB.lt hcp
   have hca:=hs.1 β.blk β.off c l w hHo hlt (by omega)
   rw [hlen] at hca
   have ea:β.addr 0 0=⟨β.blk,β.off,none⟩:=by rw [cellOf hes];rfl
   rw [ea]
   refine hca.mono ?_
   rintro e w' ⟨rfl,k,os,rfl⟩
   have hss:(srt l).toArray.size=n:=by simp [hp,hlen]
   have cellP:∀j,j<n→(Go.Sort.grow (Go.Sort.putRow enc (Go.Sort.ahead w k) β.blk β.off (srt l).toArray) os).cell? ⟨β.blk,β.off+j,none⟩=some (enc ((srt l).toArray[j]!)):=by
    intro j hj
    rw [Go.Sort.cell?_grow _ _ _ (by simpa using hlt)]
    exact Go.Sort.cell?_putRow enc (Go.Sort.ahead w k) β.blk β.off l.toArray (srt l).toArray hHo (by simp [hp]) j (by omega)
   have cellO:∀j,n≤j→(Go.Sort.grow (Go.Sort.putRow enc (Go.Sort.ahead w k) β.blk β.off (srt l).toArray) os).cell? ⟨β.blk,β.off+j,none⟩=w.cell? ⟨β.blk,β.off+j,none⟩:=by
    intro j hj
    rw [Go.Sort.cell?_grow _ _ _ (by simpa using hlt)]
    rw [Go.Sort.cell?_putRow_other _ _ _ _ _ _ (.inr (.inr (by rw [hss];show β.off+n≤β.off+j;omega)))]
    rfl
   refine ⟨_,rfl,_,_,_,g,⟨rfl,rfl,rfl⟩,Nat.le_refl _,hu,fun _ _ _=>rfl,?_,⟨?_,?_⟩,allRw_cons allRw_nil,⟨rfl,rfl,rfl,by simp,?_⟩,?_⟩
   ·simp only [Rv];exact ⟨_,rfl,by simp [Rvs]⟩
   ·intro h q ro b he
    obtain ⟨rfl,rfl,rfl,rfl⟩:=only he
    refine ⟨β,hgβ,?_⟩
    refine ⟨fun _=>by simp;omega,hes,?_,hB.cap,?_,?_,?_,trivial⟩
    ·intro c' hc'
     rw [List.mem_singleton] at hc'
     subst hc'
     show (mk (srt l)).len=n
     rw [hl,hp,hlen]
    ·intro i j sv hi hj
     have hi':i<n:=hi
     cases j with
     |succ j=>simp [Blk.at,nth] at hj
     |zero=>
      simp only [Blk.at,nth,Option.some.injEq] at hj
      subst hj
      rw [cellOf hes]
      refine ⟨_,cellP i hi',?_⟩
      rw [←hv (srt l) i (by rw [hp];omega)]
      exact Col.at_ok g _ i
    ·intro i j v hi hj hx
     have hi':i<n:=hi
     obtain rfl:j=0:=by omega
     rw [cellOf hes,cellP i hi'] at hx
     cases hx
     exact h1 _
    ·intro _ i j hi hj
     obtain rfl:j=0:=by omega
     have hx:=hB.rw rfl i 0 hi (by omega)
     rw [cellOf hes] at hx⊢
     refine ⟨?_,?_⟩
     ·rw [Go.Sort.frozen?_grow _ _ _ (by simpa using hlt),Go.Sort.frozen?_putRow]
      exact hx.1
     ·by_cases hi2:i<n
      ·exact ⟨_,cellP i hi2⟩
      ·rw [cellO i (by omega)];exact hx.2
   ·intro h q h' q' b ro' b' β1 β2 hne he he' _ _ _ _
    obtain ⟨rfl,rfl,_,_⟩:=only he
    obtain ⟨rfl,rfl,_,_⟩:=only he'
    exact absurd ⟨rfl,rfl⟩ hne
   ·intro x hx hW
    have hne:x≠β.blk:=fun e=>hW ⟨1,0,_,β,hE,hgβ,hcp,e.symm⟩
    rw [Go.Sort.heap_grow_old _ _ (by simpa using hx)]
    simp only [Go.Sort.putRow,Go.Sort.mapBlock,Array.getElem?_modify,if_neg (Ne.symm hne),Go.Sort.heap_ahead]
   ·intro h q b β' he hg' hc'
    obtain ⟨rfl,rfl,_,_⟩:=only he
    rw [hgβ] at hg'
    cases hg'
    exact .inl ⟨1,0,_,β,hE,hgβ,hc',rfl⟩
def toB (b:List UInt8):ByteArray:=⟨b.toArray⟩
def ofB (s:ByteArray):List UInt8:=s.data.toList
theorem toB_ofB (s:ByteArray):toB (ofB s)=s:=rfl
theorem ofB_toB (b:List UInt8):ofB (toB b)=b:=rfl
def sortS (l:List ByteArray):List ByteArray:=((l.map ofB).mergeSort (fun x y=>decide (x≤y))).map toB
def sortI (l:List Int):List Int:=l.mergeSort (fun x y=>decide (x≤y))
theorem sortS_length (l:List ByteArray):(sortS l).length=l.length:=by simp [sortS]
theorem sortI_length (l:List Int):(sortI l).length=l.length:=by simp [sortI]
theorem map_toB_ofB (l:List ByteArray):(l.map ofB).map toB=l:=by rw [List.map_map];exact List.map_id l
theorem sortS_perm (l:List ByteArray):(sortS l).Perm l:=by
 have:=(List.mergeSort_perm (l.map ofB) (fun x y=>decide (x≤y))).map toB
 rwa [map_toB_ofB] at this
theorem fc_sortS {f:FuncId} (hs:Sorts P f Go.Proofs.encStr (fun ss:List (List UInt8)=>ss.mergeSort fun x y=>decide (x≤y))) (hbd:bodied P f) (n:Nat) (l:List ByteArray) (hn:n<4611686018427387904):
  FC P 2 f [.sl 1 0 0 n] [(1,some (.one false (.cols n [.sc (.strs l)])))] (isOut (.tup []) [(1,some (.one false (.cols n [.sc (.strs (sortS l))])))] 2):=by
 have h:=fc_sort (fun ss=> .strs (ss.map toB)) hs hbd (by intro l;simp [Col.len]) (by
  intro l i hi
  simp only [Col.val,Go.Proofs.encStr]
  rw [getElem!_pos _ _ (by simpa using hi)]
  simp [List.getD,hi,toB]) (fun x=>rfl) (by intro l;simp) n (l.map ofB) hn
 rw [map_toB_ofB] at h
 exact h
theorem fc_sortI {f:FuncId} (hs:Sorts P f (Value.int .i64) (fun ss:List Int=>ss.mergeSort fun x y=>decide (x≤y))) (hbd:bodied P f) (n:Nat) (l:List Int) (hn:n<4611686018427387904):
  FC P 2 f [.sl 1 0 0 n] [(1,some (.one false (.cols n [.sc (.ints .i64 l)])))] (isOut (.tup []) [(1,some (.one false (.cols n [.sc (.ints .i64 (sortI l))])))] 2):=
 fc_sort (fun ss=> .ints .i64 ss) hs hbd (by intro l;rfl) (by
  intro l i hi
  simp only [Col.val]
  rw [getElem!_pos _ _ (by simpa using hi)]
  simp [List.getD,hi]) (fun x=>rfl) (by intro l;simp) n l hn
theorem ownsMap_of {k:TypeId} (hk:P.underlying k=some .string) {g:G} {w:World} {b n ck:Nat} {ea:Bool} {ks:List ByteArray} {vs:List BCol} {bs:List Nat} {es:Array MapEntry} (hb:w.heap[b]?=some (.map es ck)) (hm:MapOk g false ea n [.strs ks] vs bs ck es) (hn:n≤maxLen) (hs:∀s∈ks,s.size≤maxLen) (hnd:ks.Nodup):
  ∃D:DataW Unit,w.ownsMap P k (fun _=>some (.nil,[])) b n D∧(strKeys D).Perm (ks.map ofB)∧Maps.size D=n:=by
 have hkl:ks.length=n:=hm.kl _ (List.mem_singleton.2 rfl)
 have hky:es.toList.map (·.key)=ks.map Value.string:=by
  refine List.ext_getElem (by simp [hm.size,hkl]) ?_
  intro i h1 h2
  have hi:i<es.size:=by simpa using h1
  have:=(hm.row i es[i] (Array.getElem?_eq_getElem hi)).2.1
  have hi2:i<ks.length:=by rw [hkl,←hm.size];exact hi
  simp only [List.getElem_map,Array.getElem_toList,this,keyV,Col.val]
  simp [List.getD,hi2]
 have hrd:∀x∈es.toList,∃s:ByteArray,x.key= .string s∧WideElems.rd P k (fun _=>some (DataW.nil,[])) x=some (Lit.string s.data.toList,(DataW.nil:DataW Unit)):=by
  intro x hx
  have:x.key∈ks.map Value.string:=by rw [←hky];exact List.mem_map_of_mem hx
  obtain ⟨s,hs1,hs2⟩:=List.mem_map.1 this
  refine ⟨s,hs2.symm,?_⟩
  unfold WideElems.rd
  rw [←hs2]
  simp [keyOf,hk,mapKey,hs s hs1]
 refine ⟨_,⟨es,ck,hb,⟨by rw [hm.size];exact hn,⟨?_,?_,?_⟩,fun x hx=> ?_⟩,by rw [hm.size];exact Nat.le_refl _,rfl⟩,?_,?_⟩
 ·intro x hx
  obtain ⟨i,hi,rfl⟩:=List.mem_iff_getElem.1 hx
  have hi':i<es.size:=by simpa using hi
  have:=(hm.row i es[i] (Array.getElem?_eq_getElem hi')).1
  simp only [Array.getElem_toList]
  rw [this]
  refine hm.lt _ ?_
  have:i<bs.length:=by rw [hm.bl,←hm.size];exact hi'
  simp [List.getD,this]
 ·have:es.toList.map (·.born)=bs:=by
   refine List.ext_getElem (by simp [hm.size,hm.bl]) ?_
   intro i h1 h2
   have hi:i<es.size:=by simpa using h1
   have:=(hm.row i es[i] (Array.getElem?_eq_getElem hi)).1
   simp only [List.getElem_map,Array.getElem_toList,this]
   simp [List.getD,h2]
  rw [this];exact hm.nd
 ·rw [hky]
  exact List.Pairwise.map _ (fun a b h e=>h (by injection e)) hnd
 ·obtain ⟨s,_,h⟩:=hrd x hx
  exact ⟨_,h⟩
 ·show ((((es.toList.map (WideElems.rg P k _)).foldr DataW.insert []).map fun p=>strOf p.1)).Perm _
  refine ((WideShapes.sorted_perm _).map _).trans (List.Perm.of_eq ?_)
  rw [List.map_map]
  have:(fun x:MapEntry=>strOf (WideElems.rg P k (fun _=>some (DataW.nil,[])) x:Lit×DataW Unit).1)=fun x=>strOf (WideElems.rg P k (fun _=>some ((DataW.nil:DataW Unit),[])) x).1:=rfl
  refine (List.map_congr_left (g:=fun x:MapEntry=>match x.key with| .string s=>ofB s|_=> []) ?_).trans ?_
  ·intro x hx
   obtain ⟨s,hk',h⟩:=hrd x hx
   show strOf (WideElems.rg P k _ x).1=_
   unfold WideElems.rg
   rw [h,hk']
   rfl
  ·have e1:es.toList.map (fun x:MapEntry=>match x.key with| .string s=>ofB s|_=> [])=(es.toList.map (·.key)).map (fun v=>match v with| .string s=>ofB s|_=> []):=by rw [List.map_map];rfl
   rw [e1,hky,List.map_map]
   rfl
 ·show List.length _=n
  rw [(WideShapes.sorted_perm _).length_eq]
  simp [hm.size]
end
end Go.Sy
