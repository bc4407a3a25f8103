/- A lookup that stands behind the laying of its own entry finds the same. No program in sight. -/
import Derived.Test.YtlankgapiecloaaGreatDoorYC5
namespace Go.Sy
open Go.RowKit
theorem putL_self {α:Type} (l:List α) (i:Nat) (d:α):(putL i (l.getD i d) l).getD i d=l.getD i d:=by
 unfold putL
 split
 ·rename_i h
  simp [List.getD,h]
 ·rename_i h
  by_cases e:i=l.length
  ·subst e;simp [List.getD]
  ·simp only [List.getD]
   rw [List.getElem?_eq_none (show (l++ [l[i]?.getD d]).length≤i by simp;omega),List.getElem?_eq_none (show l.length≤i by omega)]
theorem putCol_at {i:Nat} {c c':Col} (h:putCol i c (c.at i)=some c'):c'.at i=c.at i:=by
 cases c with
 |ints k l=>
  simp only [Col.at,putCol] at h
  cases hk:ikEq k k with
  |false=>rw [hk] at h;cases h
  |true=>
   rw [hk] at h
   simp only [cond_true,Option.some.injEq] at h
   subst h
   simp only [Col.at]
   rw [putL_self]
 |strs l=>
  simp only [Col.at,putCol,Option.some.injEq] at h
  subst h
  simp only [Col.at]
  rw [putL_self]
 |bools l=>
  simp only [Col.at,putCol,Option.some.injEq] at h
  subst h
  simp only [Col.at]
  rw [putL_self]
theorem zOk_sc (d:Col) (vl:List BCol) (z:SV) (ez:List SV):zOk (.sc d::vl) (z::ez)=(zOk [.sc d] [z]&&zOk vl ez):=by
 cases d<;>cases z<;>(try simp [zOk])
 rename_i b
 cases b<;>simp [zOk]
theorem zOk_put {i:Nat} {d d':Col} {v z:SV} (h:putCol i d v=some d'):zOk [.sc d'] [z]=zOk [.sc d] [z]:=by
 cases d with
 |ints k l=>
  cases v<;>simp only [putCol] at h<;>first|contradiction|skip
  rename_i p x
  cases hk:ikEq p k with
  |false=>rw [hk] at h;cases h
  |true=>
   rw [hk] at h
   simp only [cond_true,Option.some.injEq] at h
   subst h
   cases z<;>simp [zOk]
 |strs l=>
  cases v<;>simp only [putCol] at h<;>first|contradiction|skip
  simp only [Option.some.injEq] at h
  subst h
  cases z<;>simp [zOk]
 |bools l=>
  cases v<;>simp only [putCol] at h<;>first|contradiction|skip
  simp only [Option.some.injEq] at h
  subst h
  cases z<;>(try simp [zOk])
  rename_i b
  cases b<;>simp [zOk]
theorem zOk_cons {c:BCol} {vl:List BCol} {z:SV} {ez:List SV} (h:zOk (c::vl) (z::ez)=true):∃d,c= .sc d∧zOk [.sc d] [z]=true∧zOk vl ez=true:=by
 cases c with
 |sc d=>rw [zOk_sc,Bool.and_eq_true] at h;exact ⟨d,rfl,h.1,h.2⟩
 |svs l=>cases z<;>simp [zOk] at h
 |own a ns=>cases z<;>simp [zOk] at h
 |ptrs a n=>cases z<;>simp [zOk] at h
 |arrs n k r=>cases z<;>simp [zOk] at h
theorem putVals_at {i:Nat}:∀(vl vl':List BCol) (ez:List SV),zOk vl ez=true→putVals i vl (bcolsAt vl i)=some vl'→bcolsAt vl' i=bcolsAt vl i∧zOk vl' ez=true
 | [],vl',ez,hz,h=>by
   simp only [bcolsAt,putVals,Option.some.injEq] at h
   subst h
   exact ⟨rfl,hz⟩
 |c::vl,vl',[],hz,h=>by cases c<;>simp [zOk] at hz
 |c::vl,vl',z::ez,hz,h=>by
  obtain ⟨d,rfl,hz3,hz2⟩:=zOk_cons hz
  simp only [bcolsAt,putVals,putVal,BCol.at] at h
  cases hp:putCol i d (d.at i) with
  |none=>rw [hp] at h;cases h
  |some d'=>
   rw [hp] at h
   cases hr:putVals i vl (bcolsAt vl i) with
   |none=>rw [hr] at h;cases h
   |some r=>
    rw [hr] at h
    simp only [Option.some.injEq] at h
    subst h
    obtain ⟨q1,q2⟩:=putVals_at vl r ez hz2 hr
    refine ⟨?_,?_⟩
    ·simp only [bcolsAt,BCol.at]
     rw [putCol_at hp,q1]
    ·rw [zOk_sc,zOk_put hp,hz3,q2];rfl
theorem elem_put {ea:Bool} {i:Nat} {vl vl':List BCol} {ez vc:List SV} (hz:zOk vl ez=true) (ha:aggCells ea (elemS ea vl i)=some vc) (hp:putVals i vl vc=some vl'):elemS ea vl' i=elemS ea vl i∧zOk vl' ez=true:=by
 cases ea with
 |true=>
  simp only [elemS,aggCells,Option.some.injEq] at ha
  subst ha
  obtain ⟨q1,q2⟩:=putVals_at vl vl' ez hz hp
  exact ⟨by simp only [elemS];rw [q1],q2⟩
 |false=>
  have key:∀c,vl= [c]→vc= [c.at i]:=by
   rintro c rfl
   simp only [elemS,aggCells] at ha
   cases ho:((c.at i).one||isArr (c.at i)) with
   |false=>rw [ho] at ha;cases ha
   |true=>rw [ho] at ha;simp only [cond_true,Option.some.injEq] at ha;exact ha.symm
  match vl,hz,hp,ha,key with
  | [],hz,hp,ha,_=>
    simp only [elemS,aggCells] at ha
    cases vc with
    |nil=>simp [SV.one,isArr] at ha
    |cons x r=>simp [putVals] at hp
  | [c],hz,hp,ha,key=>
    have e:=key c rfl
    subst e
    obtain ⟨q1,q2⟩:=putVals_at [c] vl' ez hz hp
    match vl',q1,q2,hp with
    | [],q1,_,_=>simp [bcolsAt] at q1
    | [c'],q1,q2,_=>
      simp only [bcolsAt,List.cons.injEq,and_true] at q1
      exact ⟨q1,q2⟩
    |c'::d'::r,q1,_,_=>simp [bcolsAt] at q1
  |c::d::r,hz,hp,ha,_=>
   simp only [elemS,aggCells] at ha
   cases ho:(SV.unk.one||isArr SV.unk) with
   |false=>rw [ho] at ha;cases ha
   |true=>
    rw [ho] at ha
    simp only [cond_true,Option.some.injEq] at ha
    subst ha
    simp only [putVals] at hp
    split at hp<;>first|cases hp;done|skip
    rename_i h2
    simp at h2
theorem foundS_z {ea:Bool} {n i:Nat} {vl:List BCol} {ez:List SV} (hz:zOk vl ez=true):foundS ea n vl i=elemS ea vl i:=by
 unfold foundS
 split
 ·cases ez with
  |nil=>simp [zOk] at hz
  |cons z ez=>cases z<;>simp [zOk] at hz
 ·cases ez with
  |nil=>simp [zOk] at hz
  |cons z ez=>cases z<;>simp [zOk] at hz
 ·rfl
theorem sidx_put:∀(l:List ByteArray) (s:ByteArray),sidx (putL (sidx l s) s l) s=sidx l s
 | [],s=>by simp [sidx,putL,seq]
 |x::l,s=>by
  by_cases h:seq x s=true
  ·have e:sidx (x::l) s=0:=by simp [sidx,h]
   rw [e]
   simp [putL,sidx,seq]
  ·have h':seq x s=false:=by simpa using h
   have e:sidx (x::l) s=sidx l s+1:=by simp [sidx,h']
   have e2:putL (sidx l s+1) s (x::l)=x::putL (sidx l s) s l:=by
    unfold putL;simp only [List.length_cons,Nat.add_lt_add_iff_right];split<;>rfl
   rw [e,e2]
   simp only [sidx,h',cond_false]
   rw [sidx_put l s]
theorem iidx_put:∀(l:List Int) (s:Int),iidx (putL (iidx l s) s l) s=iidx l s
 | [],s=>by simp [iidx,putL]
 |x::l,s=>by
  by_cases h:x=s
  ·have e:iidx (x::l) s=0:=by simp [iidx,h]
   rw [e]
   simp [putL,iidx]
  ·have e:iidx (x::l) s=iidx l s+1:=by simp [iidx,h]
   have e2:putL (iidx l s+1) s (x::l)=x::putL (iidx l s) s l:=by
    unfold putL;simp only [List.length_cons,Nat.add_lt_add_iff_right];split<;>rfl
   rw [e,e2]
   simp only [iidx,decide_eq_false h,cond_false]
   rw [iidx_put l s]
theorem putL_succ {α:Type} (i:Nat) (s x:α) (l:List α):putL (i+1) s (x::l)=x::putL i s l:=by
 unfold putL;simp only [List.length_cons,Nat.add_lt_add_iff_right];split<;>rfl
theorem putL_zero {α:Type} (s:α) (l:List α):∃r,putL 0 s l=s::r:=by
 cases l with
 |nil=>exact ⟨[],by simp [putL]⟩
 |cons x l=>exact ⟨l,by simp [putL]⟩
theorem sidx2_put:∀(l m:List ByteArray) (s t:ByteArray),sidx2 (putL (sidx2 l m s t) s l) (putL (sidx2 l m s t) t m) s t=sidx2 l m s t
 | [],m,s,t=>by
   have e:sidx2 [] m s t=0:=by simp [sidx2]
   obtain ⟨r1,h1⟩:=putL_zero s ([]:List ByteArray)
   obtain ⟨r2,h2⟩:=putL_zero t m
   rw [e,h1,h2]
   simp [sidx2,seq]
 |x::l,[],s,t=>by
  have e:sidx2 (x::l) [] s t=0:=by simp [sidx2]
  obtain ⟨r1,h1⟩:=putL_zero s (x::l)
  obtain ⟨r2,h2⟩:=putL_zero t ([]:List ByteArray)
  rw [e,h1,h2]
  simp [sidx2,seq]
 |x::l,y::m,s,t=>by
  cases h:(seq x s&&seq y t) with
  |true=>
   have e:sidx2 (x::l) (y::m) s t=0:=by simp only [sidx2,h,cond_true]
   obtain ⟨r1,h1⟩:=putL_zero s (x::l)
   obtain ⟨r2,h2⟩:=putL_zero t (y::m)
   rw [e,h1,h2]
   simp [sidx2,seq]
  |false=>
   have e:sidx2 (x::l) (y::m) s t=sidx2 l m s t+1:=by simp only [sidx2,h,cond_false]
   rw [e,putL_succ,putL_succ]
   simp only [sidx2,h,cond_false]
   rw [sidx2_put l m s t]
theorem keyIdx_put {ti:TI} {ka:Bool} {ks ks':List Col} {key:SV} {kc:List SV} {i:Nat} (h:keyIdx ti ka ks key=some i) (hk:aggCells ka key=some kc) (hp:putKeys i ks kc=some ks'):keyIdx ti ka ks' key=some i:=by
 unfold keyIdx at h
 split at h
 ·rename_i l s
  cases hl:Nat.beq ti.len 3 with
  |false=>rw [hl] at h;cases h
  |true=>
   rw [hl] at h
   simp only [cond_true,Option.some.injEq] at h
   subst h
   simp only [aggCells,SV.one,Bool.true_or,cond_true,Option.some.injEq] at hk
   subst hk
   simp only [putKeys,putCol,Option.some.injEq] at hp
   subst hp
   simp only [keyIdx,hl,cond_true]
   rw [sidx_put]
 ·rename_i k l p x
  cases hl:(Nat.beq ti.len 2&&ikEq p k&&ikEq p ti.ik) with
  |false=>rw [hl] at h;cases h
  |true=>
   rw [hl] at h
   simp only [cond_true,Option.some.injEq] at h
   subst h
   simp only [aggCells,SV.one,Bool.true_or,cond_true,Option.some.injEq] at hk
   subst hk
   have hl':=hl
   simp only [Bool.and_eq_true] at hl'
   simp only [putKeys,putCol,hl'.1.2,cond_true,Option.some.injEq] at hp
   subst hp
   simp only [keyIdx,hl,cond_true]
   rw [iidx_put]
 ·rename_i l m s t
  split at h
  ·rename_i hf
   simp only [Option.some.injEq] at h
   subst h
   simp only [aggCells,Option.some.injEq] at hk
   subst hk
   simp only [putKeys,putCol,Option.some.injEq] at hp
   subst hp
   simp only [keyIdx,hf]
   rw [sidx2_put]
  ·cases h
 ·cases h
def Mem (H:Heap) (h q:Nat) (ro:Bool) (bl:Blk):Prop:=(hget H h=some (.one ro bl)∧q=0)∨∃dom f,hget H h=some (.fam ro dom f)∧f q=bl∧dom q
theorem guard_is {c:Prop} {x:Res} {r:SV} {U:Heap} {b:Nat} {t:List Nat}:(x.guard c).is r U b t↔c∧x.is r U b t:=by
 cases x with
 |no=>exact ⟨fun h=>h.elim,fun h=>h.2⟩
 |ok=>exact ⟨fun h=>⟨h.1,h.2⟩,fun h=>⟨h.1,h.2⟩⟩
 | «when» =>exact ⟨fun h=>⟨h.1.1,h.1.2,h.2⟩,fun h=>⟨⟨h.1,h.2.1⟩,h.2.2⟩⟩
theorem onBlk_inv {H:Heap} {h q:Nat} {F:Bool→Blk→Res} {r:SV} {U:Heap} {b:Nat} {t:List Nat} (hh:(onBlk H h q F).is r U b t):∃ro bl,Mem H h q ro bl∧(F ro bl).is r U b t:=by
 unfold onBlk at hh
 split at hh
 ·rename_i ro bl e
  split at hh
  ·exact ⟨ro,bl,.inl ⟨e,rfl⟩,hh⟩
  ·exact hh.elim
 ·rename_i ro dom f e
  obtain ⟨k1,k2⟩:=guard_is.1 hh
  exact ⟨ro,f q,.inr ⟨dom,f,e,rfl,k1⟩,k2⟩
 ·exact hh.elim
theorem onBlk_mk {H:Heap} {h q:Nat} {F:Bool→Blk→Res} {ro:Bool} {bl:Blk} {r:SV} {U:Heap} {b:Nat} {t:List Nat} (hm:Mem H h q ro bl) (hh:(F ro bl).is r U b t):(onBlk H h q F).is r U b t:=by
 unfold onBlk
 rcases hm with ⟨e,rfl⟩|⟨dom,f,e,rfl,hd⟩
 ·rw [e];exact hh
 ·rw [e];exact guard_is.2 ⟨hd,hh⟩
theorem mem_inj {H H':Heap} {h q:Nat} {ro ro':Bool} {bl bl':Blk} (e:hget H' h=hget H h) (h1:Mem H h q ro bl) (h2:Mem H' h q ro' bl'):ro'=ro∧bl'=bl:=by
 rcases h1 with ⟨e1,_⟩|⟨dom,f,e1,rfl,_⟩<;>rcases h2 with ⟨e2,_⟩|⟨dom2,f2,e2,rfl,_⟩<;>rw [e,e1] at e2<;>simp at e2
 ·exact ⟨e2.1.symm,e2.2.symm⟩
 ·exact ⟨e2.1.symm,by rw [e2.2.2]⟩
theorem mem_set {H S:Heap} {h q:Nat} {ro:Bool} {bl b1:Blk} (hm:Mem H h q ro bl) (e:hget S h=hget (setBlk H h q b1++H) h):Mem S h q ro b1:=by
 rcases hm with ⟨e1,e2⟩|⟨dom,f,e1,rfl,hd⟩
 ·rw [setBlk_some e1] at e
  simp only [List.cons_append,List.nil_append] at e
  rw [hget_cons,if_pos rfl] at e
  subst e2
  exact .inl ⟨e,rfl⟩
 ·rw [setBlk_some e1] at e
  simp only [List.cons_append,List.nil_append] at e
  rw [hget_cons,if_pos rfl] at e
  exact .inr ⟨dom,_,e,by simp,hd⟩
theorem bif_inv2 {c:Bool} {X:Res} {r:SV} {U:Heap} {b:Nat} {t:List Nat} (h:(bif c then X else Res.no).is r U b t):c=true∧X.is r U b t:=by
 cases c with
 |false=>exact h.elim
 |true=>exact ⟨rfl,h⟩
theorem bif_mk2 {c:Bool} {X:Res} {r:SV} {U:Heap} {b:Nat} {t:List Nat} (hc:c=true) (h:X.is r U b t):(bif c then X else Res.no).is r U b t:=by subst hc;exact h
theorem look_after {vs0 vs1 S:VS} {ti:TI} {m key r r':SV} {U U':Heap} {b b':Nat} {t t':List Nat} (h0:(lookupR vs0 ti m key false).is r U b t) (h1:(mapEntryR vs1 ti m key).is r' U' b' t') (he:∀h∈t,h∈t'→hget vs1.heap h=hget vs0.heap h) (hS:∀h∈t,h∈t'→hget S.heap h=hget (U'++vs1.heap) h):(lookupR S ti m key false).is r U b t:=by
 cases m<;>try (simp [mapEntryR,Res.is] at h1;done)
 rename_i h q
 simp only [lookupR,mapEntryR] at h0 h1⊢
 obtain ⟨ro0,bl0,m0,k0⟩:=onBlk_inv h0
 obtain ⟨ro1,bl1,m1,k1⟩:=onBlk_inv h1
 clear h0 h1
 split at k0
 ·rename_i ka ea n ks vl bs ck
  split at k0
  ·rename_i i hi
   obtain ⟨hc,k0⟩:=bif_inv2 k0
   simp only [Res.is] at k0
   obtain ⟨rfl,rfl,rfl,rfl⟩:=k0
   split at k1
   ·rename_i ka1 ea1 n1 ks1 vl1 bs1 ck1
    split at k1
    ·rename_i i1 kc hi1 hkc
     split at k1
     ·rename_i vc hvc
      split at k1
      ·rename_i ks' vl' hks hvl
       obtain ⟨hc1,k1⟩:=bif_inv2 k1
       simp only [Res.is] at k1
       obtain ⟨_,rfl,_,rfl⟩:=k1
       have e1:=he h (by simp) (by simp)
       obtain ⟨_,e2⟩:=mem_inj e1 m0 m1
       simp only [Blk.obj.injEq,ObjS.map.injEq] at e2
       obtain ⟨rfl,rfl,rfl,rfl,rfl,rfl,rfl⟩:=e2
       rw [hi] at hi1
       simp only [Option.some.injEq] at hi1
       subst hi1
       simp only [Bool.and_eq_true] at hc1 hc
       obtain ⟨q1,q2⟩:=elem_put hc1.1.2 hvc hvl
       refine onBlk_mk (mem_set m1 (hS h (by simp) (by simp))) ?_
       dsimp only
       rw [keyIdx_put hi hkc hks]
       dsimp only
       refine bif_mk2 ?_ ?_
       ·rw [Bool.and_eq_true,Bool.or_eq_true,Bool.and_eq_true]
        exact ⟨hc.1,.inl ⟨by rw [q2];rfl,hc1.2⟩⟩
       ·refine ⟨?_,rfl,rfl,rfl⟩
        unfold commaS
        rw [cond_false,cond_false,foundS_z q2,foundS_z hc1.1.2,q1]
      ·exact k1.elim
     ·exact k1.elim
    ·exact k1.elim
   ·exact k1.elim
  ·exact k0.elim
 ·exact k0.elim
end Go.Sy
