/- Symbolic execution is right: cells, columns, loads. No program in sight. -/
import Derived.Test.YtlankgapiecloaaGreatDoorYS2
namespace Go.Sy
open Go.RowKit
section ops
variable {P:Program} {T:Tab} {g:G} {vs:VS} {a:Act} {w:World} {r:SV} {U:Heap} {b:Nat} {t:List Nat}
theorem fields_of {t:TypeId} {ti:TI} (h:tiOf P t=some ti) (hk:Nat.beq ti.kind 4=true) {f o n:Nat} {ag:Bool} (hf:nth ti.fields f=some (o,n,ag)) (hn:Nat.beq n 0=false):
  ∃fs fld,P.underlying t=some (.struct fs)∧fs[f]?=some fld∧fld.offset=o∧(∀w,(sizeOf fld.type).run P w= .ok n w)∧(∀w,(isAgg fld.type).run P w= .ok ag w):=by
 unfold tiOf at h
 split at h
 ·rename_i i d hi hd
  simp only [Option.some.injEq] at h
  cases d with
  |struct fs=>
   rw [←h] at hf
   rw [nth_eq] at hf
   simp only [List.getElem?_map,Array.getElem?_toList,Option.map_eq_some_iff] at hf
   obtain ⟨fld,hfld,e⟩:=hf
   simp only [Prod.mk.injEq] at e
   obtain ⟨e1,e2,e3⟩:=e
   refine ⟨fs,fld,hd,hfld,e1,?_,?_⟩
   ·unfold fsz at e2
    split at e2
    ·unfold Program.cellsOf at e2
     cases hx:P.info? fld.type with
     |none=>rw [hx] at e2;simp at e2;rw [←e2] at hn;simp at hn
     |some x=>rw [hx] at e2;simp at e2;intro w;simp [sizeOf,typeInfo,hx,e2]
    ·rw [←e2] at hn;simp at hn
   ·unfold fsz at e2
    split at e2
    ·rename_i d' hd'
     intro w
     rw [←e3]
     unfold aggB isAgg
     simp only [Sem.run_bind,run_underlying hd',Result.andThen_ok,hd']
     cases d'<;>rfl
    ·rw [←e2] at hn;simp at hn
  |_=>rw [←h] at hk;simp [kindOf] at hk
 ·cases h
theorem takeN_ok:∀(n:Nat) (l:List SV) (vals:List Value) (r:List SV),Rvs g l vals→takeN n l=some r→Rvs g r (vals.take n)∧r.length=n
 |0,l,vals,r,_,h=>by simp only [takeN,Option.some.injEq] at h;subst h;simp [Rvs]
 |n+1,[],vals,r,_,h=>by simp [takeN] at h
 |n+1,s::l,vals,r,hr,h=>by
  simp only [takeN] at h
  split at h
  ·rename_i r' hr'
   simp only [Option.some.injEq] at h
   subst h
   simp only [Rvs] at hr
   obtain ⟨v,vs',e,h1,h2⟩:=hr
   subst e
   obtain ⟨k1,k2⟩:=takeN_ok n l vs' r' h2 hr'
   refine ⟨?_,by simp [k2]⟩
   simp only [Rvs,List.take_succ_cons]
   exact ⟨v,_,rfl,h1,k1⟩
  ·cases h
theorem dropN_ok:∀(n:Nat) (l:List SV) (vals:List Value),Rvs g l vals→Rvs g (dropN n l) (vals.drop n)
 |0,l,vals,h=>by simpa [dropN] using h
 |n+1,[],vals,h=>by simp only [Rvs] at h;subst h;simp [dropN,Rvs]
 |n+1,s::l,vals,h=>by
  simp only [Rvs] at h
  obtain ⟨v,vs',e,h1,h2⟩:=h
  subst e
  simpa [dropN] using dropN_ok n l vs' h2
theorem loadN_ok {β:Base} {ro:Bool} {bl:Blk} (hB:BlkAt g β ro bl w) {i:Nat} (hi:bl.has i):∀(n j:Nat) (l:List SV),loadN bl i j n=some l→
  ∃vals:List Value,vals.length=n∧Rvs g l vals∧∀k v,vals[k]?=some v→w.cell? ((β.addr i j).add k)=some v
 |0,j,l,h=>by simp only [loadN,Option.some.injEq] at h;subst h;exact ⟨[],rfl,by simp [Rvs],by simp⟩
 |n+1,j,l,h=>by
  simp only [loadN] at h
  split at h
  ·rename_i s hs
   split at h
   ·rename_i l' hl'
    simp only [Option.some.injEq] at h
    subst h
    obtain ⟨vals,h1,h2,h3⟩:=loadN_ok hB hi n (j+1) l' hl'
    obtain ⟨v,hv,rv⟩:=hB.cell i j s hi hs
    refine ⟨v::vals,by simp [h1],by simp only [Rvs];exact ⟨v,vals,rfl,rv,h2⟩,?_⟩
    intro k u hu
    cases k with
    |zero=>simp at hu;subst hu;rw [addr_add];simpa using hv
    |succ k=>
     have:=h3 k u (by simpa using hu)
     rw [addr_add] at this⊢
     rw [show j+(k+1)=j+1+k from by omega]
     exact this
   ·cases h
  ·cases h
theorem setNth_ok {s:SV} {v:Value} (hv:Rv g s v):∀(l:List SV) (vals:List Value) (j:Nat),Rvs g l vals→Rvs g (setNth l j s) (vals.set j v)
 | [],vals,j,h=>by simp only [Rvs] at h;subst h;simp [setNth,Rvs]
 |x::l,vals,0,h=>by
  simp only [Rvs] at h
  obtain ⟨u,us,e,h1,h2⟩:=h
  subst e
  simp only [setNth,Rvs,List.set_cons_zero]
  exact ⟨v,us,rfl,hv,h2⟩
 |x::l,vals,j+1,h=>by
  simp only [Rvs] at h
  obtain ⟨u,us,e,h1,h2⟩:=h
  subst e
  simp only [setNth,Rvs,List.set_cons_succ]
  exact ⟨u,_,rfl,h1,setNth_ok hv l us j h2⟩
theorem setNth_length {α:Type}:∀(l:List α) (j:Nat) (v:α),(setNth l j v).length=l.length
 | [],_,_=>rfl
 |_::_,0,_=>rfl
 |_::l,j+1,v=>by simp [setNth,setNth_length l j v]
theorem setMany_length {α:Type}:∀(m:List α) (l:List α) (j:Nat),(setMany l j m).length=l.length
 | [],_,_=>rfl
 |v::m,l,j=>by rw [setMany,setMany_length m,setNth_length]
def setVals:List Value→Nat→List Value→List Value
 |l,_,[]=>l
 |l,j,v::r=>setVals (l.set j v) (j+1) r
theorem setMany_ok:∀(m:List SV) (ms:List Value) (l:List SV) (vals:List Value) (j:Nat),Rvs g m ms→Rvs g l vals→Rvs g (setMany l j m) (setVals vals j ms)
 | [],ms,l,vals,j,hm,hl=>by simp only [Rvs] at hm;subst hm;simpa [setMany,setVals] using hl
 |s::m,ms,l,vals,j,hm,hl=>by
  simp only [Rvs] at hm
  obtain ⟨u,us,e,h1,h2⟩:=hm
  subst e
  simp only [setMany,setVals]
  exact setMany_ok m us _ _ _ h2 (setNth_ok h1 l vals j hl)
theorem fold_setVals:∀(ms:List Value) (off k:Nat) (cs:Array Value),((ms.zipIdx k).foldl (fun (cs:Array Value) (x:Value×Nat)=>cs.setIfInBounds (off+x.2) x.1) cs).toList=setVals cs.toList (off+k) ms
 | [],off,k,cs=>by simp [setVals]
 |v::ms,off,k,cs=>by
  simp only [List.zipIdx_cons,List.foldl_cons,setVals]
  rw [fold_setVals ms off (k+1)]
  simp [Nat.add_assoc]
theorem SV.one_ok {s:SV} {v:Value} (h:s.one=true) (hv:Rv g s v):v.oneCell'=true∧v.cells= #[v]:=by
 cases s<;>simp [SV.one] at h<;>simp only [Rv] at hv
 case bool=>subst hv;exact ⟨rfl,rfl⟩
 case int=>subst hv;exact ⟨rfl,rfl⟩
 case str=>subst hv;exact ⟨rfl,rfl⟩
 case ptr=>obtain ⟨_,_,e⟩:=hv;subst e;exact ⟨rfl,rfl⟩
 case nptr=>subst hv;exact ⟨rfl,rfl⟩
 case sl=>obtain ⟨_,_,e,_⟩:=hv;subst e;exact ⟨rfl,rfl⟩
 case nsl=>subst hv;exact ⟨rfl,rfl⟩
 case zsl=>obtain ⟨_,e⟩:=hv;subst e;exact ⟨rfl,rfl⟩
 case map=>obtain ⟨_,_,e⟩:=hv;subst e;exact ⟨rfl,rfl⟩
 case nmap=>subst hv;exact ⟨rfl,rfl⟩
 case fn=>obtain ⟨_,e,_⟩:=hv;subst e;exact ⟨rfl,rfl⟩
 case iface=>obtain ⟨_,e,_⟩:=hv;subst e;exact ⟨rfl,rfl⟩
 case nif=>subst hv;exact ⟨rfl,rfl⟩
 case raw x=>subst hv;cases v<;>first|exact ⟨rfl,rfl⟩|simp at h
theorem allOne_ok:∀(m:List SV) (ms:List Value),allOne m=true→Rvs g m ms→∀v∈ms,v.oneCell'=true
 | [],ms,_,h=>by simp only [Rvs] at h;subst h;simp
 |s::m,ms,ho,h=>by
  simp only [allOne,Bool.and_eq_true] at ho
  simp only [Rvs] at h
  obtain ⟨v,vs',e,h1,h2⟩:=h
  subst e
  intro x hx
  cases hx with
  |head=>exact (SV.one_ok ho.1 h1).1
  |tail _ hm=>exact allOne_ok m vs' ho.2 h2 x hm
theorem SV.cells_ok {s:SV} {m:List SV} {v:Value} (h:s.cells=some m) (hv:Rv g s v):Rvs g m v.cells.toList:=by
 by_cases ho:s.one=true
 ·have hc:=(SV.one_ok ho hv).2
  have hm:m= [s]:=by
   cases s<;>simp [SV.one] at ho<;>first|(simp only [SV.cells,Option.some.injEq] at h;exact h.symm)|(rename_i x;cases x<;>first|(simp at ho;done)|(simp only [SV.cells,Option.some.injEq] at h;exact h.symm))
  subst hm
  rw [hc]
  simp only [Rvs]
  exact ⟨v,[],rfl,hv,rfl⟩
 ·cases s<;>simp [SV.one] at ho
  case agg l=>
   simp only [SV.cells,Option.some.injEq] at h;subst h
   obtain ⟨xs,e,k⟩:=rav hv
   subst e
   exact k
  case raw x=>cases x<;>first|(simp [SV.cells] at h;done)|simp at ho
  all_goals simp [SV.cells] at h
theorem setMany_nth {α:Type}:∀(m l:List α) (j x:Nat),j+m.length≤l.length→nth (setMany l j m) x=if j≤x∧x<j+m.length then nth m (x-j) else nth l x
 | [],l,j,x,_=>by simp only [setMany];rw [if_neg (by simp only [List.length_nil];omega)]
 |v::m,l,j,x,h=>by
  simp only [List.length_cons] at h
  have hs:nth (setNth l j v) x=if x=j then some v else nth l x:=by
   have:∀(l:List α) (j x:Nat),j<l.length→nth (setNth l j v) x=if x=j then some v else nth l x:=by
    intro l
    induction l with
    |nil=>intro j x hj;simp at hj
    |cons y l ih=>
     intro j x hj
     cases j with
     |zero=>cases x<;>simp [setNth,nth]
     |succ j=>cases x with
      |zero=>simp [setNth,nth]
      |succ x=>simp only [setNth,nth];rw [ih j x (by simpa using hj)];simp
   exact this l j x (by omega)
  simp only [setMany]
  rw [setMany_nth m (setNth l j v) (j+1) x (by rw [setNth_length];omega),hs]
  by_cases h1:x=j
  ·subst h1
   rw [if_neg (by omega),if_pos rfl,if_pos (by simp)]
   simp [nth]
  ·rw [if_neg h1]
   by_cases h2:j+1≤x∧x<j+1+m.length
   ·rw [if_pos h2,if_pos (by simp;omega),show x-j=(x-(j+1))+1 from by omega]
    simp [nth]
   ·rw [if_neg h2,if_neg (by simp;omega)]
theorem storeCells_ok (P:Program) (b o:Nat):∀(vals:List Value) (i:Nat) (w:World),(∀v∈vals,v.oneCell'=true)→(∀j,j<vals.length→(∃u,w.cell? ⟨b,o+i+j,none⟩=some u)∧w.frozen? ⟨b,o+i+j,none⟩=false)→
  ∃w',(storeCells ⟨b,o,none⟩ vals i).run P w= .ok () w'∧w'.heap.size=w.heap.size∧w'.os=w.os∧w'.tape=w.tape∧w'.output=w.output∧(∀k,k≠b→w'.heap[k]?=w.heap[k]?)∧
   (∀x,w'.frozen? ⟨b,x,none⟩=w.frozen? ⟨b,x,none⟩)∧(∀x,w'.cell? ⟨b,x,none⟩=if o+i≤x∧x<o+i+vals.length then vals[x-(o+i)]? else w.cell? ⟨b,x,none⟩)
 | [],i,w,_,_=>⟨w,by simp [storeCells],rfl,rfl,rfl,rfl,fun _ _=>rfl,fun _=>rfl,fun x=>by rw [if_neg (by simp only [List.length_nil];omega)]⟩
 |v::vals,i,w,hone,hc=>by
  obtain ⟨⟨u,hu⟩,hf⟩:=hc 0 (by simp)
  simp only [Nat.add_zero] at hu hf
  have hadd:(⟨b,o,none⟩:Addr).add i=⟨b,o+i,none⟩:=by
   unfold Addr.add;split
   ·rename_i h;subst h;rfl
   ·rfl
  have hrun:(store ((⟨b,o,none⟩:Addr).add i) v).run P w= .ok () (w.setCell ⟨b,o+i,none⟩ v):=by
   rw [run_store P w _ v _ (hone v (by simp)),hadd,hu,hf];simp
  have hblk:∃c t f,w.heap[b]?=some (.cells c t f)∧c[o+i]?=some u:=by
   unfold World.cell? at hu
   split at hu
   ·rename_i c t f hcs;exact ⟨c,t,f,hcs,by simpa using hu⟩
   ·cases hu
  obtain ⟨c,t,f,hcs,hcu⟩:=hblk
  have hnew:(w.setCell ⟨b,o+i,none⟩ v).heap[b]?=some (.cells (c.setIfInBounds (o+i) v) t f):=by
   simp [World.setCell,Array.getElem?_modify,hcs]
  have hcell:∀x,(w.setCell ⟨b,o+i,none⟩ v).cell? ⟨b,x,none⟩=if x=o+i then some v else w.cell? ⟨b,x,none⟩:=by
   intro x
   simp only [World.cell?,hnew,hcs]
   have hlt:o+i<c.size:=by
    rcases Nat.lt_or_ge (o+i) c.size with h|h
    ·exact h
    ·rw [Array.getElem?_eq_none h] at hcu;cases hcu
   by_cases hx:x=o+i
   ·subst hx;simp [hlt]
   ·rw [if_neg hx]
    simp [Array.getElem?_setIfInBounds_ne (Ne.symm hx)]
  have hfz:∀x,(w.setCell ⟨b,o+i,none⟩ v).frozen? ⟨b,x,none⟩=w.frozen? ⟨b,x,none⟩:=by
   intro x
   simp only [World.frozen?,hnew,hcs]
  obtain ⟨w',h1,h2,h3,h4,h5,h6,h7,h8⟩:=storeCells_ok P b o vals (i+1) (w.setCell ⟨b,o+i,none⟩ v) (fun x hx=>hone x (by simp [hx])) (by
   intro j hj
   obtain ⟨⟨u',hu'⟩,hf'⟩:=hc (j+1) (by simpa using hj)
   rw [show o+i+(j+1)=o+(i+1)+j from by omega] at hu' hf'
   refine ⟨?_,by rw [hfz];exact hf'⟩
   rw [hcell]
   split
   ·exact ⟨v,rfl⟩
   ·exact ⟨u',hu'⟩)
  refine ⟨w',?_,?_,?_,?_,?_,?_,fun x=>(h7 x).trans (hfz x),?_⟩
  ·simp only [storeCells,Sem.run_bind,hrun,Result.andThen_ok];exact h1
  ·rw [h2];simp [World.setCell]
  ·rw [h3];rfl
  ·rw [h4];rfl
  ·rw [h5];rfl
  ·intro k hk
   rw [h6 k hk]
   exact Below.heap_setCell w ⟨b,o+i,none⟩ v k hk
  ·intro x
   rw [h8 x,hcell]
   by_cases h9:x=o+i
   ·subst h9
    rw [if_neg (by omega),if_pos rfl,if_pos (by simp)]
    simp
   ·rw [if_neg h9]
    by_cases h10:o+(i+1)≤x∧x<o+(i+1)+vals.length
    ·rw [if_pos h10,if_pos (by simp;omega)]
     rw [show x-(o+i)=(x-(o+(i+1)))+1 from by omega]
     simp
    ·rw [if_neg h10,if_neg (by simp;omega)]
theorem fill_ok (hg:g.glob) (he:EnvOk g vs a) {pl place:Nat→Option (Nat×Nat)} (hpl:∀i o n,pl i=some (o,n)→place i=some (o,n)):
  ∀(ps:List (Nat×Operand)) (l l':List SV) (cs:Array Value),Rvs g l cs.toList→buildL vs pl ps l=some l'→
   ∃cs',Instr.fill place cs (ps.map fun p=>(p.1,a.eval p.2))=some cs'∧Rvs g l' cs'.toList
 | [],l,l',cs,hl,h=>by simp only [buildL,Option.some.injEq] at h;subst h;exact ⟨cs,rfl,hl⟩
 |(i,x)::ps,l,l',cs,hl,h=>by
  simp only [buildL] at h
  split at h
  ·rename_i o n s hp hx
   split at h
   ·rename_i m hm
    cases hc:(Nat.beq m.length n&&Nat.ble (o+n) l.length) with
    |false=>rw [hc] at h;simp at h
    |true=>
     rw [hc] at h
     simp only [cond_true] at h
     simp only [Bool.and_eq_true] at hc
     have e1:=Nat.eq_of_beq_eq_true hc.1
     have e2:=Nat.le_of_ble_eq_true hc.2
     have rc:=SV.cells_ok hm (gv_ok hg he hx)
     have lc:=Rvs.length _ _ rc
     have ll:=Rvs.length _ _ hl
     simp only [Array.length_toList] at lc ll
     have hl2:=setMany_ok m _ l cs.toList o rc hl
     have hfold:=fold_setVals (a.eval x).cells.toList o 0 cs
     simp only [Nat.add_zero] at hfold
     rw [←hfold] at hl2
     obtain ⟨cs',h1,h2⟩:=fill_ok hg he hpl ps _ l' _ hl2 h
     refine ⟨cs',?_,h2⟩
     simp only [List.map_cons,Instr.fill,hpl i o n hp]
     rw [if_neg (by simp;omega)]
     rw [←h1]
     congr 1
     rw [←Array.foldl_toList]
     simp
   ·cases h
  ·cases h
theorem mapM_sizes (P:Program) (w:World):∀fs:List Field,(fs.all (fun f=>(P.info? f.type).isSome&&(P.underlying f.type).isSome))=true→
  (fs.mapM (m:=Sem) (fun f=>do pure (f.offset,←sizeOf f.type))).run P w= .ok (fs.map fun f=>(f.offset,fsz P f.type)) w
 | [],_=>by simp
 |f::fs,h=>by
  simp only [List.all_cons,Bool.and_eq_true,Option.isSome_iff_exists] at h
  obtain ⟨⟨⟨i,hi⟩,⟨d,hd⟩⟩,h2⟩:=h
  have ih:=mapM_sizes P w fs h2
  have hs:(sizeOf f.type).run P w= .ok i.size w:=by simp [sizeOf,typeInfo,hi]
  simp only [List.mapM_cons,Sem.run_bind,List.map_cons,hs,Result.andThen_ok,Sem.run_pure,ih]
  simp [fsz,hd,Program.cellsOf,hi]
theorem every_get {α:Type} (es:Nat) (h0:0<es):∀(l:List α) (k i:Nat),(every es k l)[i]?=l[k+i*es]?
 | [],k,i=>by simp [every]
 |x::l,0,i=>by
  cases i with
  |zero=>simp [every]
  |succ i=>
   simp only [every,List.getElem?_cons_succ,every_get es h0 l (es-1) i,Nat.zero_add]
   rw [show (i+1)*es=(es-1+i*es)+1 from by rw [Nat.add_mul];omega]
   simp
 |x::l,k+1,i=>by
  simp only [every,every_get es h0 l k i]
  rw [show k+1+i*es=(k+i*es)+1 from by omega]
  simp
theorem colInts_ok (k:IntKind):∀(l:List SV) (m:List Int),colInts k l=some m→m.length=l.length∧∀(i:Nat) (s:SV),l[i]?=some s→s= .int k (m.getD i 0)
 | [],m,h=>by simp only [colInts,Option.some.injEq] at h;subst h;simp
 | .int p x::l,m,h=>by
   simp only [colInts] at h
   cases hp:ikEq p k with
   |false=>rw [hp] at h;simp at h
   |true=>
    rw [hp] at h
    have:=ikEq_ok hp;subst this
    simp only [cond_true] at h
    split at h
    ·rename_i l' hl'
     simp only [Option.some.injEq] at h;subst h
     obtain ⟨h1,h2⟩:=colInts_ok p l l' hl'
     refine ⟨by simp [h1],?_⟩
     intro i s hs
     cases i with
     |zero=>simp at hs;subst hs;simp
     |succ i=>simp at hs;simpa using h2 i s hs
    ·cases h
 | .bool _::_,m,h=>by simp [colInts] at h
 | .str _::_,m,h=>by simp [colInts] at h
 | .ptr _ _ _ _::_,m,h=>by simp [colInts] at h
 | .nptr::_,m,h=>by simp [colInts] at h
 | .sl _ _ _ _::_,m,h=>by simp [colInts] at h
 | .nsl::_,m,h=>by simp [colInts] at h
 | .zsl::_,m,h=>by simp [colInts] at h
 | .map _ _::_,m,h=>by simp [colInts] at h
 | .nmap::_,m,h=>by simp [colInts] at h
 | .fn _ _::_,m,h=>by simp [colInts] at h
 | .iface _ _::_,m,h=>by simp [colInts] at h
 | .nif::_,m,h=>by simp [colInts] at h
 | .agg _::_,m,h=>by simp [colInts] at h
 | .arr _ _::_,m,h=>by simp [colInts] at h
 | .tup _::_,m,h=>by simp [colInts] at h
 | .raw _::_,m,h=>by simp [colInts] at h
 | .unk::_,m,h=>by simp [colInts] at h
theorem colStrs_ok:∀(l:List SV) (m:List ByteArray),colStrs l=some m→m.length=l.length∧∀(i:Nat) (s:SV),l[i]?=some s→s= .str (m.getD i ⟨#[]⟩):=by
 intro l
 induction l with
 |nil=>intro m h;simp only [colStrs,Option.some.injEq] at h;subst h;simp
 |cons v l ih=>
  intro m h
  cases v<;>simp only [colStrs] at h<;>try (cases h;done)
  split at h
  ·rename_i l' hl'
   simp only [Option.some.injEq] at h;subst h
   obtain ⟨h1,h2⟩:=ih l' hl'
   refine ⟨by simp [h1],?_⟩
   intro i s hs
   cases i with
   |zero=>simp at hs;subst hs;simp
   |succ i=>simp at hs;simpa using h2 i s hs
  ·cases h
theorem colBools_ok:∀(l:List SV) (m:List Bool),colBools l=some m→m.length=l.length∧∀(i:Nat) (s:SV),l[i]?=some s→s= .bool (m.getD i false):=by
 intro l
 induction l with
 |nil=>intro m h;simp only [colBools,Option.some.injEq] at h;subst h;simp
 |cons v l ih=>
  intro m h
  cases v<;>simp only [colBools] at h<;>try (cases h;done)
  split at h
  ·rename_i l' hl'
   simp only [Option.some.injEq] at h;subst h
   obtain ⟨h1,h2⟩:=ih l' hl'
   refine ⟨by simp [h1],?_⟩
   intro i s hs
   cases i with
   |zero=>simp at hs;subst hs;simp
   |succ i=>simp at hs;simpa using h2 i s hs
  ·cases h
theorem colOf_ok {l:List SV} {c:Col} (h:colOf l=some c):c.len=l.length∧∀(i:Nat) (s:SV),l[i]?=some s→s=c.at i:=by
 unfold colOf at h
 split at h
 ·split at h
  ·rename_i m hm;simp only [Option.some.injEq] at h;subst h;exact colInts_ok _ _ m hm
  ·cases h
 ·split at h
  ·rename_i m hm;simp only [Option.some.injEq] at h;subst h;exact colStrs_ok _ m hm
  ·cases h
 ·split at h
  ·rename_i m hm;simp only [Option.some.injEq] at h;subst h;exact colBools_ok _ m hm
  ·cases h
 ·cases h
theorem every_length {α:Type} {es n j:Nat} {l:List α} (hj:j<es) (hn:l.length=n*es):(every es j l).length=n:=by
 have key:∀i,i<(every es j l).length↔i<n:=by
  intro i
  have h:=every_get es (by omega) l j i
  constructor
  ·intro hi
   rw [List.getElem?_eq_getElem hi] at h
   have:j+i*es<l.length:=by
    rcases Nat.lt_or_ge (j+i*es) l.length with h'|h'
    ·exact h'
    ·rw [List.getElem?_eq_none h'] at h;cases h
   rcases Nat.lt_or_ge i n with h'|h'
   ·exact h'
   ·have:=Nat.mul_le_mul_right es h'
    omega
  ·intro hi
   have hlt:j+i*es<l.length:=by
    have:(i+1)*es≤n*es:=Nat.mul_le_mul_right _ hi
    rw [Nat.add_mul] at this
    omega
   rw [List.getElem?_eq_getElem hlt] at h
   rcases Nat.lt_or_ge i (every es j l).length with h'|h'
   ·exact h'
   ·rw [List.getElem?_eq_none h'] at h;cases h
 rcases Nat.lt_trichotomy (every es j l).length n with h|h|h
 ·exact absurd ((key _).2 h) (Nat.lt_irrefl _)
 ·exact h
 ·exact absurd ((key _).1 h) (Nat.lt_irrefl _)
theorem Col.at_val {c:Col} {i:Nat} {v:Value} (h:Rv g (c.at i) v):v=c.val i:=by cases c<;>simpa [Col.at,Col.val,Rv] using h
theorem colsFrom_ok (es:Nat) (l:List SV):∀(n j:Nat) (cs:List Col),colsFrom es l j n=some cs→cs.length=n∧∀x c,nth cs x=some c→colOf (every es (j+x) l)=some c
 |0,j,cs,h=>by simp only [colsFrom,Option.some.injEq] at h;subst h;simp [nth]
 |n+1,j,cs,h=>by
  simp only [colsFrom] at h
  split at h
  ·rename_i c r hc hr
   simp only [Option.some.injEq] at h;subst h
   obtain ⟨h1,h2⟩:=colsFrom_ok es l n (j+1) r hr
   refine ⟨by simp [h1],?_⟩
   intro x c' hx
   cases x with
   |zero=>simp only [nth,Option.some.injEq] at hx;subst hx;exact hc
   |succ x=>simp only [nth] at hx;have:=h2 x c' hx;rwa [show j+1+x=j+(x+1) from by omega] at this
  ·cases h
theorem nth_lt {α:Type} {l:List α} {i:Nat} {x:α} (h:nth l i=some x):i<l.length:=by
 rw [nth_eq] at h
 rcases Nat.lt_or_ge i l.length with h1|h1
 ·exact h1
 ·rw [List.getElem?_eq_none h1] at h;cases h
theorem colsOf_arr {es n:Nat} {l:List SV} {cs:List Col} {vals:List Value} (h:colsOf es l=some cs) (hn:l.length=n*es) (hv:Rvs g l vals):cs.length=es∧ArrOk n cs vals.toArray:=by
 obtain ⟨h1,h2⟩:=colsFrom_ok es l es 0 cs h
 refine ⟨h1,?_,?_,?_⟩
 ·simp [Rvs.length _ _ hv,hn,h1]
 ·intro c hc
  obtain ⟨j,hj,e⟩:=List.getElem_of_mem hc
  have:=h2 j c (by rw [nth_eq,List.getElem?_eq_getElem hj,e])
  rw [(colOf_ok this).1]
  exact every_length (by omega) hn
 ·intro i j c hi hj
  have hjl:=nth_lt hj
  rw [h1] at hjl⊢
  have hc:=h2 j c hj
  rw [Nat.zero_add] at hc
  have hlt:j+i*es<l.length:=by
   rw [hn]
   have:(i+1)*es≤n*es:=Nat.mul_le_mul_right _ hi
   rw [Nat.add_mul] at this
   omega
  have he:=every_get es (by omega) l j i
  rw [List.getElem?_eq_getElem hlt] at he
  have hs:=(colOf_ok hc).2 i _ he
  obtain ⟨v,hv1,hv2⟩:=Rvs.nth l vals (j+i*es) l[j+i*es] hv (by rw [nth_eq];exact List.getElem?_eq_getElem hlt)
  rw [hs] at hv2
  rw [show i*es+j=j+i*es from by omega]
  simp only [List.getElem?_toArray,hv1,Col.at_val hv2]
theorem scs_ok:∀(l:List BCol) (cs:List Col),scs l=some cs→cs.length=l.length∧∀j,nth l j=(nth cs j).map .sc
 | [],cs,h=>by simp only [scs,Option.some.injEq] at h;subst h;simp [nth]
 | .sc c::l,cs,h=>by
   simp only [scs] at h
   split at h
   ·rename_i r hr
    simp only [Option.some.injEq] at h;subst h
    obtain ⟨h1,h2⟩:=scs_ok l r hr
    refine ⟨by simp [h1],?_⟩
    intro j
    cases j with
    |zero=>simp [nth]
    |succ j=>simp [nth,h2 j]
   ·cases h
 | .svs _::l,cs,h=>by simp [scs] at h
theorem upCols_ok:∀(cs:List Col),(upCols cs).length=cs.length∧∀j,nth (upCols cs) j=(nth cs j).map .sc
 | []=>by simp [upCols,nth]
 |c::cs=>by
  obtain ⟨h1,h2⟩:=upCols_ok cs
  refine ⟨by simp [upCols,h1],?_⟩
  intro j
  cases j with
  |zero=>simp [upCols,nth]
  |succ j=>simp [upCols,nth,h2 j]
end ops
end Go.Sy
