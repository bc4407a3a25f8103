/- Symbolic execution is right: slice literals, what is appended or copied. No program in sight. -/
import Derived.Test.YtlankgapiecloaaGreatDoorYS6
namespace Go.Sy
open Go.RowKit
section ops
variable {P:Program} {T:Tab} {g:G} {vs:VS} {a:Act} {w:World} {r:SV} {U:Heap} {b:Nat} {t:List Nat} {H:Heap} {nx:Nat}
theorem Rvs.of_nth {g:G}:∀(l:List SV) (vals:List Value),vals.length=l.length→(∀(i:Nat) (sv:SV),Sy.nth l i=some sv→∃v,vals[i]?=some v∧Rv g sv v)→Rvs g l vals
 | [],vals,h,_=>by simp only [Rvs];exact List.length_eq_zero_iff.1 (by simpa using h)
 |s::l,[],h,_=>by simp at h
 |s::l,v::vals,h,hn=>by
  simp only [Rvs]
  obtain ⟨u,h1,h2⟩:=hn 0 s rfl
  simp at h1
  subst h1
  exact ⟨v,vals,rfl,h2,Rvs.of_nth l vals (by simpa using h) (fun i sv hi=>by simpa using hn (i+1) sv hi)⟩
theorem flat_get {α:Type} (l:List α) (h0:0<l.length):∀(n x:Nat),x<n*l.length→(List.replicate n l).flatten[x]?=l[x%l.length]?
 |0,x,h=>by simp at h
 |n+1,x,h=>by
  rw [List.replicate_succ,List.flatten_cons]
  rcases Nat.lt_or_ge x l.length with h1|h1
  ·rw [List.getElem?_append_left h1,Nat.mod_eq_of_lt h1]
  ·rw [List.getElem?_append_right h1,flat_get l h0 n (x-l.length) (by rw [Nat.add_mul] at h;omega)]
   congr 1
   exact (Nat.mod_eq_sub_mod h1).symm
theorem flat_length {α:Type} (l:List α) (n:Nat):(List.replicate n l).flatten.length=n*l.length:=by
 induction n with
 |zero=>simp
 |succ n ih=>rw [List.replicate_succ,List.flatten_cons,List.length_append,ih,Nat.add_mul];omega
theorem flat_zero {z:Array Value} {ez:List SV} {es n:Nat} (hz:z.size=es) (h0:0<es) (hr:Rvs g ez z.toList):Rvs g (List.replicate n ez).flatten ((Array.range (n*es)).map (z[·%z.size]!)).toList:=by
 have hl:ez.length=es:=by have:=Rvs.length _ _ hr;simp at this;omega
 refine Rvs.of_nth _ _ (by simp [hl]) ?_
 intro i sv hi
 have hlt:=nth_lt hi
 rw [flat_length,hl] at hlt
 rw [nth_eq,flat_get ez (by omega) n i (by rw [hl];exact hlt),hl] at hi
 obtain ⟨v,h1,h2⟩:=Rvs.nth ez z.toList (i%es) sv hr (by rw [nth_eq];exact hi)
 refine ⟨v,?_,h2⟩
 have:=zero_cells (n:=n) hz hlt
 rw [Array.getElem?_toList,this]
 simpa using h1
theorem bcolOf_ok (l:List SV):(bcolOf l).len=l.length∧∀(i:Nat) (s:SV),l[i]?=some s→(bcolOf l).at i=s:=by
 unfold bcolOf
 split
 ·rename_i c hc
  obtain ⟨h1,h2⟩:=colOf_ok hc
  exact ⟨h1,fun i s hs=>(h2 i s hs).symm⟩
 ·exact ⟨rfl,fun i s hs=>by simp [BCol.at,List.getD,hs]⟩
theorem bcolsFrom_ok (es:Nat) (l:List SV):∀(n j:Nat),(bcolsFrom es l j n).length=n∧∀x,x<n→nth (bcolsFrom es l j n) x=some (bcolOf (every es (j+x) l))
 |0,j=>by simp [bcolsFrom]
 |n+1,j=>by
  obtain ⟨h1,h2⟩:=bcolsFrom_ok es l n (j+1)
  refine ⟨by simp [bcolsFrom,h1],?_⟩
  intro x hx
  cases x with
  |zero=>simp [bcolsFrom,nth]
  |succ x=>simp only [bcolsFrom,nth];rw [h2 x (by omega),show j+1+x=j+(x+1) from by omega]
theorem buildSlice_ok (hT:TabOk P T) (hg:g.glob) (he:EnvOk g vs a) (hH:Holds g H w) (hn:b=1→∀q,g nx q=none) {o:Oper} {ty:TypeId} {len:Nat} {parts:Array (Nat×Operand)} (ho:o.op= .buildSlice ty len parts) (h:(eff T vs nx (.buildSlice ty len parts)).is r U b t):EffOk P a o w g H nx r U b:=by
 simp only [eff] at h
 split at h
 ·rename_i ti hti
  replace h:=bif_is h
  obtain ⟨hc,h⟩:=h
  simp only [Bool.and_eq_true,Bool.not_eq_true'] at hc
  obtain ⟨⟨⟨c1,c3⟩,c4⟩,c5⟩:=hc
  split at h
  ·rename_i l hl
   replace h:=bif_is h
   obtain ⟨hc,h⟩:=h
   simp only [Bool.and_eq_true] at hc
   obtain ⟨c6,c7⟩:=hc
   obtain ⟨rfl,rfl,rfl,_⟩:=h
   obtain ⟨e,i,z,hd,hi,hz,hsz,hby,hzs,hrz,_⟩:=slice_ti (hT _ _ hti) c1 (.inr trivial) c3 c4
   have hel:0<ti.el:=by rcases Nat.eq_zero_or_pos ti.el with e|e;rw [e] at c4;simp at c4;exact e
   have hll:=Nat.eq_of_beq_eq_true c3
   have hl7:=Nat.eq_of_beq_eq_true c7
   have h5:=Nat.le_of_ble_eq_true c5
   have hz0:=flat_zero (n:=len) hzs hel (hrz g)
   obtain ⟨cs',h1,h2⟩:=fill_ok (place:=fun i=>some (i*ti.el,ti.el)) hg he (fun i o n hp=>hp) parts.toList _ l _ hz0 hl
   have h1':Instr.fill (fun i=>some (i*ti.el,ti.el)) ((Array.range (len*ti.el)).map (z.cells[·%z.cells.size]!)) ((parts.map fun p=>(p.1,a.eval p.2)).toList)=some cs':=by
    rw [Array.toList_map];exact h1
   have hcl:=Rvs.length _ _ h2
   have hti':∀w,(typeInfo e).run P w= .ok i w:=fun w=>by simp [typeInfo,hi]
   have hszr:∀w,(sizeOf e).run P w= .ok ti.el w:=fun w=>by simp [sizeOf,hti',hsz]
   have hzr:∀w,(zeroValue e).run P w= .ok z w:=fun w=>by simp [zeroValue,hti',hz]
   have hrun:(execOp a.eval o).run P w= .ok (.value (.slice (some ⟨w.heap.size,0,none⟩) len len)) (w.alloc (.cells cs' e)):=by
    simp only [execOp,ho,Instr.buildSlice,Sem.run_bind,run_underlying hd,Result.andThen_ok,hszr]
    rw [if_neg (by omega)]
    rcases Nat.eq_zero_or_pos (len*ti.el) with hn0|hn0
    ·have e0:(Array.range (len*ti.el)).map (fun x=>(#[]:Array Value)[x%(#[]:Array Value).size]!)=(Array.range (len*ti.el)).map (z.cells[·%z.cells.size]!):=by
      rw [hn0]
      apply Array.ext (by simp)
      intro x h1;simp at h1
     simp only [Sem.run_bind,Sem.run_pure,Result.andThen_ok,if_pos hn0,e0,h1',newRow,newObj_run]
    ·simp only [Sem.run_bind,Sem.run_pure,Result.andThen_ok,if_neg (show¬len*ti.el=0 by omega),hzr,h1',newRow,newObj_run]
   have hone:=allOne_ok _ _ c6 h2
   obtain ⟨B,hBdef⟩:∃B,B=(bif Nat.beq len 0 then zcols 0 ti.ez else bcolsFrom ti.el l 0 ti.el):=⟨_,rfl⟩
   rw [←hBdef]
   have hB1:B.length=ti.el∧(∀c∈B,c.len=len)∧∀i j c,i<len→nth B j=some c→nth l (j+i*ti.el)=some (c.at i):=by
    cases h0:Nat.beq len 0 with
    |true=>
     rw [h0] at hBdef
     simp only [cond_true] at hBdef
     have:=Nat.eq_of_beq_eq_true h0
     obtain ⟨z1,z2,_⟩:=zcols_ok 0 ti.ez
     subst hBdef
     exact ⟨by rw [z1,hll],fun c hc=>by rw [z2 c hc,this],fun i j c hi=>by omega⟩
    |false=>
     rw [h0] at hBdef
     simp only [cond_false] at hBdef
     obtain ⟨b1,b2⟩:=bcolsFrom_ok ti.el l ti.el 0
     subst hBdef
     refine ⟨b1,?_,?_⟩
     ·intro c hc
      obtain ⟨j,hj⟩:=mem_nth hc
      have hjl:=nth_lt hj
      rw [b1] at hjl
      rw [b2 j hjl] at hj
      cases hj
      rw [(bcolOf_ok _).1]
      exact every_length (by omega) hl7
     ·intro i j c hi hj
      have hjl:=nth_lt hj
      rw [b1] at hjl
      rw [b2 j hjl,Nat.zero_add] at hj
      cases hj
      have hlt:j+i*ti.el<l.length:=by rw [hl7];have:=lin_lt hi hjl;omega
      have hev:=every_get ti.el hel l j i
      rw [List.getElem?_eq_getElem hlt] at hev
      rw [(bcolOf_ok _).2 i _ hev,nth_eq]
      exact List.getElem?_eq_getElem hlt
   obtain ⟨k1,k2,k3⟩:=hB1
   refine ⟨_,_,_,.inl hrun,new_after (bl:= .cols len B) (cap:=len) (w':=w.alloc (.cells cs' e)) (.inl rfl) hH rfl rfl rfl rfl (hn rfl) k2 hone ?_ (fun i hi=>hi) ?_ (sl_new (Nat.le_refl _))⟩
   ·simp only [Blk.es,k1];simp at hcl;omega
   ·intro i' j sv hi' hj
    simp only [Blk.has] at hi'
    simp only [Blk.at] at hj
    split at hj
    ·rename_i c' hc'
     simp only [Option.some.injEq] at hj
     subst hj
     have hnt:=k3 i' j c' hi' hc'
     obtain ⟨v,h1,h2'⟩:=Rvs.nth l cs'.toList _ _ h2 hnt
     refine ⟨v,?_,h2'⟩
     simp only [Blk.es,k1]
     rw [show i'*ti.el+j=j+i'*ti.el from by omega]
     simpa using h1
    ·cases hj
  ·exact h.elim
 ·exact h.elim
theorem seg_getD {α:Type} (l:List α) (i n x:Nat) (d:α) (hx:x<n):(seg i n l).getD x d=l.getD (i+x) d:=by
 simp only [seg,List.getD,List.getElem?_take,hx,if_true,List.getElem?_drop]
theorem BCol.seg_at (c:BCol) (i n x:Nat) (hx:x<n) (hl:i+n≤c.len):(c.seg i n).at x=c.at (i+x):=by
 cases c with
 |sc c=>cases c<;>simp only [BCol.seg,Col.seg,BCol.at,Col.at,seg_getD _ _ _ _ _ hx]
 |svs l=>simp only [BCol.seg,BCol.at,seg_getD _ _ _ _ _ hx]
 |own h ns=>simp only [BCol.seg,BCol.at,seg_getD _ _ _ _ _ hx];exact ownL_at (by simp only [BCol.len] at hl;omega)
 |arrs m k rows=>simp only [BCol.seg,BCol.at,seg_getD _ _ _ _ _ hx];exact arrL_at (by simp only [BCol.len] at hl;omega)
 |ptrs h m=>simp only [BCol.seg,BCol.at,seg_getD _ _ _ _ _ hx];exact ptrL_at (by simp only [BCol.len] at hl;omega)
theorem BCol.seg_len (c:BCol) (i n m:Nat) (hc:c.len=m) (h:i+n≤m):(c.seg i n).len=n:=by
 cases c with
 |sc c=>cases c<;>simp only [BCol.seg,Col.seg,BCol.len,Col.len,Sy.seg,List.length_take,List.length_drop] at hc⊢<;>omega
 |svs l=>simp only [BCol.seg,BCol.len,Sy.seg,List.length_take,List.length_drop] at hc⊢;omega
 |own h ns=>simp only [BCol.seg,BCol.len,Sy.seg,List.length_take,List.length_drop,ownL_len] at hc⊢;omega
 |arrs m k rows=>simp only [BCol.seg,BCol.len,Sy.seg,List.length_take,List.length_drop,arrL_len] at hc⊢;omega
 |ptrs h m=>simp only [BCol.seg,BCol.len,Sy.seg,List.length_take,List.length_drop,ptrL_len] at hc⊢;omega
theorem segs_ok (i n:Nat):∀(l:List BCol),(segs i n l).length=l.length∧∀j,nth (segs i n l) j=(nth l j).map (·.seg i n)
 | []=>by simp [segs,nth]
 |c::l=>by
  obtain ⟨h1,h2⟩:=segs_ok i n l
  refine ⟨by simp [segs,h1],?_⟩
  intro j
  cases j with
  |zero=>simp [segs,nth]
  |succ j=>simp [segs,nth,h2 j]
structure SrcOk (P:Program) (g:G) (w:World) (el:Nat) (v:Value) (n:Nat) (l:List BCol):Prop where
 len:(Builtin.lenOf v).run P w= .ok n w
 cols:l.length=el
 lens:∀c∈l,c.len=n
 first:∀k,k≤n→∃cs:Array Value,(∀w1:World,w1.heap=w.heap→(Builtin.firstCells el k v).run P w1= .ok cs w1)∧cs.size=k*el∧(∀u∈cs.toList,u.oneCell'=true)∧∀i j c,i<k→nth l j=some c→∃u,cs[i*el+j]?=some u∧Rv g (c.at i) u
theorem slice_src {hd q i n m:Nat} {ro:Bool} {l:List BCol} {v:Value} (hH:Holds g H w) (hent:Ent H hd q ro (.cols m l)) (hv:Rv g (.sl hd q i n) v) (hle:i+n≤m) (el:Nat) (hel:l.length=el):SrcOk P g w el v n (segs i n l):=by
 obtain ⟨β,hβ,hB⟩:=hH.blk _ _ _ _ hent
 obtain ⟨ad,c,rfl,hnc,hz⟩:=rsv hv
 obtain ⟨s1,s2⟩:=segs_ok i n l
 have hes:β.es=el:=hB.es.trans hel
 refine ⟨by simp [Builtin.lenOf],by rw [s1,hel],?_,?_⟩
 ·intro x hx
  obtain ⟨j,hj⟩:=mem_nth hx
  rw [s2 j] at hj
  cases hc:nth l j with
  |none=>rw [hc] at hj;cases hj
  |some y=>rw [hc] at hj;cases hj;exact BCol.seg_len y i n m (hB.len y (nth_mem hc)) hle
 ·intro k hk
  rcases hz with hz|⟨β',hβ',ha,hcap⟩
  ·have hk0:k=0:=by omega
   subst hk0
   refine ⟨#[],fun w1 _=> ?_,by simp,by simp,fun i j c hi=>by omega⟩
   cases ad with
   |none=>simp [Builtin.firstCells]
   |some ad=>simp [Builtin.firstCells,loadCells,loadCellsFrom]
  ·rw [hβ] at hβ';cases hβ'
   subst ha
   have cell:∀x,x<k*el→∃u,w.cell? ((β.addr i 0).add x)=some u∧u.oneCell'=true∧∀i' j c,x=i'*el+j→i'<k→j<el→nth (segs i n l) j=some c→Rv g (c.at i') u:=by
    intro x hx
    have hpos:0<el:=by rcases Nat.eq_zero_or_pos el with e|e;rw [e] at hx;omega;exact e
    have hi:x/el<k:=(Nat.div_lt_iff_lt_mul hpos).2 hx
    have hj:x%el<el:=Nat.mod_lt _ hpos
    have hd':x/el*el+x%el=x:=by rw [Nat.mul_comm];exact Nat.div_add_mod _ _
    have hjl:x%el<l.length:=by rw [hel];exact hj
    have hhas:(Blk.cols m l).has (i+x/el):=by simp only [Blk.has];omega
    have hnt:nth l (x%el)=some l[x%el]:=by rw [nth_eq];exact List.getElem?_eq_getElem hjl
    obtain ⟨u,h1,h2⟩:=hB.cell (i+x/el) (x%el) (l[x%el].at (i+x/el)) hhas (by simp [Blk.at,hnt])
    have ea:(β.addr i 0).add x=β.addr (i+x/el) (x%el):=by
     rw [addr_add];unfold Base.addr;rw [hes,Nat.add_mul];congr 1;omega
    refine ⟨u,by rw [ea];exact h1,hB.one _ _ u hhas (by rw [hes];exact hj) h1,?_⟩
    intro i' j c hx' hi' hj' hc
    have e1:x%el=j:=by rw [hx'];exact mod_row hj'
    have e2:x/el=i':=by
     rw [hx',Nat.mul_comm,Nat.mul_add_div hpos,Nat.div_eq_of_lt hj',Nat.add_zero]
    rw [s2 j,←e1,hnt] at hc
    simp only [Option.map_some,Option.some.injEq] at hc
    subst hc
    rw [BCol.seg_at _ _ _ _ (by omega) (by rw [hB.len _ (nth_mem hnt)];omega),←e2]
    exact h2
   let val:Nat→Value:=fun x=>(w.cell? ((β.addr i 0).add x)).getD undef
   have hget:∀x,x<k*el→((List.range (k*el)).map val)[x]?=w.cell? ((β.addr i 0).add x):=by
    intro x hx
    obtain ⟨u,h1,_⟩:=cell x hx
    rw [List.getElem?_map,List.getElem?_range hx]
    simp only [Option.map_some,val,h1,Option.getD_some]
   have hld:∀w1:World,w1.heap=w.heap→_:=fun w1 hw=>run_loadCells_list (P:=P) (w:=w1) (β.addr i 0) ((List.range (k*el)).map val) (by
    intro x u hx
    have hcc:∀ad,w1.cell? ad=w.cell? ad:=fun ad=>by unfold World.cell?;rw [hw]
    rw [hcc]
    have hlt:x<k*el:=by
     rcases Nat.lt_or_ge x (k*el) with h|h
     ·exact h
     ·rw [List.getElem?_eq_none (by simpa using h)] at hx;cases hx
    rw [hget x hlt] at hx;exact hx)
   refine ⟨((List.range (k*el)).map val).toArray,fun w1 hw=> ?_,by simp,?_,?_⟩
   ·simp only [Builtin.firstCells]
    simpa using hld w1 hw
   ·intro u hu
    simp only [List.mem_map,List.mem_range] at hu
    obtain ⟨x,hx,rfl⟩:=hu
    obtain ⟨u,h1,h2,_⟩:=cell x hx
    simp only [val,h1,Option.getD_some];exact h2
   ·intro i' j c hi' hj
    have hjl:=nth_lt hj
    rw [s1,hel] at hjl
    have hlt:=lin_lt hi' hjl
    obtain ⟨u,h1,_,h3⟩:=cell _ hlt
    refine ⟨u,?_,h3 i' j c rfl hi' hjl hj⟩
    rw [List.getElem?_toArray,hget _ hlt];exact h1
theorem srcOf_ok (hg:g.glob) (he:EnvOk g vs a) (hH:Holds g vs.heap w) {ti:TI} {y:Operand} {x:SV} (hx:gv vs y=some x) {ty:TypeId} (_hti:tiOf P ty=some ti) (_c1:Nat.beq ti.kind 6=true) (c3:Nat.beq ti.ez.length ti.el=true) (_c4:Nat.beq ti.el 0=false) {F:Nat→List BCol→List Nat→Res} (h:(srcOf vs ti x F).is r U b t):
  ∃n l tt,(F n l tt).is r U b t∧SrcOk P g w ti.el (a.eval y) n l:=by
 have hv:=gv_ok hg he hx
 obtain ⟨z1,z2,z3⟩:=zcols_ok 0 ti.ez
 have hll:=Nat.eq_of_beq_eq_true c3
 unfold srcOf at h
 split at h
 ·rename_i hd q i n
  replace h:=onBlk_ok h
  obtain ⟨ro,bl,hent,h⟩:=h
  split at h
  ·rename_i m l
   replace h:=bif_is h
   obtain ⟨hel,h⟩:=h
   rw [Res.is_guard] at h
   exact ⟨n,_,_,h.2,slice_src hH hent hv h.1 _ (Nat.eq_of_beq_eq_true hel)⟩
  ·exact h.elim
 ·refine ⟨0,_,_,h,?_⟩
  have e:a.eval y= .slice none 0 0:=by simpa only [Rv] using hv
  rw [e]
  refine ⟨by simp [Builtin.lenOf],by rw [z1,hll],z2,fun k hk=> ?_⟩
  have hk0:k=0:=by omega
  subst hk0
  exact ⟨#[],fun w1 _=>by simp [Builtin.firstCells],by simp,by simp,fun i j c hi=>by omega⟩
 ·refine ⟨0,_,_,h,?_⟩
  obtain ⟨ad,e⟩:∃ad,a.eval y= .slice ad 0 0:=by simpa only [Rv] using hv
  rw [e]
  refine ⟨by simp [Builtin.lenOf],by rw [z1,hll],z2,fun k hk=> ?_⟩
  have hk0:k=0:=by omega
  subst hk0
  refine ⟨#[],fun w1 _=> ?_,by simp,by simp,fun i j c hi=>by omega⟩
  cases ad with
  |none=>simp [Builtin.firstCells]
  |some ad=>simp [Builtin.firstCells,loadCells,loadCellsFrom]
 ·rename_i s
  replace h:=bif_is h
  obtain ⟨hu,h⟩:=h
  refine ⟨_,_,_,h,?_⟩
  simp only [Bool.and_eq_true] at hu
  have e:=rtv hv
  have e1:=Nat.eq_of_beq_eq_true hu.2
  rw [e,e1]
  refine ⟨by simp [Builtin.lenOf],rfl,by simp [BCol.len,Col.len,intsOf],fun k hk=> ?_⟩
  have hk':k≤s.data.size:=hk
  refine ⟨(s.extract 0 k).data.map fun b=> .int .u8 b.toNat,fun w1 _=>by simp [Builtin.firstCells],?_,?_,?_⟩
  ·simp [ByteArray.data_extract];omega
  ·intro u hu
   simp only [Array.toList_map,List.mem_map] at hu
   obtain ⟨b,_,rfl⟩:=hu
   rfl
  ·intro i j c hi hj
   cases j with
   |zero=>
    simp only [nth,Option.some.injEq] at hj
    subst hj
    have hlt:i<s.data.size:=by omega
    refine ⟨.int .u8 (s.data[i].toNat:Int),?_,?_⟩
    ·simp only [Nat.mul_one,Nat.add_zero,Array.getElem?_map,ByteArray.data_extract]
     rw [Array.getElem?_extract,if_pos (by omega),Nat.zero_add,Array.getElem?_eq_getElem hlt]
     rfl
    ·simp only [BCol.at,Col.at,intsOf,Rv]
     congr 1
     rw [List.getD,List.getElem?_map,Array.getElem?_toList,Array.getElem?_eq_getElem hlt]
     rfl
   |succ j=>simp [nth] at hj
 ·exact h.elim
end ops
end Go.Sy
