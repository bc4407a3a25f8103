/- Symbolic execution is right: new variables, literals, new slices. No program in sight. -/
import Derived.Test.YtlankgapiecloaaGreatDoorYS5
namespace Go.Sy
open Go.RowKit
section ops
variable {P:Program} {T:Tab} {g:G} {vs:VS} {a:Act} {w:World} {r:SV} {U:Heap} {b:Nat} {t:List Nat} {H:Heap} {nx:Nat}
theorem newR_ok {o:Oper} {cs:Array Value} {ty:TypeId} {bl:Blk} {cap:Nat} (hH:Holds g H w) (hn:b=1→∀q,g nx q=none) (hlen:bl.lenOk) (hone:∀v∈cs.toList,v.oneCell'=true) (hsz:cap*bl.es≤cs.size) (hhas:∀i,bl.has i→i<cap)
  (hcell:∀i j sv,bl.has i→bl.at i j=some sv→∃v,cs[i*bl.es+j]?=some v∧Rv g sv v) (hrun:(execOp a.eval o).run P w= .ok (.value (.pointer (some ⟨w.heap.size,0,none⟩))) (w.alloc (.cells cs ty)))
  (h:(newR nx bl).is r U b t) (hpl:bl.plain:=by exact trivial):EffOk P a o w g H nx r U b:=by
 obtain ⟨rfl,rfl,rfl,_⟩:=h
 exact ⟨_,_,_,.inl hrun,new_after (w':=w.alloc (.cells cs ty)) (.inl rfl) hH rfl rfl rfl rfl (hn rfl) hlen hone hsz hhas hcell ptr_new hpl⟩
theorem cells_new {l:List SV} {cs:Array Value} (hl:Rvs g l cs.toList):∀i j sv,(Blk.cells l).has i→(Blk.cells l).at i j=some sv→∃v,cs[i*(Blk.cells l).es+j]?=some v∧Rv g sv v:=by
 intro i j sv hi hj
 simp only [Blk.has] at hi
 subst hi
 obtain ⟨v,h1,h2⟩:=Rvs.nth l cs.toList j sv hl hj
 exact ⟨v,by simpa using h1,h2⟩
theorem cols_new {n:Nat} {cs:List Col} {xs:Array Value} (h:ArrOk n cs xs):(∀i j sv,(Blk.cols n (upCols cs)).has i→(Blk.cols n (upCols cs)).at i j=some sv→∃v,xs[i*(Blk.cols n (upCols cs)).es+j]?=some v∧Rv g sv v)∧(Blk.cols n (upCols cs)).lenOk∧n*(Blk.cols n (upCols cs)).es≤xs.size:=by
 obtain ⟨u1,u2⟩:=upCols_ok cs
 refine ⟨?_,?_,by simp [Blk.es,u1,h.1]⟩
 ·intro i j sv hi hj
  simp only [Blk.has] at hi
  simp only [Blk.at,u2 j] at hj
  cases hc:nth cs j with
  |none=>rw [hc] at hj;simp at hj
  |some c=>
   rw [hc] at hj
   simp only [Option.map_some,Option.some.injEq] at hj
   subst hj
   exact ⟨c.val i,by simp only [Blk.es,u1];exact h.2.2 i j c hi hc,Col.at_ok g c i⟩
 ·intro c hc
  obtain ⟨k,hk⟩:=mem_nth hc
  rw [u2 k] at hk
  cases hk':nth cs k with
  |none=>rw [hk'] at hk;cases hk
  |some c'=>rw [hk'] at hk;cases hk;exact h.2.1 c' (nth_mem hk')
theorem newObj_run (o:Obj):(newObj o).run P w= .ok w.heap.size (w.alloc o):=rfl
theorem alloc_ok (hT:TabOk P T) (hH:Holds g H w) (hn:b=1→∀q,g nx q=none) {o:Oper} {ty:TypeId} (ho:o.op= .alloc ty) {ti:TI} (hti:aget T ty=some ti) (h:(allocR nx ti).is r U b t):EffOk P a o w g H nx r U b:=by
 unfold allocR at h
 ·replace h:=bif_is' h
  obtain ⟨hne,h⟩:=h
  simp only [Bool.or_eq_false_iff,Bool.not_eq_false'] at hne
  have hti':=hT _ _ hti
  unfold tiOf at hti'
  split at hti'
  ·rename_i i d hi hd
   simp only [Option.some.injEq] at hti'
   have hz0:ti.zero=zeroOf P ty:=by rw [←hti']
   cases hz:i.zero with
   |none=>rw [hz0] at hne;simp [zeroOf,hi,hz] at hne
   |some z=>
    have hzc:Rvs g ti.zero z.cells.toList:=by rw [hz0];simp only [zeroOf,hi,hz];exact cvs_ok g _
    have hone:=allOne_ok _ _ hne.2 hzc
    have hzr:(zeroValue ty).run P w= .ok z w:=by simp [zeroValue,typeInfo,hi,hz]
    have hrun:(execOp a.eval o).run P w= .ok (.value (.pointer (some ⟨w.heap.size,0,none⟩))) (w.alloc (.cells z.cells ty)):=by
     simp only [execOp,ho,Instr.alloc,Sem.run_bind,hzr,Result.andThen_ok,newVar,newRow,newObj_run,Sem.run_pure]
    have plain:(newR nx (.cells ti.zero)).is r U b t→EffOk P a o w g H nx r U b:=fun h=>
     newR_ok (bl:= .cells ti.zero) (cap:=1) hH hn trivial hone (by simp [Blk.es,←Rvs.length _ _ hzc]) (fun i hi=>by simp only [Blk.has] at hi;omega) (cells_new hzc) hrun h
    cases hc:(Nat.beq ti.kind 5&& !ti.zc.isEmpty&&Nat.beq ti.zero.length (ti.len*ti.el)) with
    |false=>rw [hc] at h;exact plain h
    |true=>
     rw [hc] at h
     simp only [cond_true] at h
     simp only [Bool.and_eq_true] at hc
     obtain ⟨⟨c1,c2⟩,c3⟩:=hc
     have hk:=Nat.eq_of_beq_eq_true c1
     have hkd:kindOf d=5:=by rw [←hti'] at hk;exact hk
     obtain ⟨n,e,rfl⟩:∃n e,d= .array n e:=by cases d<;>first|exact ⟨_,_,rfl⟩|(exact absurd hkd (by simp [kindOf]))
     have hel:ti.el=P.cellsOf e:=by rw [←hti']
     have hzcq:ti.zc=(match colsOf (P.cellsOf e) (zeroOf P ty) with|some cs=>cs|none=> []):=(congrArg TI.zc hti').symm
     rw [←hel,←hz0] at hzcq
     cases hco:colsOf ti.el ti.zero with
     |none=>rw [hco] at hzcq;rw [hzcq] at c2;simp at c2
     |some cs=>
      rw [hco] at hzcq
      simp only at hzcq
      rw [hzcq] at h
      obtain ⟨k1,k2⟩:=colsOf_arr hco (Nat.eq_of_beq_eq_true c3) hzc
      obtain ⟨m1,m2,m3⟩:=cols_new (g:=g) k2
      exact newR_ok (cap:=ti.len) (cs:=z.cells) hH hn m2 hone (by simpa using m3) (fun i hi=>hi) (by simpa using m1) hrun h
  ·cases hti'
theorem box_ok (hg:g.glob) (he:EnvOk g vs a) (hH:Holds g H w) (hn:b=1→∀q,g nx q=none) {o:Oper} {ty:TypeId} {x:Operand} (ho:o.op= .box ty x) (h:(eff T vs nx (.box ty x)).is r U b t):EffOk P a o w g H nx r U b:=by
 simp only [eff] at h
 split at h
 ·rename_i v ti hx hti
  have hv:=gv_ok hg he hx
  have hrun:(execOp a.eval o).run P w= .ok (.value (.pointer (some ⟨w.heap.size,0,none⟩))) (w.alloc (.cells (a.eval x).cells ty)):=by
   simp only [execOp,ho,Instr.box,Sem.run_bind,Result.andThen_ok,newVar,newRow,newObj_run,Sem.run_pure]
  have plain:∀l:List SV,Rvs g l (a.eval x).cells.toList→allOne l=true→(newR nx (.cells l)).is r U b t→EffOk P a o w g H nx r U b:=fun l hl hone h=>
   newR_ok (bl:= .cells l) (cap:=1) hH hn trivial (allOne_ok _ _ hone hl) (by simp [Blk.es,←Rvs.length _ _ hl]) (fun i hi=>by simp only [Blk.has] at hi;omega) (cells_new hl) hrun h
  have arr:∀n cs,ArrOk n cs (a.eval x).cells→(newR nx (.cols n (upCols cs))).is r U b t→EffOk P a o w g H nx r U b:=by
   intro n cs k2 h
   obtain ⟨m1,m2,m3⟩:=cols_new (g:=g) k2
   exact newR_ok (cap:=n) hH hn m2 (arr_one k2) m3 (fun i hi=>hi) m1 hrun h
  unfold boxR at h
  split at h
  ·rename_i n cs
   obtain ⟨xs,ex,hx1⟩:=rarv hv
   exact arr n cs (by rw [ex];exact hx1) h
  ·rename_i l
   replace h:=bif_is' h
   obtain ⟨hone,h⟩:=h
   simp only [Bool.not_eq_false'] at hone
   obtain ⟨xs,ex,rx⟩:=rav hv
   have rx':Rvs g l (a.eval x).cells.toList:=by rw [ex];exact rx
   cases hk:Nat.beq ti.kind 5 with
   |false=>rw [hk] at h;exact plain l rx' hone h
   |true=>
    rw [hk] at h
    simp only [cond_true] at h
    split at h
    ·rename_i cs hcs
     replace h:=bif_is h
     obtain ⟨hl,h⟩:=h
     obtain ⟨_,k2⟩:=colsOf_arr hcs (Nat.eq_of_beq_eq_true hl).symm rx'
     exact arr _ cs (by simpa using k2) h
    ·exact plain l rx' hone h
  ·rename_i v' h1 h2
   replace h:=bif_is h
   obtain ⟨hone,h⟩:=h
   refine plain [v] ?_ (by simp [allOne,hone]) h
   rw [(SV.one_ok hone hv).2]
   simp only [Rvs]
   exact ⟨_,_,rfl,hv,rfl⟩
 ·exact h.elim
theorem build_ok (hT:TabOk P T) (hg:g.glob) (he:EnvOk g vs a) (hH:Holds g H w) {o:Oper} {ty:TypeId} {parts:Array (Nat×Operand)} (ho:o.op= .build ty parts) (h:(eff T vs nx (.build ty parts)).is r U b t):EffOk P a o w g H nx r U b:=by
 simp only [eff] at h
 split at h
 ·rename_i ti hti
  replace h:=bif_is h
  obtain ⟨hk,h⟩:=h
  simp only [Bool.and_eq_true,Bool.not_eq_true'] at hk
  obtain ⟨hk,hn8⟩:=hk
  split at h
  ·rename_i l hl
   have hti':=hT _ _ hti
   unfold tiOf at hti'
   split at hti'
   ·rename_i inf d hinf hdd
    simp only [Option.some.injEq] at hti'
    have hb:(inf.zero.isSome&&bldB P d)=true:=by rw [←hti'] at hk;exact hk
    simp only [Bool.and_eq_true,Option.isSome_iff_exists] at hb
    obtain ⟨⟨z,hz⟩,hb⟩:=hb
    have hzero:ti.zero=z.cells.toList.map cv:=by rw [←hti'];simp [zeroOf,hinf,hz]
    have hz0:Rvs g ti.zero z.cells.toList:=by rw [hzero];exact cvs_ok g _
    have hzrun:(zeroValue ty).run P w= .ok z w:=by simp [zeroValue,typeInfo,hinf,hz]
    have hkind:ti.kind=kindOf d:=by rw [←hti']
    have fin:∀cs':Array Value,Rvs g l cs'.toList→(execOp a.eval o).run P w= .ok (.value (.agg cs')) w→EffOk P a o w g H nx r U b:=by
     intro cs' h2 hrun
     have agg:(Res.one (.agg l)).is r U b t→EffOk P a o w g H nx r U b:=by
      rintro ⟨rfl,rfl,rfl,_⟩
      exact ⟨_,w,g,.inl hrun,after_look hH (by simp only [Rv];exact ⟨_,rfl,h2⟩)⟩
     cases hk5:Nat.beq ti.kind 5 with
     |false=>rw [hk5] at h;exact agg h
     |true=>
      rw [hk5] at h
      simp only [cond_true] at h
      split at h
      ·rename_i cs hcs
       replace h:=bif_is h
       obtain ⟨hl',h⟩:=h
       obtain ⟨rfl,rfl,rfl,_⟩:=h
       obtain ⟨_,k2⟩:=colsOf_arr hcs (Nat.eq_of_beq_eq_true hl').symm h2
       exact ⟨_,w,g,.inl hrun,after_look hH (by simp only [Rv];exact ⟨_,rfl,by simpa using k2⟩)⟩
      ·exact agg h
    cases d with
    |struct fs=>
     simp only [bldB] at hb
     have hms:(fs.mapM (m:=Sem) (fun f=>do pure (f.offset,←sizeOf f.type))).run P w= .ok (fs.map fun f=>(f.offset,fsz P f.type)) w:=by
      rw [Array.mapM_eq_mapM_toList,Sem.run_map,mapM_sizes P w fs.toList hb]
      simp [←Array.toList_map]
     obtain ⟨cs',h1,h2⟩:=fill_ok (place:=fun i=>(fs.map fun f=>(f.offset,fsz P f.type))[i]?) hg he (by
      intro i o n hp
      unfold TI.place at hp
      rw [←hti'] at hp
      simp only [kindOf] at hp
      simp only [nth_eq] at hp
      cases hf:fs.toList[i]? with
      |none=>rw [List.getElem?_map,hf] at hp;simp at hp
      |some f=>
       rw [List.getElem?_map,hf] at hp
       simp at hp
       have:fs[i]?=some f:=by simpa using hf
       simp [this,hp.1,hp.2]) parts.toList ti.zero l z.cells hz0 hl
     refine fin cs' h2 ?_
     have h1':Instr.fill (fun i=>(fs.map fun f=>(f.offset,fsz P f.type))[i]?) z.cells ((parts.map fun p=>(p.1,a.eval p.2)).toList)=some cs':=by
      rw [Array.toList_map];exact h1
     simp only [execOp,ho,Instr.build,Sem.run_bind,hzrun,Result.andThen_ok,run_underlying hdd,hms,h1',Sem.run_pure]
    |array n e=>
     simp only [bldB,Option.isSome_iff_exists] at hb
     obtain ⟨ie,hie⟩:=hb
     have hel:ti.el=ie.size:=by rw [←hti'];simp [Program.cellsOf,hie]
     have hsz:(sizeOf e).run P w= .ok ti.el w:=by simp [sizeOf,typeInfo,hie,hel]
     obtain ⟨cs',h1,h2⟩:=fill_ok (place:=fun i=>some (i*ti.el,ti.el)) hg he (by
      intro i o n hp
      unfold TI.place at hp
      have:Nat.beq ti.kind 4=false:=by rw [←hti'];rfl
      rw [this] at hp
      simpa using hp) parts.toList ti.zero l z.cells hz0 hl
     refine fin cs' h2 ?_
     have h1':Instr.fill (fun i=>some (i*ti.el,ti.el)) z.cells ((parts.map fun p=>(p.1,a.eval p.2)).toList)=some cs':=by
      rw [Array.toList_map];exact h1
     simp only [execOp,ho,Instr.build,Sem.run_bind,hzrun,Result.andThen_ok,run_underlying hdd,hsz,h1',Sem.run_pure]
    |map k e=>rw [hkind] at hn8;cases hn8
    |_=>simp [bldB] at hb
   ·cases hti'
  ·exact h.elim
 ·exact h.elim
theorem slice_ti {ty:TypeId} {ti:TI} (h:tiOf P ty=some ti) (hk:Nat.beq ti.kind 6=true) (_hone:allOne ti.ez=true∨True) (hl:Nat.beq ti.ez.length ti.el=true) (h0:Nat.beq ti.el 0=false):
  ∃e i z,P.underlying ty=some (.slice e)∧P.info? e=some i∧i.zero=some z∧i.size=ti.el∧i.bytes=ti.eb∧z.cells.size=ti.el∧(∀g,Rvs g ti.ez z.cells.toList)∧(ti.u8=true→P.underlying e=some (.int .u8)):=by
 unfold tiOf at h
 split at h
 ·rename_i i d hi hd
  simp only [Option.some.injEq] at h
  have hkd:kindOf d=6:=by rw [←h] at hk;exact Nat.eq_of_beq_eq_true hk
  obtain ⟨e,rfl⟩:∃e,d= .slice e:=by cases d<;>first|exact ⟨_,rfl⟩|(exact absurd hkd (by simp [kindOf]))
  have hel:ti.el=P.cellsOf e:=by rw [←h]
  have hez:ti.ez=zeroOf P e:=by rw [←h]
  have heb:ti.eb=(match P.info? e with|some x=>x.bytes|none=>0):=(congrArg TI.eb h).symm
  have hu8:ti.u8=(match P.underlying e with|some (.int .u8)=>true|_=>false):=(congrArg TI.u8 h).symm
  have hll:=Nat.eq_of_beq_eq_true hl
  have hn0:ti.el≠0:=by intro e';rw [e'] at h0;simp at h0
  cases hie:P.info? e with
  |none=>rw [hez] at hll;simp [zeroOf,hie] at hll;omega
  |some ie=>
   cases hz:ie.zero with
   |none=>rw [hez] at hll;simp [zeroOf,hie,hz] at hll;omega
   |some z=>
    have hezz:ti.ez=z.cells.toList.map cv:=by rw [hez];simp [zeroOf,hie,hz]
    refine ⟨e,ie,z,hd,hie,hz,by rw [hel];simp [Program.cellsOf,hie],by rw [heb,hie],?_,fun g=>by rw [hezz];exact cvs_ok g _,?_⟩
    ·rw [←hll,hezz];simp
    ·intro hu
     rw [hu8] at hu
     split at hu
     ·rename_i hh;exact hh
     ·cases hu
 ·cases h
theorem zcols_ok (n:Nat):∀(l:List SV),(zcols n l).length=l.length∧(∀c∈zcols n l,c.len=n)∧∀j sv,nth l j=some sv→∃c,nth (zcols n l) j=some c∧∀i,i<n→c.at i=sv
 | []=>by simp [zcols,nth]
 |s::l=>by
  obtain ⟨h1,h2,h3⟩:=zcols_ok n l
  have hz:(zcol n s).len=n∧∀i,i<n→(zcol n s).at i=s:=by
   cases s<;>refine ⟨by simp [zcol,BCol.len,Col.len],fun i hi=> ?_⟩<;>simp [zcol,BCol.at,Col.at,List.getD,hi]
  refine ⟨by simp [zcols,h1],?_,?_⟩
  ·intro c hc
   simp only [zcols,List.mem_cons] at hc
   rcases hc with rfl|hc
   ·exact hz.1
   ·exact h2 c hc
  ·intro j sv hj
   cases j with
   |zero=>simp only [nth,Option.some.injEq] at hj;subst hj;exact ⟨_,rfl,hz.2⟩
   |succ j=>simp only [nth] at hj;simpa [zcols,nth] using h3 j sv hj
theorem zcols_nth {n:Nat} {l:List SV} {j:Nat} {c:BCol} (h:nth (zcols n l) j=some c):∃sv,nth l j=some sv∧∀i,i<n→c.at i=sv:=by
 obtain ⟨h1,h2,h3⟩:=zcols_ok n l
 have hj:=nth_lt h
 rw [h1] at hj
 obtain ⟨c',k1,k2⟩:=h3 j l[j] (by rw [nth_eq];exact List.getElem?_eq_getElem hj)
 rw [h] at k1;cases k1
 exact ⟨_,by rw [nth_eq];exact List.getElem?_eq_getElem hj,k2⟩
theorem zero_cells {z:Array Value} {es n x:Nat} (hz:z.size=es) (hx:x<n*es):((Array.range (n*es)).map (z[·%z.size]!))[x]?=z[x%es]?:=by
 have hpos:0<es:=by rcases Nat.eq_zero_or_pos es with e|e;rw [e] at hx;omega;exact e
 have hm:x%es<z.size:=by rw [hz];exact Nat.mod_lt _ hpos
 simp only [Array.getElem?_map]
 rw [Array.getElem?_range]
 simp only [hx,if_true,Option.map_some,hz]
 rw [Array.getElem?_eq_getElem hm,getElem!_pos z (x%es) hm]
theorem mod_row {i j es:Nat} (hj:j<es):(i*es+j)%es=j:=by
 rw [Nat.mul_comm,Nat.mul_add_mod];exact Nat.mod_eq_of_lt hj
theorem makeSlice_ok (hT:TabOk P T) (hg:g.glob) (he:EnvOk g vs a) (hH:Holds g H w) (hn:b=1→∀q,g nx q=none) {o:Oper} {ty:TypeId} {x y:Operand} (ho:o.op= .makeSlice ty x y) (h:(eff T vs nx (.makeSlice ty x y)).is r U b t):EffOk P a o w g H nx r U b:=by
 simp only [eff] at h
 split at h
 ·rename_i k1 l k2 c ti hx hy hti
  replace h:=bif_is h
  obtain ⟨hc,h⟩:=h
  simp only [Bool.and_eq_true,Bool.not_eq_true'] at hc
  obtain ⟨⟨⟨c1,c2⟩,c3⟩,c4⟩:=hc
  obtain ⟨hb,rfl,rfl,rfl,_⟩:=h
  obtain ⟨hl0,hlc,hcb⟩:=hb
  obtain ⟨e,i,z,hd,hi,hz,hsz,hby,hzs,hrz,_⟩:=slice_ti (hT _ _ hti) c1 (.inr trivial) c3 c4
  have hc0:0≤c:=by omega
  have hcm:c≤281474976710656:=by
   have:c*1≤c*((ti.eb:Int)+1):=Int.mul_le_mul_of_nonneg_left (by omega) hc0
   omega
  have hbc:(ti.eb:Int)*c≤281474976710656:=by
   have:c*(ti.eb:Int)≤c*((ti.eb:Int)+1):=Int.mul_le_mul_of_nonneg_left (by omega) hc0
   rw [Int.mul_comm];omega
  have wl:IntKind.i64.wrap l=l:=IntWalk.i64_in l ⟨by omega,by omega⟩
  have wc:IntKind.i64.wrap c=c:=IntWalk.i64_in c ⟨by omega,by omega⟩
  have hxv:=riv (gv_ok hg he hx)
  have hyv:=riv (gv_ok hg he hy)
  let n:=c.toNat*ti.el
  let cs:Array Value:=(Array.range n).map (z.cells[·%z.cells.size]!)
  have hcells:∀x,x<n→cs[x]?=z.cells[x%ti.el]?:=fun x hx=>zero_cells hzs hx
  have hrun:(execOp a.eval o).run P w= .ok (.value (.slice (some ⟨w.heap.size,0,none⟩) l.toNat c.toNat)) (w.alloc (.cells cs e)):=by
   have hti':∀w,(typeInfo e).run P w= .ok i w:=fun w=>by simp [typeInfo,hi]
   have hszr:∀w,(sizeOf e).run P w= .ok ti.el w:=fun w=>by simp [sizeOf,hti',hsz]
   have hzr:∀w,(zeroValue e).run P w= .ok z w:=fun w=>by simp [zeroValue,hti',hz]
   have h1:¬(c<0):=by omega
   have h2:¬((i.bytes:Int)*c>2^48):=by rw [hby];omega
   have h3:¬(l<0):=by omega
   have h4:¬(l>c):=by omega
   have hroom:∀w,(askRoom (c.toNat*i.bytes)).run P w= .ok () w:=fun w=>by unfold askRoom;split<;>rfl
   have hif:(decide (c<0)||decide ((i.bytes:Int)*c>2^48)||decide (l<0)||decide (l>c))=false:=by simp only [h1,h2,h3,h4,decide_false,Bool.or_self]
   simp only [execOp,ho,Instr.makeSlice,Sem.run_bind,run_underlying hd,Result.andThen_ok,hxv,hyv,asInt,asIntOf,Sem.run_pure,hti',wl,wc,hif,hroom,hszr,Bool.false_eq_true,if_false]
   rcases Nat.eq_zero_or_pos (c.toNat*ti.el) with hn0|hn0
   ·have e0:cs=(Array.range (c.toNat*ti.el)).map (fun x=>(#[]:Array Value)[x%(#[]:Array Value).size]!):=by
     simp only [cs,n,hn0]
     apply Array.ext (by simp)
     intro x h1;simp at h1
    rw [if_pos hn0,e0]
    simp only [Sem.run_pure,Result.andThen_ok,newRow,newObj_run,Sem.run_bind]
   ·rw [if_neg (by omega)]
    simp only [Sem.run_bind,hzr,Result.andThen_ok,Sem.run_pure,newRow,newObj_run]
    rfl
  have hlen:l.toNat≤c.toNat:=by omega
  obtain ⟨z1,z2,z3⟩:=zcols_ok l.toNat ti.ez
  have hll:=Nat.eq_of_beq_eq_true c3
  refine ⟨_,_,_,.inl hrun,new_after (bl:= .cols l.toNat (zcols l.toNat ti.ez)) (cap:=c.toNat) (w':=w.alloc (.cells cs e)) (.inl rfl) hH rfl rfl rfl rfl (hn rfl) z2 ?_ ?_ ?_ ?_ (sl_new hlen)⟩
  ·intro v hv
   obtain ⟨x,hx,ev⟩:=List.getElem_of_mem hv
   have hx':x<n:=by simpa [cs] using hx
   have h1:=hcells x hx'
   have h2:cs[x]?=some v:=by
    have:cs.toList[x]?=some v:=by rw [List.getElem?_eq_getElem hx,ev]
    simpa using this
   rw [h2] at h1
   exact allOne_ok _ _ c2 (hrz g) v (by have:=Array.mem_of_getElem? h1.symm;simpa using this)
  ·simp [Blk.es,z1,hll,cs,n]
  ·intro i hi;simp only [Blk.has] at hi;omega
  ·intro i' j sv hi' hj
   simp only [Blk.has] at hi'
   simp only [Blk.at] at hj
   split at hj
   ·rename_i c' hc'
    simp only [Option.some.injEq] at hj
    subst hj
    obtain ⟨s,hs1,hs2⟩:=zcols_nth hc'
    have hjl:=nth_lt hs1
    rw [hs2 i' hi']
    simp only [Blk.es,z1,hll]
    rw [hll] at hjl
    have hlt:i'*ti.el+j<n:=lin_lt (by omega) hjl
    rw [hcells _ hlt,mod_row hjl]
    obtain ⟨v,h1,h2⟩:=Rvs.nth _ _ j s (hrz g) hs1
    exact ⟨v,by simpa using h1,h2⟩
   ·cases hj
 ·exact h.elim
end ops
end Go.Sy
