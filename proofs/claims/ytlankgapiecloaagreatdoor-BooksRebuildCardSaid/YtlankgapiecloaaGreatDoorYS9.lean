/- Symbolic execution is right: append. No program in sight. -/
import Derived.Test.YtlankgapiecloaaGreatDoorYS8
namespace Go.Sy
open Go.RowKit
section ops
theorem ikEq_refl (k:IntKind):ikEq k k=true:=by cases k<;>rfl
variable {P:Program} {T:Tab} {g:G} {vs:VS} {a:Act} {w:World} {r:SV} {U:Heap} {b:Nat} {t:List Nat} {H:Heap} {nx:Nat}
theorem cat_empty:∀l2:List BCol,catCols (segs 0 0 l2) l2=some l2
 | []=>rfl
 |c::l=>by
  simp only [segs,catCols]
  rw [cat_empty l]
  cases c with
  |sc c=>cases c<;>simp [BCol.seg,Col.seg,catCol,seg,ikEq_refl]
  |svs l=>simp [BCol.seg,catCol,seg]
  |own h ns=>simp [BCol.seg,catCol,seg]
  |ptrs h n=>simp [BCol.seg,catCol,seg]
  |arrs n k r=>simp [BCol.seg,catCol,seg]
theorem append_keep (hg:g.glob) (hH:Holds g vs.heap w) (hn:∀q,g nx q=none) {o:Oper} {ty ty2 e:TypeId} {x y:Operand} {ti:TI} {d2:TypeDesc} {i:TypeInfo} {z:Value} {hd' q i' n m n2:Nat} {l l2:List BCol} (ho:o.op= .call ⟨.builtin .append,#[x,y],#[ty,ty2]⟩)
  (hd:P.underlying ty=some (.slice e)) (hd2:P.underlying ty2=some d2) (hk2:(∃e2,d2= .slice e2)∨d2= .string) (hi:P.info? e=some i) (hz:i.zero=some z) (hsz:i.size=ti.el) (hby:i.bytes=ti.eb) (hel:0<ti.el)
  (hxv:Rv g (.sl hd' q i' n) (a.eval x)) (hent:Ent vs.heap hd' q false (.cols m l)) (hle:l.length=ti.el) (hm:i'+n=m) (hsrc:SrcOk P g w ti.el (a.eval y) n2 l2) (hbd:(n+n2+500)*(ti.eb+1)≤70368744177664):EffOk P a o w g vs.heap nx (.sl nx 0 0 (n+n2)) (setBlk vs.heap hd' q (.cols m l)) 1:=by
 have hszr:∀w,(sizeOf e).run P w= .ok ti.el w:=fun w=>by simp [sizeOf,typeInfo,hi,hsz]
 have hexec:∀{v':Value} {w':World},(Builtin.append_ #[ty,ty2] o.type #[a.eval x,a.eval y]).run P w= .ok v' w'→(execOp a.eval o).run P w= .ok (.value v') w':=by
  intro v' w' hr
  simp [execOp,ho,resolve,invoke,builtin,hr]
 obtain ⟨base,c,hxe,hnc,hz'⟩:=rsv hxv
 have hso:=slice_src (P:=P) hH hent hxv (by omega) ti.el hle
 obtain ⟨old,o1,o2,o3,o4⟩:=hso.first n (Nat.le_refl _)
 rw [hxe] at o1
 obtain ⟨cs,k1,k2,k3,k4⟩:=hsrc.first n2 (Nat.le_refl _)
 obtain ⟨β,hβ,hB⟩:=hH.blk _ _ _ _ hent
 have hes:β.es=ti.el:=hB.es.trans hle
 obtain ⟨hb,e1,e2,e3,e4,e5⟩:=ent_set (b':= .cols m l) hent
 have ent:∀h' q' ro' b',Ent (setBlk vs.heap hd' q (.cols m l)++vs.heap) h' q' ro' b'→(h'=hd'∧q'=q∧ro'=false∧b'= .cols m l)∨(¬(h'=hd'∧q'=q)∧Ent vs.heap h' q' ro' b'):=by
  intro h' q' ro' b' hx
  rw [e2] at hx
  simp only [List.cons_append,List.nil_append] at hx
  rcases ent_cons.1 hx with ⟨e,hb',k1,k2,k3⟩|⟨e,hx⟩
  ·cases k1
   subst e
   rcases (e5 q' b').1 k2 with ⟨rfl,rfl⟩|⟨hne,hi⟩
   ·exact .inl ⟨rfl,rfl,k3.symm.trans e4,rfl⟩
   ·exact .inr ⟨fun x=>hne x.2,hb,e1,hi,e3.trans (e4.symm.trans k3)⟩
  ·exact .inr ⟨fun x=>e x.1.symm,hx⟩
 have org:0<β.cap→w.heap.size≤β.blk∨∃h0 q0 b0 β0,Ent vs.heap h0 q0 false b0∧g h0 q0=some β0∧0<β0.cap∧β0.blk=β.blk∧∀h q' ro b,Ent (setBlk vs.heap hd' q (.cols m l)++vs.heap) h q' ro b→¬(h=hd'∧q'=q)→¬(h=h0∧q'=q0):=
  fun hc=> .inr ⟨hd',q,_,β,hent,hβ,hc,rfl,fun _ _ _ _ _ h=>h⟩
 have born:∀β1:Base,∀h q,g h q=none→¬(nx≤h∧h<nx+1)→(g.add nx β1) h q=none:=by
  intro β1 h q hh hnn
  unfold G.add
  split
  ·rename_i e;exact absurd ⟨Nat.le_of_eq e.1.symm,by omega⟩ hnn
  ·exact hh
 have gnew:∀β1:Base,(g.add nx β1) nx 0=some β1:=fun β1=>by simp [G.add]
 have hle':∀β1:Base,G.le g (g.add nx β1):=fun β1=>G.le_add _ (hn 0)
 rcases Nat.lt_or_ge c (n+n2) with hgrow|hfit
 ·obtain ⟨hb1,hb2⟩:=bytes_fit hgrow hbd
  obtain ⟨cap,w',hcap,hrun,hheap,hos,htp,hout⟩:=run_append_grows (P:=P) (w:=w) (ty:=o.type) hd hd2 hk2 hi hsz hz (base:=base) (x:=a.eval y) hsrc.len k1 o1 hgrow hb2 (by rw [hby];exact hb1)
  rw [←hxe] at hrun
  have hkeep:∀k,k<w.heap.size→w'.heap[k]?=w.heap[k]?:=fun k hk=>by rw [hheap,Array.getElem?_push_lt hk];exact (Array.getElem?_eq_getElem hk).symm
  refine ⟨_,w',g.add nx ⟨w.heap.size,0,ti.el,cap⟩,.inl (hexec hrun),after_one (h1:=hd') (q1:=q) (b1:= .cols m l) (β1:=β) hH (hle' _) (born _) ?_ ent (hle' _ _ _ _ hβ) (blkAt_mono hB (hle' _) (by rw [hheap];simp) (fun hc=>hkeep _ (hB.lt hc))) org hos htp hout (by rw [hheap];simp) (fun k hk _=>hkeep k hk)⟩
  simp only [Rv]
  exact ⟨_,_,rfl,hcap,.inr ⟨_,gnew _,by simp [Base.addr],by simp⟩⟩
 ·rcases Nat.eq_zero_or_pos c with hc0|hc0
  ·have hcs0:cs= #[]:=Array.eq_empty_of_size_eq_zero (by rw [k2,show n2=0 from by omega];simp)
   have hst:StOk P w w (n*ti.el) cs base:=by
    cases base with
    |none=>rfl
    |some ad=>simp [StOk,hcs0,storeCells]
   have hrun:=run_append_fits (P:=P) (ty:=o.type) hd hd2 hk2 hszr (base:=base) (x:=a.eval y) hsrc.len (k1 w rfl) hfit hst
   rw [←hxe] at hrun
   refine ⟨_,w,g.add nx ⟨0,0,ti.el,0⟩,.inl (hexec hrun),after_one (h1:=hd') (q1:=q) (b1:= .cols m l) (β1:=β) hH (hle' _) (born _) ?_ ent (hle' _ _ _ _ hβ) (blkAt_mono hB (hle' _) (Nat.le_refl _) (fun _=>rfl)) org rfl rfl rfl (Nat.le_refl _) (fun _ _ _=>rfl)⟩
   simp only [Rv]
   exact ⟨base,c,rfl,hfit,.inl hc0⟩
  ·rcases hz' with hz'|⟨β',hβ',hba,hicap⟩
   ·omega
   rw [hβ] at hβ';cases hβ'
   have hsum:(i'+n)*ti.el+n2*ti.el=(i'+n+n2)*ti.el:=by rw [←Nat.add_mul]
   obtain ⟨w',p1,p2,p3,p4,p5,p6,p7,p8⟩:=write_ok (P:=P) hB (p:=(i'+n)*ti.el) (ms:=cs.toList) k3 (by
    simp only [Array.length_toList,k2,hes,hsum]
    exact Nat.mul_le_mul_right _ (by omega))
   have hadd:(β.addr i' 0).add (n*ti.el)=⟨β.blk,β.off+(i'+n)*ti.el,none⟩:=by
    rw [addr_add];unfold Base.addr;rw [hes,Nat.add_mul];congr 1;omega
   have hst:StOk P w w' (n*ti.el) cs base:=by
    rw [hba];simp only [StOk];rw [hadd];exact p1
   have hrun:=run_append_fits (P:=P) (ty:=o.type) hd hd2 hk2 hszr (base:=base) (x:=a.eval y) hsrc.len (k1 w rfl) hfit hst
   rw [←hxe] at hrun
   have ea:∀x j,β.addr x j=⟨β.blk,β.off+(x*ti.el+j),none⟩:=by
    intro x j;unfold Base.addr;rw [hes];congr 1;omega
   have nin:∀x j,j<ti.el→x<m→¬((i'+n)*ti.el≤x*ti.el+j∧x*ti.el+j<(i'+n)*ti.el+cs.toList.length):=by
    intro x j hj h1
    have:=lin_lt (show x<i'+n by omega) hj
    omega
   have same:∀x j,j<ti.el→x<m→w'.cell? (β.addr x j)=w.cell? (β.addr x j):=by
    intro x j hj hx
    rw [ea,p8,if_neg (nin x j hj hx)]
   refine ⟨_,w',g.add nx ⟨β.blk,β.off+i'*ti.el,ti.el,c⟩,.inl (hexec hrun),after_one (h1:=hd') (q1:=q) (b1:= .cols m l) (β1:=β) hH (hle' _) (born _) ?_ ent (hle' _ _ _ _ hβ) ?_ org p3 p4 p5 (by omega) (fun k _ hk=>p6 k (fun e=>hk ⟨by omega,e⟩))⟩
   ·simp only [Rv]
    refine ⟨base,c,rfl,hfit,.inr ⟨_,gnew _,?_,by simp⟩⟩
    rw [hba];simp only [Base.addr];congr 2;rw [hes];omega
   ·refine ⟨fun hc=>by rw [p2];exact hB.lt hc,hB.es,hB.len,hB.cap,?_,?_,?_,trivial⟩
    ·intro x j sv hx hj
     have hx':x<m:=hx
     have hj':j<ti.el:=by
      simp only [Blk.at] at hj
      split at hj
      ·rename_i e' he';have:=nth_lt he';omega
      ·cases hj
     obtain ⟨u,u1,u2⟩:=hB.cell x j sv hx hj
     exact ⟨u,by rw [same x j hj' hx'];exact u1,Rv.mono (hle' _) _ _ u2⟩
    ·intro x j v hx hj hv
     have hx':x<m:=hx
     rw [same x j (by rw [←hes];exact hj) hx'] at hv
     exact hB.one x j v hx hj hv
    ·intro _ x j hx hj
     obtain ⟨f1,u,f2⟩:=hB.rw rfl x j hx hj
     rw [ea] at f1 f2⊢
     refine ⟨by rw [p7];exact f1,?_⟩
     rw [p8]
     split
     ·rename_i hr
      exact ⟨_,List.getElem?_eq_getElem (by omega)⟩
     ·exact ⟨u,f2⟩
theorem append_ok (hT:TabOk P T) (hg:g.glob) (he:EnvOk g vs a) (hH:Holds g vs.heap w) (hn:b=1→∀q,g nx q=none) {o:Oper} {ty ty2:TypeId} {x y:Operand} {s v:SV} {ti ti2:TI} (ho:o.op= .call ⟨.builtin .append,#[x,y],#[ty,ty2]⟩) (hx:gv vs x=some s) (hy:gv vs y=some v) (hti:aget T ty=some ti) (hti2:aget T ty2=some ti2)
  (hc:(Nat.beq ti.kind 6&&allOne ti.ez&&Nat.beq ti.ez.length ti.el&& !Nat.beq ti.el 0&&(Nat.beq ti2.kind 6||Nat.beq ti2.kind 3))=true) (h:(appendR vs nx ti s v).is r U b t):EffOk P a o w g vs.heap nx r U b:=by
 simp only [Bool.and_eq_true,Bool.not_eq_true',Bool.or_eq_true] at hc
 obtain ⟨⟨⟨⟨c1,c2⟩,c3⟩,c4⟩,c5⟩:=hc
 obtain ⟨e,i,z,hd,hi,hz,hsz,hby,hzs,hrz,_⟩:=slice_ti (hT _ _ hti) c1 (.inr trivial) c3 c4
 have hk2:∃d2,P.underlying ty2=some d2∧((∃e2,d2= .slice e2)∨d2= .string):=by
  rcases c5 with c5|c5
  ·obtain ⟨d,h1,h2⟩:=kind_of (hT _ _ hti2) c5
   exact ⟨d,h1,.inl (by cases d<;>first|exact ⟨_,rfl⟩|(exact absurd h2 (by simp [kindOf])))⟩
  ·obtain ⟨d,h1,h2⟩:=kind_of (hT _ _ hti2) c5
   exact ⟨d,h1,.inr (by cases d<;>first|rfl|(exact absurd h2 (by simp [kindOf])))⟩
 obtain ⟨d2,hd2,hk2⟩:=hk2
 have hel:0<ti.el:=by rcases Nat.eq_zero_or_pos ti.el with e|e;rw [e] at c4;simp at c4;exact e
 have hszr:∀w,(sizeOf e).run P w= .ok ti.el w:=fun w=>by simp [sizeOf,typeInfo,hi,hsz]
 have hxv:=gv_ok hg he hx
 have hexec:∀{v':Value} {w':World},(Builtin.append_ #[ty,ty2] o.type #[a.eval x,a.eval y]).run P w= .ok v' w'→(execOp a.eval o).run P w= .ok (.value v') w':=by
  intro v' w' hr
  simp [execOp,ho,resolve,invoke,builtin,hr]
 have fin:(∀q,g nx q=none)→∀(base:Option Addr) (n c n2:Nat) (L l2 R:List BCol) (old:Array Value) (D:Heap),a.eval x= .slice base n c→n≤c→SrcOk P g w ti.el (a.eval y) n2 l2→
   (∀w1:World,w1.heap=w.heap→(Builtin.firstCells ti.el n (.slice base n c)).run P w1= .ok old w1)→old.size=n*ti.el→(∀u∈old.toList,u.oneCell'=true)→L.length=ti.el→(∀c∈L,c.len=n)→(∀i j c,i<n→nth L j=some c→∃u,old[i*ti.el+j]?=some u∧Rv g (c.at i) u)→
   catCols L l2=some R→(n+n2+500)*(ti.eb+1)≤70368744177664→(∀h q ro b,Ent (D++vs.heap) h q ro b→Ent vs.heap h q ro b)→
   (0<c→n+n2≤c→∃hd q b0 β i,Ent vs.heap hd q false b0∧g hd q=some β∧base=some (β.addr i 0)∧i+c≤β.cap∧β.es=ti.el∧(∀x j cc,x<n→nth L j=some cc→∃u,w.cell? (β.addr (i+x) j)=some u∧Rv g (cc.at x) u∧u.oneCell'=true)∧∀h' q' ro' b',Ent (D++vs.heap) h' q' ro' b'→¬(h'=hd∧q'=q))→
   EffOk P a o w g vs.heap nx (.sl nx 0 0 (n+n2)) ((nx,some (.one false (.cols (n+n2) R)))::D) 1:=by
  intro hn base n c n2 L l2 R old D hxe hnc hsrc hold hosz hoone hL hLl hLc hcat hbd hD hin
  obtain ⟨q1,q2,q3⟩:=catCols_ok L l2 R hcat
  obtain ⟨cs,k1,k2,k3,k4⟩:=hsrc.first n2 (Nat.le_refl _)
  have hRl:R.length=ti.el:=by rw [q1,hL]
  have hRlen:∀c∈R,c.len=n+n2:=by
   intro e' he'
   obtain ⟨j,hj⟩:=mem_nth he'
   obtain ⟨c',d',h1,h2,h3⟩:=q3 j e' hj
   rw [(catCol_ok h3).1,hLl c' (nth_mem h1),hsrc.lens d' (nth_mem h2)]
  have atR:∀j e' x,nth R j=some e'→x<n+n2→(x<n∧∃c',nth L j=some c'∧e'.at x=c'.at x)∨(n≤x∧∃d',nth l2 j=some d'∧e'.at x=d'.at (x-n)):=by
   intro j e' x hj hx
   obtain ⟨c',d',h1,h2,h3⟩:=q3 j e' hj
   obtain ⟨m1,m2,m3⟩:=catCol_ok h3
   have hcl:=hLl c' (nth_mem h1)
   rcases Nat.lt_or_ge x n with hxn|hxn
   ·exact .inl ⟨hxn,c',h1,m2 x (by omega)⟩
   ·refine .inr ⟨hxn,d',h2,?_⟩
    have:=m3 (x-n)
    rw [hcl,show n+(x-n)=x from by omega] at this
    exact this
  have ent:∀h q ro b,Ent ((nx,some (.one false (.cols (n+n2) R)))::D++vs.heap) h q ro b→(h=nx∧q=0∧ro=false∧b= .cols (n+n2) R)∨(¬(h=nx∧q=0)∧Ent vs.heap h q ro b):=by
   intro h q ro b he'
   rw [List.cons_append] at he'
   rcases ent_cons.1 he' with ⟨e,hb,e1,e2,e3⟩|⟨e,he'⟩
   ·cases e1
    simp only [HB.is] at e2
    exact .inl ⟨e.symm,e2.1,e3.symm,e2.2⟩
   ·exact .inr ⟨fun x=>e x.1.symm,hD h q ro b he'⟩
  have born:∀β1:Base,∀h q,g h q=none→¬(nx≤h∧h<nx+1)→(g.add nx β1) h q=none:=by
   intro β1 h q hh hnn
   unfold G.add
   split
   ·rename_i e;exact absurd ⟨Nat.le_of_eq e.1.symm,by omega⟩ hnn
   ·exact hh
  have gnew:∀β1:Base,(g.add nx β1) nx 0=some β1:=fun β1=>by simp [G.add]
  rcases Nat.lt_or_ge c (n+n2) with hgrow|hfit
  ·
   obtain ⟨hb1,hb2⟩:=bytes_fit hgrow hbd
   obtain ⟨cap,w',hcap,hrun,hheap,hos,htp,hout⟩:=run_append_grows (P:=P) (w:=w) (ty:=o.type) hd hd2 hk2 hi hsz hz (base:=base) (x:=a.eval y) hsrc.len k1 hold hgrow hb2 (by rw [hby];exact hb1)
   rw [←hxe] at hrun
   have hzc:(Builtin.zeroCells z.cells (cap-(n+n2))).size=(cap-(n+n2))*ti.el:=by simp [Builtin.zeroCells,hzs]
   have hall:∀x,x<n*ti.el→(old++cs++Builtin.zeroCells z.cells (cap-(n+n2)))[x]?=old[x]?:=by
    intro x hx
    rw [Array.getElem?_append_left (by simp only [Array.size_append];omega),Array.getElem?_append_left (by omega)]
   have hall2:∀x,x<n2*ti.el→(old++cs++Builtin.zeroCells z.cells (cap-(n+n2)))[n*ti.el+x]?=cs[x]?:=by
    intro x hx
    rw [Array.getElem?_append_left (by simp only [Array.size_append];omega),Array.getElem?_append_right (by omega)]
    congr 1;omega
   have hB:=blk_new (g:=g) (nx:=nx) (bl:= .cols (n+n2) R) (cap:=cap) hheap (.inl rfl) (hn 0) hRlen (by
     intro u hu
     simp only [Array.toList_append,List.mem_append] at hu
     rcases hu with (hu|hu)|hu
     ·exact hoone u hu
     ·exact k3 u hu
     ·simp only [Builtin.zeroCells,Array.toList_map,List.mem_map] at hu
      obtain ⟨x,hx,rfl⟩:=hu
      have hm:x%z.cells.size<z.cells.size:=Nat.mod_lt _ (by omega)
      rw [getElem!_pos z.cells _ hm]
      exact allOne_ok _ _ c2 (hrz g) _ (by simp)) (by
     simp only [Blk.es,hRl,Array.size_append,hosz,k2,hzc,←Nat.add_mul]
     exact Nat.mul_le_mul_right _ (by omega)) (fun x hx=>by simp only [Blk.has] at hx;omega) (by
     intro x j sv hx hj
     simp only [Blk.has] at hx
     simp only [Blk.at] at hj
     split at hj
     ·rename_i e' he'
      simp only [Option.some.injEq] at hj
      subst hj
      have hjl:=nth_lt he'
      rw [hRl] at hjl
      simp only [Blk.es,hRl]
      rcases atR j e' x he' hx with ⟨hxn,c',h1,h2⟩|⟨hxn,d',h1,h2⟩
      ·obtain ⟨u,u1,u2⟩:=hLc x j c' hxn h1
       rw [hall _ (lin_lt hxn hjl),h2]
       exact ⟨u,u1,u2⟩
      ·obtain ⟨u,u1,u2⟩:=k4 (x-n) j d' (by omega) h1
       refine ⟨u,?_,by rw [h2];exact u2⟩
       have:=hall2 ((x-n)*ti.el+j) (lin_lt (by omega) hjl)
       rw [←u1,←this]
       congr 1
       have:x*ti.el=n*ti.el+(x-n)*ti.el:=by rw [←Nat.add_mul];congr 1;omega
       omega
     ·cases hj)
   refine ⟨_,w',_,.inl (hexec hrun),after_one (h1:=nx) (q1:=0) (b1:= .cols (n+n2) R) hH (G.le_add _ (hn 0)) (born _) (sl_new hcap) ent (gnew _) hB (fun _=> .inl (Nat.le_refl _)) hos htp hout (by rw [hheap];simp) ?_⟩
   intro k hk _
   rw [hheap,Array.getElem?_push_lt hk];exact (Array.getElem?_eq_getElem hk).symm
  ·rcases Nat.eq_zero_or_pos c with hc0|hc0
   ·
    have hcs0:cs= #[]:=Array.eq_empty_of_size_eq_zero (by rw [k2,show n2=0 from by omega];simp)
    have hst:StOk P w w (n*ti.el) cs base:=by
     cases base with
     |none=>rfl
     |some ad=>simp [StOk,hcs0,storeCells]
    have hrun:=run_append_fits (P:=P) (ty:=o.type) hd hd2 hk2 hszr (base:=base) (x:=a.eval y) hsrc.len (k1 w rfl) hfit hst
    rw [←hxe] at hrun
    have hz0:n+n2=0:=by omega
    refine ⟨_,w,g.add nx ⟨0,0,ti.el,0⟩,.inl (hexec hrun),after_one (h1:=nx) (q1:=0) (b1:= .cols (n+n2) R) (β1:=⟨0,0,ti.el,0⟩) hH (G.le_add _ (hn 0)) (born _) ?_ ent (gnew _) ?_ (fun hc=>by simp at hc) rfl rfl rfl (Nat.le_refl _) (fun _ _ _=>rfl)⟩
    ·simp only [Rv]
     exact ⟨base,c,rfl,hfit,.inl hc0⟩
    ·refine ⟨fun hc=>by simp at hc,by simp [Blk.es,hRl],hRlen,fun x hx=>by simp only [Blk.has] at hx;omega,?_,?_,?_,trivial⟩
     ·intro x j sv hx;simp only [Blk.has] at hx;omega
     ·intro x j v hx;simp only [Blk.has] at hx;omega
     ·intro _ x j hx;simp at hx
   ·
    obtain ⟨hd',q,b0,β,i',hent,hβ,hbase,hicap,hes,hLw,hnot⟩:=hin hc0 hfit
    obtain ⟨β',hβ',hB⟩:=hH.blk _ _ _ _ hent
    rw [hβ] at hβ';cases hβ'
    have hsum:(i'+n)*ti.el+n2*ti.el=(i'+n+n2)*ti.el:=by rw [←Nat.add_mul]
    obtain ⟨w',p1,p2,p3,p4,p5,p6,p7,p8⟩:=write_ok (P:=P) hB (p:=(i'+n)*ti.el) (ms:=cs.toList) k3 (by
     simp only [Array.length_toList,k2,hes,hsum]
     exact Nat.mul_le_mul_right _ (by omega))
    have hadd:(β.addr i' 0).add (n*ti.el)=⟨β.blk,β.off+(i'+n)*ti.el,none⟩:=by
     rw [addr_add];unfold Base.addr;rw [hes,Nat.add_mul];congr 1;omega
    have hst:StOk P w w' (n*ti.el) cs base:=by
     rw [hbase];simp only [StOk];rw [hadd];exact p1
    have hrun:=run_append_fits (P:=P) (ty:=o.type) hd hd2 hk2 hszr (base:=base) (x:=a.eval y) hsrc.len (k1 w rfl) hfit hst
    rw [←hxe] at hrun
    let β1:Base:=⟨β.blk,β.off+i'*ti.el,ti.el,c⟩
    have ea:∀x j,β1.addr x j=⟨β.blk,β.off+((i'+x)*ti.el+j),none⟩:=by
     intro x j;simp only [β1,Base.addr];congr 1;rw [Nat.add_mul];omega
    have eb:∀x j,β.addr (i'+x) j=⟨β.blk,β.off+((i'+x)*ti.el+j),none⟩:=by
     intro x j;unfold Base.addr;rw [hes];congr 1;omega
    have inr:∀x j,j<ti.el→n≤x→x<n+n2→((i'+n)*ti.el≤(i'+x)*ti.el+j∧(i'+x)*ti.el+j<(i'+n)*ti.el+cs.toList.length∧(i'+x)*ti.el+j-(i'+n)*ti.el=(x-n)*ti.el+j):=by
     intro x j hj h1 h2
     have e1:(i'+x)*ti.el=(i'+n)*ti.el+(x-n)*ti.el:=by rw [←Nat.add_mul];congr 1;omega
     have e2:=lin_lt (show x-n<n2 by omega) hj
     simp only [Array.length_toList,k2]
     omega
    have nin:∀x j,j<ti.el→x<n→¬((i'+n)*ti.el≤(i'+x)*ti.el+j∧(i'+x)*ti.el+j<(i'+n)*ti.el+cs.toList.length):=by
     intro x j hj h1
     have:=lin_lt (show i'+x<i'+n by omega) hj
     omega
    have cellN:∀x j e',x<n+n2→nth R j=some e'→∃u,w'.cell? (β1.addr x j)=some u∧Rv g (e'.at x) u∧u.oneCell'=true:=by
     intro x j e' hx he'
     have hjl:=nth_lt he'
     rw [hRl] at hjl
     rw [ea,p8]
     rcases atR j e' x he' hx with ⟨hxn,c',h1,h2⟩|⟨hxn,d',h1,h2⟩
     ·rw [if_neg (nin x j hjl hxn),←eb,h2]
      exact hLw x j c' hxn h1
     ·obtain ⟨r1,r2,r3⟩:=inr x j hjl hxn hx
      obtain ⟨u,u1,u2⟩:=k4 (x-n) j d' (by omega) h1
      rw [if_pos ⟨r1,r2⟩,r3,h2]
      have u1':cs.toList[(x-n)*ti.el+j]?=some u:=by simpa using u1
      exact ⟨u,u1',u2,k3 u (List.mem_of_getElem? u1')⟩
    refine ⟨_,w',g.add nx β1,.inl (hexec hrun),after_one (h1:=nx) (q1:=0) (b1:= .cols (n+n2) R) (β1:=β1) hH (G.le_add _ (hn 0)) (born _) ?_ ent (gnew _) ?_ (fun _=> .inr ⟨hd',q,b0,β,hent,hβ,by omega,rfl,?_⟩) p3 p4 p5 (by omega) (fun k _ hk=>p6 k (fun e=>hk ⟨hc0,e⟩))⟩
    ·simp only [Rv]
     refine ⟨base,c,rfl,hfit,.inr ⟨β1,gnew _,?_,by simp [β1]⟩⟩
     rw [hbase];simp only [β1,Base.addr];congr 2;rw [hes];omega
    ·refine ⟨fun _=>by rw [p2];exact hB.lt (by omega),by simp [β1,Blk.es,hRl],hRlen,fun x hx=>by simp only [Blk.has] at hx;simp only [β1];omega,?_,?_,?_,trivial⟩
     ·intro x j sv hx hj
      simp only [Blk.has] at hx
      simp only [Blk.at] at hj
      split at hj
      ·rename_i e' he'
       simp only [Option.some.injEq] at hj
       subst hj
       obtain ⟨u,u1,u2,_⟩:=cellN x j e' hx he'
       exact ⟨u,u1,Rv.mono (G.le_add _ (hn 0)) _ _ u2⟩
      ·cases hj
     ·intro x j v hx hj hv
      simp only [Blk.has] at hx
      have hj':j<R.length:=by rw [hRl];exact hj
      obtain ⟨u,u1,_,u3⟩:=cellN x j R[j] hx (by rw [nth_eq];exact List.getElem?_eq_getElem hj')
      rw [hv] at u1;cases u1;exact u3
     ·intro _ x j hx hj
      have hx':i'+x<β.cap:=by simp only [β1] at hx;omega
      obtain ⟨f1,u,f2⟩:=hB.rw rfl (i'+x) j hx' (by rw [hes];exact hj)
      rw [eb] at f1 f2
      rw [ea]
      refine ⟨by rw [p7];exact f1,?_⟩
      rw [p8]
      split
      ·rename_i hr
       exact ⟨_,List.getElem?_eq_getElem (by omega)⟩
      ·exact ⟨u,f2⟩
    ·intro h' q' ro' b' he' hne
     rw [List.cons_append] at he'
     rcases ent_cons.1 he' with ⟨e,hb,e1,e2,e3⟩|⟨e,he'⟩
     ·cases e1
      simp only [HB.is] at e2
      exact absurd ⟨e.symm,e2.1⟩ hne
     ·exact hnot h' q' ro' b' he'
 have hc3:=Nat.eq_of_beq_eq_true c3
 obtain ⟨z1,z2,z3⟩:=zcols_ok 0 ti.ez
 have empty:∀ad,a.eval x= .slice ad 0 0→(srcOf vs ti v (fun n2 l2 t=> .when ((n2+500)*(ti.eb+1)≤70368744177664) (.sl nx 0 0 n2) [(nx,some (.one false (.cols n2 l2)))] 1 t)).is r U b t→EffOk P a o w g vs.heap nx r U b:=by
  intro ad hxe h
  obtain ⟨n2,l2,tt,h,hsrc⟩:=srcOf_ok hg he hH hy (hT _ _ hti) c1 c3 c4 h
  obtain ⟨hb,rfl,rfl,rfl,_⟩:=h
  have:=fin (hn rfl) ad 0 0 n2 (segs 0 0 l2) l2 l2 #[] [] hxe (Nat.le_refl _) hsrc (fun w1 _=>by cases ad<;>simp [Builtin.firstCells,loadCells,loadCellsFrom]) (by simp) (by simp) (by rw [(segs_ok 0 0 l2).1];exact hsrc.cols) ?_ (fun i j c hi=>by omega) ?_ (by simpa using hb) (fun _ _ _ _ h=>h) (fun hc=>by omega)
  ·simpa using this
  ·intro c hc
   obtain ⟨j,hj⟩:=mem_nth hc
   rw [(segs_ok 0 0 l2).2 j] at hj
   cases hc':nth l2 j with
   |none=>rw [hc'] at hj;cases hj
   |some y=>rw [hc'] at hj;cases hj;exact BCol.seg_len y 0 0 _ rfl (Nat.zero_le _)
  ·exact cat_empty l2
 unfold appendR at h
 split at h
 ·rename_i hd' q i' n
  replace h:=onBlk_ok h
  obtain ⟨ro,bl,hent,h⟩:=h
  split at h
  ·rename_i m l
   replace h:=bif_is h
   obtain ⟨hle,h⟩:=h
   have hle':=Nat.eq_of_beq_eq_true hle
   obtain ⟨n2,l2,tt,h,hsrc⟩:=srcOf_ok hg he hH hy (hT _ _ hti) c1 c3 c4 h
   split at h
   ·rename_i R hR
    obtain ⟨⟨hm,hb⟩,rfl,rfl,rfl,_⟩:=h
    obtain ⟨base,c,hxe,hnc,hz'⟩:=rsv hxv
    have hso:=slice_src (P:=P) hH hent hxv (by omega) ti.el hle'
    obtain ⟨old,o1,o2,o3,o4⟩:=hso.first n (Nat.le_refl _)
    obtain ⟨hb',e1,e2,e3⟩:=ent_drop hent
    have hnot:∀h' q' ro' b',Ent (dropBlk vs.heap hd' q++vs.heap) h' q' ro' b'→¬(h'=hd'∧q'=q)∧Ent vs.heap h' q' ro' b':=by
     intro h' q' ro' b' he'
     rw [e2] at he'
     simp only [List.cons_append,List.nil_append] at he'
     rcases ent_cons.1 he' with ⟨e,hb2,k1,k2,k3⟩|⟨e,he'⟩
     ·obtain ⟨m1,m2⟩:=e3 hb2 k1
      obtain ⟨m3,m4⟩:=m2 q' b' k2
      subst e
      exact ⟨fun x=>m3 x.2,hb',e1,m4,m1.symm.trans k3⟩
     ·exact ⟨fun x=>e x.1.symm,he'⟩
    obtain ⟨β,hβ,hB⟩:=hH.blk _ _ _ _ hent
    have hes:β.es=ti.el:=hB.es.trans hle'
    obtain ⟨L,hLd⟩:∃L,L=(bif Nat.beq i' 0 then l else segs i' n l):=⟨_,rfl⟩
    rw [←hLd] at hR
    have hL:L.length=ti.el∧(∀c∈L,c.len=n)∧∀x j cc,x<n→nth L j=some cc→∃y,nth l j=some y∧cc.at x=y.at (i'+x):=by
     cases hi0:Nat.beq i' 0 with
     |true=>
      have e0:=Nat.eq_of_beq_eq_true hi0
      rw [hi0] at hLd
      simp only [cond_true] at hLd
      subst hLd
      refine ⟨hle',fun c hc=>by rw [hB.len c hc];omega,fun x j cc hx hj=>⟨cc,hj,by rw [e0,Nat.zero_add]⟩⟩
     |false=>
      rw [hi0] at hLd
      simp only [cond_false] at hLd
      subst hLd
      refine ⟨hso.cols,hso.lens,fun x j cc hx hj=> ?_⟩
      rw [(segs_ok i' n l).2 j] at hj
      cases hc':nth l j with
      |none=>rw [hc'] at hj;cases hj
      |some y=>rw [hc'] at hj;cases hj;exact ⟨y,rfl,BCol.seg_at _ _ _ _ hx (by rw [hB.len _ (nth_mem hc')];omega)⟩
    have o4':∀x j cc,x<n→nth L j=some cc→∃u,old[x*ti.el+j]?=some u∧Rv g (cc.at x) u:=by
     intro x j cc hx hj
     obtain ⟨y,h1,h2⟩:=hL.2.2 x j cc hx hj
     obtain ⟨u,u1,u2⟩:=o4 x j (y.seg i' n) hx (by rw [(segs_ok i' n l).2 j,h1];rfl)
     exact ⟨u,u1,by rw [h2,←BCol.seg_at _ _ _ _ hx (by rw [hB.len _ (nth_mem h1)];omega)];exact u2⟩
    refine fin (hn rfl) base n c n2 L l2 R old (dropBlk vs.heap hd' q) hxe hnc hsrc (by rw [←hxe];exact o1) o2 o3 hL.1 hL.2.1 o4' hR hb (fun h' q' ro' b' he'=>(hnot h' q' ro' b' he').2) ?_
    intro hc0 _
    rcases hz' with hz'|⟨β',hβ',hba,hcap⟩
    ·omega
    rw [hβ] at hβ';cases hβ'
    refine ⟨hd',q,_,β,i',hent,hβ,hba,hcap,hes,?_,fun h' q' ro' b' he'=>(hnot h' q' ro' b' he').1⟩
    intro x j cc hx hj
    obtain ⟨y,h1,h2⟩:=hL.2.2 x j cc hx hj
    have hjl:=nth_lt h1
    obtain ⟨u,u1,u2⟩:=hB.cell (i'+x) j (y.at (i'+x)) (by simp only [Blk.has];omega) (by simp [Blk.at,h1])
    exact ⟨u,u1,by rw [h2];exact u2,hB.one (i'+x) j u (by simp only [Blk.has];omega) (by rw [hB.es];exact hjl) u1⟩
   ·obtain ⟨⟨hm,hb⟩,rfl,rfl,rfl,_⟩:=h
    exact append_keep hg hH (hn rfl) ho hd hd2 hk2 hi hz hsz hby hel hxv hent hle' hm hsrc hb
  ·exact h.elim
 ·exact empty none (by simpa only [Rv] using hxv) h
 ·obtain ⟨ad,hxe⟩:∃ad,a.eval x= .slice ad 0 0:=by simpa only [Rv] using hxv
  exact empty ad hxe h
 ·exact h.elim
end ops
end Go.Sy
