/- Symbolic execution is right: loads, stores, new variables, literals. No program in sight. -/
import Derived.Test.YtlankgapiecloaaGreatDoorYS4
namespace Go.Sy
open Go.RowKit
section ops
variable {P:Program} {T:Tab} {g:G} {vs:VS} {a:Act} {w:World} {r:SV} {U:Heap} {b:Nat} {t:List Nat} {H:Heap} {nx:Nat}
def LookOk (P:Program) (a:Act) (op:Op) (w:World) (g:G) (r:SV) (U:Heap) (b:Nat):Prop:=U= []∧b=0∧∃v,Rv g r v∧Yields1 P op a w v
theorem load_look (hT:TabOk P T) (hg:g.glob) (he:EnvOk g vs a) (hH:Holds g vs.heap w) {ty:TypeId} {x:Operand} (h:(eff T vs nx (.load ty x)).is r U b t):LookOk P a (.load ty x) w g r U b:=by
 simp only [eff] at h
 split at h
 ·rename_i hd q i j ti hx hti
  replace h:=onBlk_ok h
  obtain ⟨ro,bl,hent,h⟩:=h
  obtain ⟨β,hβ,hB⟩:=hH.blk _ _ _ _ hent
  obtain ⟨β',hβ',hv⟩:=rpv (gv_ok hg he hx)
  rw [hβ] at hβ';cases hβ'
  have hag:=run_isAgg' (hT _ _ hti)
  have hsz:=run_sizeOf' (hT _ _ hti)
  have scal:∀v u,ti.agg=false→w.cell? (β.addr i j)=some v→Rv g u v→LookOk P a (.load ty x) w g u [] 0:=by
   intro v u hagg hc hr
   refine ⟨rfl,rfl,_,hr,fun o' ho'=> ?_⟩
   simp [execOp,ho',Instr.loadAt,hv,Instr.sureAddr,loadVar,hag,hagg,hc]
  have agg:∀(vals:List Value) u,ti.agg=true→vals.length=ti.size→(∀k v,vals[k]?=some v→w.cell? ((β.addr i j).add k)=some v)→Rv g u (.agg vals.toArray)→LookOk P a (.load ty x) w g u [] 0:=by
   intro vals u hagg hl hc hr
   have hld:=run_loadCells_list (P:=P) (w:=w) (β.addr i j) vals hc
   rw [hl] at hld
   refine ⟨rfl,rfl,_,hr,fun o' ho'=> ?_⟩
   simp only [execOp,ho',Instr.loadAt,hv,Instr.sureAddr,Sem.run_bind,Sem.run_pure,Result.andThen_ok,loadVar,hag,hagg,if_true,hsz,hld]
  have rest:(bif ti.agg then bl.elt i (match loadN bl i j ti.size with|some l=> .ok (.agg l) [] 0 [hd]|none=> .no) else bl.elt i (match bl.at i j with|some v=> .ok v [] 0 [hd]|none=> .no)).is r U b t→LookOk P a (.load ty x) w g r U b:=by
   intro h
   cases hagg:ti.agg with
   |true=>
    rw [hagg] at h
    simp only [cond_true] at h
    replace h:=elt_ok h
    obtain ⟨hi,h⟩:=h
    split at h
    ·rename_i l hl
     obtain ⟨rfl,rfl,rfl,_⟩:=h
     obtain ⟨vals,e1,e2,e3⟩:=loadN_ok hB hi ti.size j l hl
     exact agg vals _ hagg e1 e3 (by simp only [Rv];exact ⟨_,rfl,by simpa using e2⟩)
    ·exact h.elim
   |false=>
    rw [hagg] at h
    simp only [cond_false] at h
    replace h:=elt_ok h
    obtain ⟨hi,h⟩:=h
    split at h
    ·rename_i sv hs
     obtain ⟨v,hc,rv⟩:=hB.cell i j sv hi hs
     obtain ⟨rfl,rfl,rfl,_⟩:=h
     exact scal v _ hagg hc rv
    ·exact h.elim
  unfold loadV at h
  split at h
  ·rename_i n l hk
   replace h:=bif_is h
   obtain ⟨hc,h⟩:=h
   simp only [Bool.and_eq_true] at hc
   obtain ⟨⟨⟨⟨c1,c2⟩,c3⟩,c4⟩,c5⟩:=hc
   have e1:=Nat.eq_of_beq_eq_true c1
   have e2:=Nat.eq_of_beq_eq_true c2
   have e3:=Nat.eq_of_beq_eq_true c3
   have e4:=Nat.eq_of_beq_eq_true c4
   have e5:=Nat.eq_of_beq_eq_true c5
   split at h
   ·rename_i cs hcs
    obtain ⟨rfl,rfl,rfl,_⟩:=h
    obtain ⟨s1,s2⟩:=scs_ok l cs hcs
    have hes:β.es=l.length:=hB.es
    have hcell:∀i j c,i<n→nth cs j=some c→w.cell? (β.addr i j)=some (c.val i):=by
     intro i j c hi hj
     obtain ⟨v,h1,h2⟩:=hB.cell i j (c.at i) hi (by simp only [Blk.at,s2 j,hj,Option.map_some];rfl)
     rw [h1,Col.at_val h2]
    have hall:∀x,x<n*l.length→∃v,w.cell? ⟨β.blk,β.off+x,none⟩=some v:=by
     intro x hx
     have hpos:0<l.length:=by rcases Nat.eq_zero_or_pos l.length with e|e;rw [e] at hx;omega;exact e
     have hi:x/l.length<n:=(Nat.div_lt_iff_lt_mul hpos).2 hx
     have hj:x%l.length<l.length:=Nat.mod_lt _ hpos
     have hd:x/l.length*l.length+x%l.length=x:=by rw [Nat.mul_comm];exact Nat.div_add_mod _ _
     have hj':x%l.length<cs.length:=by rw [s1];exact hj
     have hc:=hcell _ _ _ hi (show nth cs (x%l.length)=some cs[x%l.length] by rw [nth_eq];exact List.getElem?_eq_getElem hj')
     refine ⟨cs[x%l.length].val (x/l.length),?_⟩
     rw [←hc];unfold Base.addr;rw [hes];congr 2;omega
    let val:Nat→Value:=fun x=>(w.cell? ⟨β.blk,β.off+x,none⟩).getD undef
    refine agg ((List.range (n*l.length)).map val) _ (by unfold TI.agg;rw [hk];simp) (by simp [e5,e1,e2]) ?_ ?_
    ·intro k v hk'
     simp only [List.getElem?_map] at hk'
     have hlt:k<n*l.length:=by
      rcases Nat.lt_or_ge k (n*l.length) with h|h
      ·exact h
      ·rw [List.getElem?_eq_none (by simpa using h)] at hk';cases hk'
     rw [List.getElem?_range hlt] at hk'
     simp only [Option.map_some,Option.some.injEq] at hk'
     subst hk'
     obtain ⟨v,hv'⟩:=hall k hlt
     rw [addr_add]
     have:β.addr i (j+k)=⟨β.blk,β.off+k,none⟩:=by unfold Base.addr;rw [e3,e4];congr 1;omega
     rw [this]
     simp only [val,hv',Option.getD_some]
    ·simp only [Rv]
     refine ⟨_,rfl,by simp [s1],?_,?_⟩
     ·intro c hc
      obtain ⟨j,hj⟩:=mem_nth hc
      exact hB.len (.sc c) (nth_mem (j:=j) (by rw [s2 j,hj];rfl))
     intro i' j' c hi hj
     have hj2:=nth_lt hj
     rw [s1] at hj2⊢
     have hlt:=lin_lt hi hj2
     have hc:=hcell i' j' c hi hj
     have ea:β.addr i' j'=⟨β.blk,β.off+(i'*l.length+j'),none⟩:=by unfold Base.addr;rw [hes];congr 1;omega
     rw [ea] at hc
     simp only [List.getElem?_toArray,List.getElem?_map,List.getElem?_range hlt,Option.map_some,val,hc,Option.getD_some]
   ·exact h.elim
  ·exact rest h
 ·exact h.elim
theorem load_ok (hT:TabOk P T) (hg:g.glob) (he:EnvOk g vs a) (hH:Holds g vs.heap w) {o:Oper} {ty:TypeId} {x:Operand} (ho:o.op= .load ty x) (h:(eff T vs nx (.load ty x)).is r U b t):EffOk P a o w g vs.heap nx r U b:=by
 obtain ⟨rfl,rfl,v,hr,hy⟩:=load_look hT hg he hH h
 exact look_ok hH hr (by rw [ho];exact hy)
theorem store_ok (hT:TabOk P T) (hg:g.glob) (he:EnvOk g vs a) (hH:Holds g vs.heap w) {o:Oper} {ty:TypeId} {x y:Operand} (ho:o.op= .store ty x y) (h:(eff T vs nx (.store ty x y)).is r U b t):EffOk P a o w g vs.heap nx r U b:=by
 simp only [eff] at h
 split at h
 ·rename_i hd q i j v ti hx hy hti
  replace h:=onBlk_ok h
  obtain ⟨ro,bl,hent,h⟩:=h
  replace h:=bif_is' h
  obtain ⟨hro,h⟩:=h
  subst hro
  obtain ⟨β,hβ,hB⟩:=hH.blk _ _ _ _ hent
  obtain ⟨β',hβ',hpv⟩:=rpv (gv_ok hg he hx)
  rw [hβ] at hβ';cases hβ'
  have hyv:=gv_ok hg he hy
  have hsz:=run_sizeOf' (hT _ _ hti)
  have es:=hB.es
  have fin:∀(ms:List Value) (b1:Blk),(a.eval y).cells=ms.toArray→ms.length=ti.size→(∀v∈ms,v.oneCell'=true)→0<β.cap→i*β.es+j+ms.length≤β.cap*β.es→b1.plain→b1.es=bl.es→b1.lenOk→(∀i,b1.has i→bl.has i)→
    (∀i' j' sv,b1.has i'→b1.at i' j'=some sv→(i*β.es+j≤i'*β.es+j'∧i'*β.es+j'<i*β.es+j+ms.length∧∃v,ms[i'*β.es+j'-(i*β.es+j)]?=some v∧Rv g sv v)∨(¬(i*β.es+j≤i'*β.es+j'∧i'*β.es+j'<i*β.es+j+ms.length)∧bl.has i'∧bl.at i' j'=some sv))→
    EffOk P a o w g vs.heap nx (.raw undef) (setBlk vs.heap hd q b1) 0:=by
   intro ms b1 hms hl hone hcap hp hpl hes hlen hhas hat
   obtain ⟨w',k1,k2,k3,k4,k5,k6,k7,k8⟩:=write_ok (P:=P) hB hone hp
   have ea:β.addr i j=⟨β.blk,β.off+(i*β.es+j),none⟩:=by unfold Base.addr;congr 1;omega
   refine ⟨undef,w',g,.inr ⟨?_,rfl⟩,after_set hH hent hβ hcap (by simp only [Rv]) (write_blk hB rfl k2 k7 k8 hone (fun i hi=> .inl (hhas i hi)) hes hlen (fun i hi=>hB.cap i (hhas i hi)) hat hpl) k3 k4 k5 (by omega) (fun k _ hk=>k6 k hk)⟩
   have e1:(a.eval y).cells.size=ti.size:=by rw [hms];simp [hl]
   simp only [execOp,ho,Instr.storeAt,hpv,Instr.sureAddr,storeVar,Sem.run_bind,Sem.run_pure,Result.andThen_ok,hsz,e1,ne_eq,not_true_eq_false,if_false]
   rw [hms,ea]
   simp [k1]
  unfold storeV at h
  split at h
  ·rename_i n l m cs
   replace h:=bif_is h
   obtain ⟨hc,h⟩:=h
   simp only [Bool.and_eq_true] at hc
   obtain ⟨⟨⟨⟨⟨c0,c1⟩,c2⟩,c3⟩,c4⟩,c5⟩:=hc
   have e1:=Nat.eq_of_beq_eq_true c1
   have e2:=Nat.eq_of_beq_eq_true c2
   have e3:=Nat.eq_of_beq_eq_true c3
   have e4:=Nat.eq_of_beq_eq_true c4
   have e5:=Nat.eq_of_beq_eq_true c5
   have hn0:n≠0:=by intro e;rw [e] at c0;simp at c0
   obtain ⟨rfl,rfl,rfl,_⟩:=h
   obtain ⟨xs,ex,hx1,hx2,hx3⟩:=rarv hyv
   obtain ⟨u1,u2⟩:=upCols_ok cs
   have hes:β.es=l.length:=es
   have hcl:∀c∈upCols cs,c.len=n:=by
    intro c hc
    obtain ⟨k,hk⟩:=mem_nth hc
    rw [u2 k] at hk
    cases hk':nth cs k with
    |none=>rw [hk'] at hk;cases hk
    |some c'=>rw [hk'] at hk;cases hk;exact (hx2 c' (nth_mem hk')).trans e1.symm
   have hxs:xs.size=n*β.es:=by rw [hx1,hes,e2,e1]
   have hcapn:n≤β.cap:=by have:=hB.cap (n-1) (by simp only [Blk.has];omega);omega
   refine fin xs.toList (.cols n (upCols cs)) (by rw [ex];simp [Value.cells]) (by simp [hxs,e5,hes]) ?_ (by omega) ?_ trivial (by simp [Blk.es,u1,e2]) hcl (fun i hi=>hi) ?_
   ·exact arr_one ⟨hx1,hx2,hx3⟩
   ·rw [e3,e4];simp only [Array.length_toList,hxs,Nat.zero_mul,Nat.zero_add];exact Nat.mul_le_mul_right _ hcapn
   ·intro i' j' sv hi hj
    simp only [Blk.has] at hi
    simp only [Blk.at,u2 j'] at hj
    cases hc':nth cs j' with
    |none=>rw [hc'] at hj;simp at hj
    |some c=>
     rw [hc'] at hj
     simp only [Option.map_some,Option.some.injEq] at hj
     subst hj
     have hj2:=nth_lt hc'
     have hlt:i'*β.es+j'<n*β.es:=lin_lt hi (by omega)
     left
     rw [e3,e4]
     refine ⟨by omega,by simp only [Array.length_toList,hxs];omega,c.val i',?_,Col.at_ok g c i'⟩
     have:=hx3 i' j' c (by omega) hc'
     rw [e2,←hes] at this
     simpa using this
  ·rename_i v n l hv
   split at h
   ·rename_i m hm
    replace h:=bif_is h
    obtain ⟨hc,h⟩:=h
    simp only [Bool.and_eq_true] at hc
    obtain ⟨⟨c1,c2⟩,c3⟩:=hc
    have e2:=Nat.eq_of_beq_eq_true c2
    have e3:=Nat.le_of_ble_eq_true c3
    split at h
    ·rename_i l2 hl2
     obtain ⟨hin,rfl,rfl,rfl,_⟩:=h
     have rc:=SV.cells_ok hm hyv
     have lc:=Rvs.length _ _ rc
     obtain ⟨s1,s2⟩:=setCols_ok i j l l2 m hl2
     have hes:β.es=l.length:=es
     have hicap:=hB.cap i hin
     refine fin (a.eval y).cells.toList (.cols n l2) (by simp) (by rw [lc,e2]) (allOne_ok m _ c1 rc) (by omega) ?_ trivial (by simp [Blk.es,s1]) (setCols_len hl2 hB.len) (fun i hi=>hi) ?_
     ·rw [lc]
      have:(i+1)*β.es≤β.cap*β.es:=Nat.mul_le_mul_right _ hicap
      rw [Nat.add_mul] at this
      omega
     ·intro i' j' sv hi hj
      simp only [Blk.has] at hi
      simp only [Blk.at] at hj
      rw [s2 j'] at hj
      cases hc':nth l j' with
      |none=>rw [hc'] at hj;simp at hj
      |some c=>
       rw [hc'] at hj
       have hj2:=nth_lt hc'
       simp only at hj
       rw [lc]
       have old:(Blk.cols n l).at i' j'=some (c.at i'):=by simp [Blk.at,hc']
       by_cases hjj:j≤j'
       ·rw [if_pos hjj] at hj
        cases hmv:nth m (j'-j) with
        |none=>
         rw [hmv] at hj
         simp only [Option.some.injEq] at hj
         subst hj
         right
         refine ⟨?_,hi,old⟩
         have:m.length≤j'-j:=by
          rcases Nat.lt_or_ge (j'-j) m.length with h|h
          ·rw [nth_eq,List.getElem?_eq_getElem h] at hmv;cases hmv
          ·exact h
         rcases Nat.lt_trichotomy i' i with h|h|h
         ·have:=row_lt (j:=j') (j':=j) h (show j'<β.es by omega);omega
         ·subst h;omega
         ·have:=row_lt (j:=j+m.length-1) (j':=j') h (show j+m.length-1<β.es by omega);omega
        |some mv=>
         rw [hmv] at hj
         simp only at hj
         have hjm:=nth_lt hmv
         cases hsc:setColAt c i mv with
         |none=>rw [hsc] at hj;simp at hj
         |some d=>
          rw [hsc] at hj
          simp only [Option.some.injEq] at hj
          subst hj
          obtain ⟨u,hu1,hu2⟩:=Rvs.nth m _ (j'-j) mv rc hmv
          by_cases hii:i'=i
          ·subst hii
           left
           refine ⟨by omega,by omega,u,?_,setColAt_ok hsc i' u (fun _=>hu2) (fun h=>absurd rfl h) (fun _=>by rw [hB.len c (nth_mem hc')];exact hi)⟩
           rw [←hu1];congr 1;omega
          ·right
           refine ⟨?_,hi,?_⟩
           ·rcases Nat.lt_trichotomy i' i with h|h|h
            ·have:=row_lt (j:=j') (j':=j) h (show j'<β.es by omega);omega
            ·exact absurd h hii
            ·have:=row_lt (j:=j+m.length-1) (j':=j') h (show j+m.length-1<β.es by omega);omega
           ·rw [old,setColAt_ne hsc hii (by rw [hB.len c (nth_mem hc')];exact hi)]
       ·rw [if_neg hjj] at hj
        simp only [Option.some.injEq] at hj
        subst hj
        right
        refine ⟨?_,hi,old⟩
        rcases Nat.lt_trichotomy i' i with h|h|h
        ·have:=row_lt (j:=j') (j':=j) h (show j'<β.es by omega);omega
        ·subst h;omega
        ·rcases Nat.eq_zero_or_pos m.length with h0|h0
         ·omega
         ·have:=row_lt (j:=j+m.length-1) (j':=j') h (show j+m.length-1<β.es by omega);omega
    ·exact h.elim
   ·exact h.elim
  ·rename_i v l
   split at h
   ·rename_i m hm
    replace h:=bif_is h
    obtain ⟨hc,h⟩:=h
    rw [forceL_eq] at h
    simp only [Bool.and_eq_true] at hc
    obtain ⟨⟨c1,c2⟩,c3⟩:=hc
    have e2:=Nat.eq_of_beq_eq_true c2
    have e3:=Nat.le_of_ble_eq_true c3
    obtain ⟨rfl,rfl,rfl,_⟩:=h
    have rc:=SV.cells_ok hm hyv
    have lc:=Rvs.length _ _ rc
    have hes:β.es=l.length:=es
    have hcap:=hB.cap 0 rfl
    refine fin (a.eval y).cells.toList (.cells (setMany l j m)) (by simp) (by rw [lc,e2]) (allOne_ok m _ c1 rc) hcap ?_ trivial (by simp [Blk.es,setMany_length]) trivial (fun i hi=>hi) ?_
    ·rw [lc]
     have:1*β.es≤β.cap*β.es:=Nat.mul_le_mul_right _ hcap
     omega
    ·intro i' j' sv hi hj
     simp only [Blk.has] at hi
     simp only [Blk.at] at hj
     rw [setMany_nth m l j j' e3] at hj
     rw [lc,hi]
     simp only [Nat.zero_mul,Nat.zero_add]
     split at hj
     ·rename_i hc
      obtain ⟨u,hu1,hu2⟩:=Rvs.nth m _ (j'-j) sv rc hj
      exact .inl ⟨hc.1,hc.2,u,hu1,hu2⟩
     ·rename_i hc
      exact .inr ⟨hc,rfl,hj⟩
   ·exact h.elim
  ·exact h.elim
 ·exact h.elim
end ops
end Go.Sy
