/- The condition is right: regions of open order. No program in sight. -/
import Derived.Test.YtlankgapiecloaaGreatDoorYC4
namespace Go.Sy
open Go.RowKit
theorem hasN_ok:∀(l:List Nat) (t:Nat),hasN l t=true↔t∈l
 | [],t=>by simp [hasN]
 |x::r,t=>by
  simp only [hasN,Bool.or_eq_true,hasN_ok r t,List.mem_cons]
  constructor
  ·rintro (h|h)
   ·exact .inl (Nat.eq_of_beq_eq_true h).symm
   ·exact .inr h
  ·rintro (rfl|h)
   ·exact .inl (by simp)
   ·exact .inr h
theorem apartN_ok:∀(l m:List Nat),apartN l m=true→∀x∈l,x∉m
 | [],m,_,x,hx=>by cases hx
 |y::l,m,h,x,hx=>by
  simp only [apartN,Bool.and_eq_true,Bool.not_eq_true'] at h
  rcases List.mem_cons.1 hx with rfl|hx
  ·intro hm;rw [(hasN_ok m x).2 hm] at h;exact absurd h.1 (by simp)
  ·exact apartN_ok l m h.2 x hx
theorem opSlots_ok:∀(l:List Operand) (t:Nat),Operand.tmp t∈l→t∈opSlots l
 | [],t,h=>by cases h
 |x::r,t,h=>by
  rcases List.mem_cons.1 h with e|h
  ·subst e;simp [opSlots]
  ·have:=opSlots_ok r t h
   cases x<;>simp [opSlots,this]
theorem edgeTo_ok {o:Oper} {j:Nat} (h:edgeTo o j=true):∃e∈o.after,Region.binds .any e=true∧e.on=j:=by
 unfold edgeTo at h
 rw [List.any_eq_true] at h
 obtain ⟨e,he,h⟩:=h
 simp only [Bool.and_eq_true] at h
 exact ⟨e,by simpa using he,h.1,Nat.eq_of_beq_eq_true h.2⟩
def Closed (ops:Array Oper) (L:Nat→Bool):Prop:=∀(i:Nat) (o:Oper),ops[i]?=some o→L i=true→∀e∈o.after,Region.binds .any e=true→L e.on=true
theorem reach_L {ops:Array Oper} {L:Nat→Bool} (hc:Closed ops L):∀(n:Nat) (o:Oper) (j:Nat),reach ops.toList n o j=true→(∀e∈o.after,Region.binds .any e=true→L e.on=true)→L j=true
 |0,o,j,h,hd=>by
  obtain ⟨e,h1,h2,h3⟩:=edgeTo_ok h
  rw [←h3];exact hd e h1 h2
 |n+1,o,j,h,hd=>by
  simp only [reach,Bool.or_eq_true,List.any_eq_true] at h
  rcases h with h|⟨e,he,h⟩
  ·obtain ⟨e,h1,h2,h3⟩:=edgeTo_ok h
   rw [←h3];exact hd e h1 h2
  ·simp only [Bool.and_eq_true] at h
   obtain ⟨⟨h1,_⟩,h3⟩:=h
   split at h3
   ·rename_i oe hoe
    have he':e∈o.after:=by simpa using he
    have hoe':ops[e.on]?=some oe:=by rw [nth_eq] at hoe;simpa using hoe
    exact reach_L hc n oe j h3 (hc e.on oe hoe' (hd e he' h1))
   ·cases h3
structure Draw (ops:Array Oper):Prop where
 dst:∀(i j:Nat) (oi oj:Oper) (t:Nat),ops[i]?=some oi→ops[j]?=some oj→i≠j→oj.dst=some t→oi.dst≠some t
 slot:∀(i j:Nat) (oi oj:Oper) (t:Nat),ops[i]?=some oi→ops[j]?=some oj→i≠j→oj.dst=some t→t∈looks ops.toList oi→(j<i∧reach ops.toList 7 oi j=true)∨(i<j∧reach ops.toList 7 oj i=true)
 self:∀(i:Nat) (o:Oper) (t:Nat),ops[i]?=some o→o.dst=some t→t∉looks ops.toList o
 back:∀(i:Nat) (o:Oper),ops[i]?=some o→∀e∈o.after,Region.binds .any e=true→e.on<i
 guard:∀(i:Nat) (o:Oper),ops[i]?=some o→∀j want,o.guard=some (j,want)→∃d,guardSlot ops.toList o=some d
theorem rowOk_ok (l:List Oper) (i:Nat) (oi:Oper):∀(r:List Oper) (j:Nat),rowOk l i oi j r=true→∀k o,r[k]?=some o→pairOk l i (j+k) oi o=true
 | [],j,_,k,o,h=>by simp at h
 |x::r,j,hr,k,o,h=>by
  simp only [rowOk,Bool.and_eq_true] at hr
  cases k with
  |zero=>simp at h;subst h;exact hr.1
  |succ k=>simp at h;have:=rowOk_ok l i oi r (j+1) hr.2 k o h;rwa [show j+1+k=j+(k+1) from by omega] at this
theorem rowsOk_ok (l:List Oper):∀(r:List Oper) (i:Nat),rowsOk l i r=true→∀k o,r[k]?=some o→selfOk l (i+k) o=true∧rowOk l (i+k) o 0 l=true
 | [],i,_,k,o,h=>by simp at h
 |x::r,i,hr,k,o,h=>by
  simp only [rowsOk,Bool.and_eq_true] at hr
  cases k with
  |zero=>simp at h;subst h;exact hr.1
  |succ k=>simp at h;have:=rowsOk_ok l r (i+1) hr.2 k o h;rwa [show i+1+k=i+(k+1) from by omega] at this
theorem draw_of {ops:Array Oper} (h:drawOk ops.toList=true):Draw ops:=by
 have conv:∀{i:Nat} {o:Oper},ops[i]?=some o→ops.toList[i]?=some o:=fun h=>by simpa using h
 have key:∀(i:Nat) (o:Oper),ops[i]?=some o→selfOk ops.toList i o=true∧rowOk ops.toList i o 0 ops.toList=true:=by
  intro i o ho
  have:=rowsOk_ok ops.toList ops.toList 0 h i o (conv ho)
  simpa using this
 have pair:∀(i j:Nat) (oi oj:Oper),ops[i]?=some oi→ops[j]?=some oj→pairOk ops.toList i j oi oj=true:=by
  intro i j oi oj hi hj
  have:=rowOk_ok ops.toList i oi ops.toList 0 (key i oi hi).2 j oj (conv hj)
  simpa using this
 refine ⟨?_,?_,?_,?_,?_⟩
 ·intro i j oi oj t hi hj hne ht e
  have:=pair i j oi oj hi hj
  simp only [pairOk,Bool.or_eq_true,ht,e] at this
  rcases this with h|h
  ·exact hne (Nat.eq_of_beq_eq_true h)
  ·simp at h
 ·intro i j oi oj t hi hj hne ht hl
  have:=pair i j oi oj hi hj
  simp only [pairOk,Bool.or_eq_true,ht,Bool.and_eq_true,Bool.not_eq_true'] at this
  rcases this with h|⟨_,(h|h)|h⟩
  ·exact absurd (Nat.eq_of_beq_eq_true h) hne
  ·rw [(hasN_ok _ _).2 hl] at h;cases h
  ·exact .inl ⟨by simpa using h.1,h.2⟩
  ·exact .inr ⟨by simpa using h.1,h.2⟩
 ·intro i o t hi ht hl
  have:=(key i o hi).1
  simp only [selfOk,Bool.and_eq_true,ht,Bool.not_eq_true'] at this
  rw [(hasN_ok _ _).2 hl] at this
  exact absurd this.1.1 (by simp)
 ·intro i o hi e he hb
  have:=(key i o hi).1
  simp only [selfOk,Bool.and_eq_true] at this
  have h2:=this.1.2
  unfold edgesBack at h2
  rw [List.all_eq_true] at h2
  have h3:=h2 e (by simpa using he)
  rw [hb] at h3
  simpa using h3
 ·intro i o hi j want hg
  have:=(key i o hi).1
  simp only [selfOk,Bool.and_eq_true] at this
  have h2:=this.2
  cases hgs:guardSlot ops.toList o with
  |none=>rw [hgs,hg] at h2;cases h2
  |some d=>exact ⟨d,rfl⟩
def Did (P:Program) (T:Tab) (ops:List Oper) (o:Oper) (s:VS) (r:SV) (U:Heap) (b:Nat) (t:List Nat):Prop:=
 ((∃j want oj d,o.guard=some (j,want)∧nth ops j=some oj∧oj.dst=some d∧((∃c,aget s.env d=some (.bool c)∧c≠want)∨(∃x,aget s.env d=some (.raw (.tuple x)))))∧r= .raw undef∧U= []∧b=0∧t= [])∨
 ((o.guard=none∨∃j want oj d,o.guard=some (j,want)∧nth ops j=some oj∧oj.dst=some d∧aget s.env d=some (.bool want))∧
   ((eff T s s.next o.op).is r U b t∨
    ∃f al l0 args0 H r0 H' n',CallOf P o s f al∧FC P l0.length f args0 H (isOut r0 H' n')∧Fits l0 s.next al args0 H s.heap∧
     r=SV.ren (rho l0 s.next) r0∧U=renH (rho l0 s.next) H'++lost (rho l0 s.next) H∧b=n'-l0.length∧t=l0))
theorem vexD_did {P:Program} {T:Tab} {ops:List Oper} {o:Oper} {recs:List Rec} {vs:VS} {K:List Rec→VS→Prop} (h:vexD P T ops o recs vs K):
  ∃r U b t,recsOk ops o (keysOf U) t 0 recs=true∧K (snoc recs ⟨keysOf U,t⟩) ⟨dput o.dst r vs.env,U++vs.heap,vs.next+b⟩∧((eff T vs vs.next o.op).is r U b t∨
   ∃f al l0 args0 H r0 H' n',CallOf P o vs f al∧FC P l0.length f args0 H (isOut r0 H' n')∧Fits l0 vs.next al args0 H vs.heap∧
    r=SV.ren (rho l0 vs.next) r0∧U=renH (rho l0 vs.next) H'++lost (rho l0 vs.next) H∧b=n'-l0.length∧t=l0):=by
 have st:∀r U b t,stepD ops o recs vs r U b t K→recsOk ops o (keysOf U) t 0 recs=true∧K (snoc recs ⟨keysOf U,t⟩) ⟨dput o.dst r vs.env,U++vs.heap,vs.next+b⟩:=by
  intro r U b t h
  unfold stepD at h
  rw [keysK_eq] at h
  cases hc:recsOk ops o (keysOf U) t 0 recs with
  |false=>rw [hc] at h;exact h.elim
  |true=>rw [hc,cond_true,snocK_eq] at h;exact ⟨rfl,updK_iff.1 h⟩
 obtain ⟨e0,H0,n0⟩:=vs
 unfold vexD at h
 dsimp only at h
 split at h
 ·rename_i fo args ts hop
  split at h
  ·rename_i f cap l hf hl
   obtain ⟨l0,args0,H,r0,H',n',h1,h2,h3⟩:=h
   obtain ⟨k1,k2⟩:=st _ _ _ _ h3
   exact ⟨_,_,_,_,k1,k2,.inr ⟨f,_,l0,args0,H,r0,H',n',.inl ⟨fo,args,ts,cap,l,hop,hf,hl,rfl⟩,h1,h2,rfl,rfl,rfl,rfl⟩⟩
  ·exact h.elim
 ·rename_i x name args ts hop
  split at h
  ·rename_i t v l hx hl
   obtain ⟨f,hm,l0,args0,H,r0,H',n',h1,h2,h3⟩:=h
   obtain ⟨k1,k2⟩:=st _ _ _ _ h3
   exact ⟨_,_,_,_,k1,k2,.inr ⟨f,_,l0,args0,H,r0,H',n',.inr ⟨x,name,args,ts,t,v,l,hop,hx,hl,hm,rfl⟩,h1,h2,rfl,rfl,rfl,rfl⟩⟩
  ·exact h.elim
 ·obtain ⟨r,U,b,t,h1,h2⟩:=resP_is h
  obtain ⟨k1,k2⟩:=st _ _ _ _ h2
  exact ⟨r,U,b,t,k1,k2,.inl h1⟩
theorem vopD_did {P:Program} {T:Tab} {ops:List Oper} {o:Oper} {recs:List Rec} {vs:VS} {K:List Rec→VS→Prop} (h:vopD P T ops o recs vs K):
  ∃r U b t,recsOk ops o (keysOf U) t 0 recs=true∧K (snoc recs ⟨keysOf U,t⟩) ⟨dput o.dst r vs.env,U++vs.heap,vs.next+b⟩∧Did P T ops o vs r U b t:=by
 have st:stepD ops o recs vs (.raw undef) [] 0 [] K→recsOk ops o (keysOf []) [] 0 recs=true∧K (snoc recs ⟨keysOf [],[]⟩) ⟨dput o.dst (.raw undef) vs.env,[]++vs.heap,vs.next+0⟩:=by
  intro h
  unfold stepD at h
  rw [keysK_eq] at h
  cases hc:recsOk ops o (keysOf []) [] 0 recs with
  |false=>rw [hc] at h;exact h.elim
  |true=>rw [hc,cond_true,snocK_eq] at h;exact ⟨rfl,updK_iff.1 h⟩
 unfold vopD at h
 split at h
 ·rename_i hg
  obtain ⟨r,U,b,t,h1,h2,h3⟩:=vexD_did h
  exact ⟨r,U,b,t,h1,h2,.inr ⟨.inl hg,h3⟩⟩
 ·rename_i j want hg
  split at h
  ·rename_i oj hj
   split at h
   ·rename_i d hdst
    split at h
    ·rename_i hv
     cases want with
     |true=>
      obtain ⟨r,U,b,t,h1,h2,h3⟩:=vexD_did h
      exact ⟨r,U,b,t,h1,h2,.inr ⟨.inr ⟨j,true,oj,d,hg,hj,hdst,hv⟩,h3⟩⟩
     |false=>
      obtain ⟨k1,k2⟩:=st h
      exact ⟨_,_,_,_,k1,k2,.inl ⟨⟨j,false,oj,d,hg,hj,hdst,.inl ⟨true,hv,by simp⟩⟩,rfl,rfl,rfl,rfl⟩⟩
    ·rename_i hv
     cases want with
     |true=>
      obtain ⟨k1,k2⟩:=st h
      exact ⟨_,_,_,_,k1,k2,.inl ⟨⟨j,true,oj,d,hg,hj,hdst,.inl ⟨false,hv,by simp⟩⟩,rfl,rfl,rfl,rfl⟩⟩
     |false=>
      obtain ⟨r,U,b,t,h1,h2,h3⟩:=vexD_did h
      exact ⟨r,U,b,t,h1,h2,.inr ⟨.inr ⟨j,false,oj,d,hg,hj,hdst,hv⟩,h3⟩⟩
    ·rename_i x hv
     obtain ⟨k1,k2⟩:=st h
     exact ⟨_,_,_,_,k1,k2,.inl ⟨⟨j,want,oj,d,hg,hj,hdst,.inr ⟨x,hv⟩⟩,rfl,rfl,rfl,rfl⟩⟩
    ·exact h.elim
   ·exact h.elim
  ·exact h.elim
theorem snoc_length {α:Type}:∀(l:List α) (x:α),(snoc l x).length=l.length+1
 | [],x=>rfl
 |y::l,x=>by simp [snoc,snoc_length l x]
theorem snoc_get {α:Type}:∀(l:List α) (x:α) (i:Nat),(snoc l x)[i]?=if i=l.length then some x else l[i]?
 | [],x,i=>by cases i<;>simp [snoc]
 |y::l,x,0=>by simp [snoc]
 |y::l,x,i+1=>by simp [snoc,snoc_get l x i]
structure Steps (P:Program) (T:Tab) (ops:List Oper) (l:List Oper) (recs:List Rec) (vs:VS) (K:VS→Prop) (st mid:Nat→VS) (r:Nat→SV) (U:Nat→Heap) (b:Nat→Nat) (t:Nat→List Nat):Prop where
 zero:st 0=vs
 last:K (st l.length)
 mids:∀i o,l[i]?=some o→(∀x,aget (mid i).env x=aget (st i).env x)∧(mid i).heap=(st i).heap∧(mid i).next=(st i).next
 next:∀i o,l[i]?=some o→st (i+1)=⟨dput o.dst (r i) (mid i).env,U i++(st i).heap,(st i).next+b i⟩
 did:∀i o,l[i]?=some o→Did P T ops o (mid i) (r i) (U i) (b i) (t i)
 recs0:∀i o (k:Nat) c,l[i]?=some o→recs[k]?=some c→reach ops 7 o k=true∨(apartN c.keys (t i)=true∧apartN c.keys (keysOf (U i))=true∧apartN (keysOf (U i)) c.touch=true)∨exempt ops k o=true
 recs1:∀i o k,l[i]?=some o→k<i→reach ops 7 o (recs.length+k)=true∨(apartN (keysOf (U k)) (t i)=true∧apartN (keysOf (U k)) (keysOf (U i))=true∧apartN (keysOf (U i)) (t k)=true)∨exempt ops (recs.length+k) o=true
theorem recsOk_ok {ops:List Oper} {o:Oper} {ks t:List Nat}:∀(recs:List Rec) (i:Nat),recsOk ops o ks t i recs=true→∀(k:Nat) c,recs[k]?=some c→reach ops 7 o (i+k)=true∨(apartN c.keys t=true∧apartN c.keys ks=true∧apartN ks c.touch=true)∨exempt ops (i+k) o=true
 | [],i,_,k,c,h=>by simp at h
 |x::r,i,hr,k,c,h=>by
  simp only [recsOk,Bool.and_eq_true,Bool.or_eq_true] at hr
  cases k with
  |zero=>
   simp at h;subst h
   rcases hr.1 with (h1|h1)|h1
   ·exact .inr (.inl ⟨h1.1.1,h1.1.2,h1.2⟩)
   ·exact .inl h1
   ·exact .inr (.inr h1)
  |succ k=>
   simp at h
   have:=recsOk_ok r (i+1) hr.2 k c h
   rwa [show i+1+k=i+(k+1) from by omega] at this
theorem vopsD_steps {P:Program} {T:Tab} {ops:List Oper}:∀(l:List Oper) (recs:List Rec) (vs:VS) (K:VS→Prop),vopsD P T ops l recs vs K→∃st mid r U b t,Steps P T ops l recs vs K st mid r U b t
 | [],recs,vs,K,h=>⟨fun _=>vs,fun _=>vs,fun _=> .unk,fun _=> [],fun _=>0,fun _=> [],⟨rfl,h,by simp,by simp,by simp,by simp,by simp⟩⟩
 |o::l,recs,vs,K,h=>by
  have key:∃m,(∀x,aget m.env x=aget vs.env x)∧m.heap=vs.heap∧m.next=vs.next∧vopD P T ops o recs m (fun recs' vs'=>vopsD P T ops l recs' vs' K):=by
   simp only [vopsD] at h
   split at h
   ·exact ⟨vs,fun _=>rfl,rfl,rfl,h⟩
   ·rename_i d _
    obtain ⟨e,H,n⟩:=vs
    unfold known at h
    simp only at h
    split at h
    ·rename_i c hc
     have ext:∀x,aget ((d,SV.bool c)::e) x=aget e x:=by
      intro x;rw [aget_cons];split
      ·rename_i e';subst e';exact hc.symm
      ·rfl
     cases c with
     |true=>exact ⟨⟨(d,.bool true)::e,H,n⟩,ext,rfl,rfl,(br_elim h).1 rfl⟩
     |false=>exact ⟨⟨(d,.bool false)::e,H,n⟩,ext,rfl,rfl,(br_elim h).2 rfl⟩
    ·exact ⟨_,fun _=>rfl,rfl,rfl,h⟩
    ·exact h.elim
  obtain ⟨m,m1,m2,m3,hm⟩:=key
  obtain ⟨r0,U0,b0,t0,h1,h2,h3⟩:=vopD_did hm
  obtain ⟨st,mid,r,U,b,t,S⟩:=vopsD_steps l _ _ K h2
  refine ⟨fun i=>match i with|0=>vs|i+1=>st i,fun i=>match i with|0=>m|i+1=>mid i,fun i=>match i with|0=>r0|i+1=>r i,fun i=>match i with|0=>U0|i+1=>U i,fun i=>match i with|0=>b0|i+1=>b i,fun i=>match i with|0=>t0|i+1=>t i,⟨rfl,S.last,?_,?_,?_,?_,?_⟩⟩
  ·intro i o' ho
   cases i with
   |zero=>exact ⟨m1,m2,m3⟩
   |succ i=>exact S.mids i o' (by simpa using ho)
  ·intro i o' ho
   cases i with
   |zero=>simp at ho;subst ho;simp only;rw [S.zero,m2,m3]
   |succ i=>exact S.next i o' (by simpa using ho)
  ·intro i o' ho
   cases i with
   |zero=>simp at ho;subst ho;exact h3
   |succ i=>exact S.did i o' (by simpa using ho)
  ·intro i o' k c ho hk
   cases i with
   |zero=>simp at ho;subst ho;have:=recsOk_ok recs 0 h1 k c hk;simpa using this
   |succ i=>
    refine S.recs0 i o' k c (by simpa using ho) ?_
    rw [snoc_get,if_neg]
    ·exact hk
    ·intro e;subst e;simp at hk
  ·intro i o' k ho hki
   cases i with
   |zero=>omega
   |succ i=>
    cases k with
    |zero=>
     have:=S.recs0 i o' recs.length ⟨keysOf U0,t0⟩ (by simpa using ho) (by rw [snoc_get,if_pos rfl])
     simpa using this
    |succ k=>
     have:=S.recs1 i o' k (by simpa using ho) (by omega)
     rw [snoc_length] at this
     rwa [show recs.length+1+k=recs.length+(k+1) from by omega] at this
end Go.Sy
