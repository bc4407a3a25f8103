/- Symbolic execution is right: new blocks, blocks that are written. No program in sight. -/
import Derived.Test.YtlankgapiecloaaGreatDoorYS3
namespace Go.Sy
open Go.RowKit
def Ran (P:Program) (a:Act) (o:Oper) (w:World) (v:Value) (w':World):Prop:=(execOp a.eval o).run P w= .ok (.value v) w'∨((execOp a.eval o).run P w= .ok .skip w'∧v=undef)
def EffOk (P:Program) (a:Act) (o:Oper) (w:World) (g:G) (H:Heap) (nx:Nat) (r:SV) (U:Heap) (b:Nat):Prop:=∃v w' g',Ran P a o w v w'∧After g H nx w r U b g' v w'
section ops
variable {P:Program} {T:Tab} {g:G} {vs:VS} {a:Act} {w:World} {r:SV} {U:Heap} {b:Nat} {t:List Nat} {H:Heap} {nx:Nat}
theorem look_ok {o:Oper} {v:Value} (hH:Holds g H w) (hv:Rv g r v) (hy:Yields1 P o.op a w v):EffOk P a o w g H nx r [] 0:=
 ⟨v,w,g,.inl (hy o rfl),after_look hH hv⟩
theorem row_lt {i i' j j' es:Nat} (h:i<i') (hj:j<es):i*es+j<i'*es+j':=by
 have:(i+1)*es≤i'*es:=Nat.mul_le_mul_right _ h
 rw [Nat.add_mul] at this
 omega
theorem lin_lt {i j es n:Nat} (hi:i<n) (hj:j<es):i*es+j<n*es:=by
 have:(i+1)*es≤n*es:=Nat.mul_le_mul_right _ hi
 rw [Nat.add_mul] at this
 omega
theorem blk_new {cs:Array Value} {ty:TypeId} {bl:Blk} {cap:Nat} {w':World} {fz:Nat×Nat} (hw:w'.heap=w.heap.push (.cells cs ty fz)) (hfz:fz=(0,0)∨fz=(cs.size,cs.size+1)) (hn:g nx 0=none) (hlen:bl.lenOk) (hone:∀v∈cs.toList,v.oneCell'=true) (hsz:cap*bl.es≤cs.size) (hhas:∀i,bl.has i→i<cap)
  (hcell:∀i j sv,bl.has i→bl.at i j=some sv→∃v,cs[i*bl.es+j]?=some v∧Rv g sv v) (hpl:bl.plain:=by exact trivial):BlkAt (g.add nx ⟨w.heap.size,0,bl.es,cap⟩) ⟨w.heap.size,0,bl.es,cap⟩ false bl w':=by
 have hget:w'.heap[w.heap.size]?=some (.cells cs ty fz):=by rw [hw];simp
 have hc:∀x,w'.cell? ⟨w.heap.size,x,none⟩=cs[x]?:=by intro x;simp [World.cell?,hget]
 have hf:∀x,x<cs.size→w'.frozen? ⟨w.heap.size,x,none⟩=false:=by
  intro x hx
  rcases hfz with rfl|rfl
  ·simp [World.frozen?,hget]
  ·simp [World.frozen?,hget];omega
 have ha:∀i j,(⟨w.heap.size,0,bl.es,cap⟩:Base).addr i j=⟨w.heap.size,i*bl.es+j,none⟩:=by intro i j;simp [Base.addr]
 refine ⟨fun _=>by rw [hw];simp,rfl,hlen,hhas,?_,?_,?_,plain_ok hpl⟩
 ·intro i j sv hi hj
  obtain ⟨v,h1,h2⟩:=hcell i j sv hi hj
  exact ⟨v,by rw [ha,hc];exact h1,Rv.mono (G.le_add _ hn) _ _ h2⟩
 ·intro i j v _ _ hv
  rw [ha,hc] at hv
  exact hone v (by have:=Array.mem_of_getElem? hv;simpa using this)
 ·intro _ i j hi hj
  have:i*bl.es+j<cs.size:=Nat.lt_of_lt_of_le (lin_lt hi hj) hsz
  refine ⟨by rw [ha];exact hf _ this,?_⟩
  exact ⟨cs[i*bl.es+j],by rw [ha,hc];exact Array.getElem?_eq_getElem this⟩
theorem new_after {cs:Array Value} {ty:TypeId} {bl:Blk} {cap:Nat} {v:Value} {w':World} {fz:Nat×Nat} (hfz:fz=(0,0)∨fz=(cs.size,cs.size+1)) (hH:Holds g H w) (hw:w'.heap=w.heap.push (.cells cs ty fz)) (hos:w'.os=w.os) (htp:w'.tape=w.tape) (hout:w'.output=w.output) (hn:∀q,g nx q=none) (hlen:bl.lenOk) (hone:∀v∈cs.toList,v.oneCell'=true) (hsz:cap*bl.es≤cs.size) (hhas:∀i,bl.has i→i<cap)
  (hcell:∀i j sv,bl.has i→bl.at i j=some sv→∃v,cs[i*bl.es+j]?=some v∧Rv g sv v) (hrv:Rv (g.add nx ⟨w.heap.size,0,bl.es,cap⟩) r v) (hpl:bl.plain:=by exact trivial):
  After g H nx w r [(nx,some (.one false bl))] 1 (g.add nx ⟨w.heap.size,0,bl.es,cap⟩) v w':=
 after_new hH hn hrv (blk_new hw hfz (hn 0) hlen hone hsz hhas hcell hpl) (fun _=>Nat.le_refl _) hos htp hout (by rw [hw];simp) (fun k hk=>by rw [hw,Array.getElem?_push_lt hk];exact (Array.getElem?_eq_getElem hk).symm)
theorem ptr_new {bl:Blk} {cap:Nat}:Rv (g.add nx ⟨w.heap.size,0,bl.es,cap⟩) (.ptr nx 0 0 0) (.pointer (some ⟨w.heap.size,0,none⟩)):=by
 simp only [Rv]
 exact ⟨⟨w.heap.size,0,bl.es,cap⟩,by simp only [G.add,and_self,if_true],by simp [Base.addr]⟩
theorem sl_new {bl:Blk} {n cap:Nat} (h:n≤cap):Rv (g.add nx ⟨w.heap.size,0,bl.es,cap⟩) (.sl nx 0 0 n) (.slice (some ⟨w.heap.size,0,none⟩) n cap):=by
 simp only [Rv]
 exact ⟨_,_,rfl,h,.inr ⟨⟨w.heap.size,0,bl.es,cap⟩,by simp only [G.add,and_self,if_true],by simp [Base.addr],by simp⟩⟩
theorem write_ok {β:Base} {bl:Blk} (hB:BlkAt g β false bl w) {p:Nat} {ms:List Value} (hone:∀v∈ms,v.oneCell'=true) (hp:p+ms.length≤β.cap*β.es):
  ∃w',(storeCells ⟨β.blk,β.off+p,none⟩ ms).run P w= .ok () w'∧w'.heap.size=w.heap.size∧w'.os=w.os∧w'.tape=w.tape∧w'.output=w.output∧(∀k,k≠β.blk→w'.heap[k]?=w.heap[k]?)∧
   (∀x,w'.frozen? ⟨β.blk,x,none⟩=w.frozen? ⟨β.blk,x,none⟩)∧∀x,w'.cell? ⟨β.blk,β.off+x,none⟩=if p≤x∧x<p+ms.length then ms[x-p]? else w.cell? ⟨β.blk,β.off+x,none⟩:=by
 obtain ⟨w',h1,h2,h3,h4,h5,h6,h7,h8⟩:=storeCells_ok P β.blk (β.off+p) ms 0 w hone (by
  intro j hj
  have hx:p+j<β.cap*β.es:=by omega
  have he:0<β.es:=by rcases Nat.eq_zero_or_pos β.es with e|e;rw [e] at hx;omega;exact e
  have hi:(p+j)/β.es<β.cap:=(Nat.div_lt_iff_lt_mul he).2 hx
  have hj':(p+j)%β.es<β.es:=Nat.mod_lt _ he
  have hd:(p+j)/β.es*β.es+(p+j)%β.es=p+j:=by rw [Nat.mul_comm];exact Nat.div_add_mod _ _
  obtain ⟨hf,hc⟩:=hB.rw rfl _ _ hi hj'
  have ea:β.addr ((p+j)/β.es) ((p+j)%β.es)=⟨β.blk,β.off+p+0+j,none⟩:=by unfold Base.addr;congr 1;omega
  rw [ea] at hf hc
  exact ⟨hc,hf⟩)
 refine ⟨w',h1,h2,h3,h4,h5,h6,h7,?_⟩
 intro x
 rw [h8]
 by_cases hx:p≤x∧x<p+ms.length
 ·rw [if_pos (by omega),if_pos hx];congr 1;omega
 ·rw [if_neg (by omega),if_neg hx]
theorem write_blk {β:Base} {bl b1:Blk} {p m:Nat} {ms:List Value} {w':World} (hB:BlkAt g β false bl w) (hlen:ms.length=m) (hsz:w'.heap.size=w.heap.size) (hfz:∀x,w'.frozen? ⟨β.blk,x,none⟩=w.frozen? ⟨β.blk,x,none⟩)
  (hcl:∀x,w'.cell? ⟨β.blk,β.off+x,none⟩=if p≤x∧x<p+m then ms[x-p]? else w.cell? ⟨β.blk,β.off+x,none⟩)
  (hone:∀v∈ms,v.oneCell'=true) (hold:∀i,b1.has i→bl.has i∨∀j,j<β.es→p≤i*β.es+j∧i*β.es+j<p+m) (hes:b1.es=bl.es) (hln:b1.lenOk) (hhas:∀i,b1.has i→i<β.cap) (hat:∀i j sv,b1.has i→b1.at i j=some sv→(p≤i*β.es+j∧i*β.es+j<p+m∧∃v,ms[i*β.es+j-p]?=some v∧Rv g sv v)∨(¬(p≤i*β.es+j∧i*β.es+j<p+m)∧bl.has i∧bl.at i j=some sv)) (hpl:b1.plain:=by exact trivial):BlkAt g β false b1 w':=by
 have ea:∀i j,β.addr i j=⟨β.blk,β.off+(i*β.es+j),none⟩:=by intro i j;unfold Base.addr;congr 1;omega
 refine ⟨fun hc=>by rw [hsz];exact hB.lt hc,hB.es.trans hes.symm,hln,hhas,?_,?_,?_,plain_ok hpl⟩
 ·intro i j sv hi hj
  rw [ea,hcl]
  rcases hat i j sv hi hj with ⟨h1,h2,v,h3,h4⟩|⟨h1,h2,h3⟩
  ·rw [if_pos ⟨h1,h2⟩];exact ⟨v,h3,h4⟩
  ·rw [if_neg h1,←ea];exact hB.cell i j sv h2 h3
 ·intro i j v hi hj hv
  rw [ea,hcl] at hv
  split at hv
  ·exact hone v (List.mem_of_getElem? hv)
  ·rename_i hx
   rcases hold i hi with h1|h1
   ·rw [←ea] at hv;exact hB.one i j v h1 hj hv
   ·exact absurd (h1 j hj) hx
 ·intro _ i j hi hj
  obtain ⟨h1,v,h2⟩:=hB.rw rfl i j hi hj
  rw [ea] at h1 h2⊢
  refine ⟨by rw [hfz];exact h1,?_⟩
  rw [hcl]
  split
  ·rename_i hx
   exact ⟨ms[i*β.es+j-p]'(by omega),List.getElem?_eq_getElem _⟩
  ·exact ⟨v,h2⟩
theorem cells_at {l:List SV} {i j:Nat}:(Blk.cells l).at i j=nth l j:=rfl
theorem zipSet_ok (i:Nat):∀(m:List SV) (l r:List BCol),zipSet i l m=some r→r.length=l.length∧∀x,nth r x=match nth l x with|none=>none|some c=>(match nth m x with|some v=>setColAt c i v|none=>some c)
 | [],l,r,h=>by simp only [zipSet,Option.some.injEq] at h;subst h;refine ⟨rfl,fun x=> ?_⟩;simp only [nth];cases nth l x<;>rfl
 |v::m,[],r,h=>by simp [zipSet] at h
 |v::m,c::l,r,h=>by
  simp only [zipSet] at h
  split at h
  ·rename_i d r' hd hr'
   simp only [Option.some.injEq] at h;subst h
   obtain ⟨h1,h2⟩:=zipSet_ok i m l r' hr'
   refine ⟨by simp [h1],?_⟩
   intro x
   cases x with
   |zero=>simp [nth,hd]
   |succ x=>simp only [nth];exact h2 x
  ·cases h
theorem setCols_ok (i:Nat):∀(j:Nat) (l r:List BCol) (m:List SV),setCols i j l m=some r→r.length=l.length∧∀x,nth r x=match nth l x with|none=>none|some c=>(if j≤x then (match nth m (x-j) with|some v=>setColAt c i v|none=>some c) else some c)
 |0,l,r,m,h=>by
  simp only [setCols] at h
  obtain ⟨h1,h2⟩:=zipSet_ok i m l r h
  refine ⟨h1,fun x=> ?_⟩
  rw [h2 x];simp
 |j+1,[],r,m,h=>by simp [setCols] at h
 |j+1,c::l,r,m,h=>by
  simp only [setCols] at h
  split at h
  ·rename_i r' hr'
   simp only [Option.some.injEq] at h;subst h
   obtain ⟨h1,h2⟩:=setCols_ok i j l r' m hr'
   refine ⟨by simp [h1],?_⟩
   intro x
   cases x with
   |zero=>simp [nth]
   |succ x=>simp only [nth];rw [h2 x];simp
  ·cases h
theorem getD_set {α:Type} (l:List α) (i x:Nat) (v d:α):(l.set i v).getD x d=if x=i∧i<l.length then v else l.getD x d:=by
 simp only [List.getD,List.getElem?_set]
 by_cases h:i=x
 ·subst h
  by_cases hl:i<l.length
  ·simp [hl]
  ·simp [hl]
 ·rw [if_neg h,if_neg (by intro e;exact h e.1.symm)]
theorem setColAt_ok {c d:BCol} {i:Nat} {v:SV} (h:setColAt c i v=some d) (x:Nat) (u:Value) (hv:x=i→Rv g v u) (hu:x≠i→Rv g (c.at x) u) (hlen:x=i→i<c.len):Rv g (d.at x) u:=by
 unfold setColAt at h
 split at h
 ·rename_i k l p y
  cases hp:ikEq p k with
  |false=>rw [hp] at h;simp at h
  |true=>
   rw [hp] at h
   have:=ikEq_ok hp;subst this
   simp only [cond_true,Option.some.injEq] at h;subst h
   simp only [BCol.at,Col.at,getD_set]
   by_cases e:x=i
   ·rw [if_pos ⟨e,hlen e⟩];exact hv e
   ·rw [if_neg (fun h=>e h.1)];exact hu e
 ·rename_i l y
  simp only [Option.some.injEq] at h;subst h
  simp only [BCol.at,Col.at,getD_set]
  by_cases e:x=i
  ·rw [if_pos ⟨e,hlen e⟩];exact hv e
  ·rw [if_neg (fun h=>e h.1)];exact hu e
 ·rename_i l y
  simp only [Option.some.injEq] at h;subst h
  simp only [BCol.at,Col.at,getD_set]
  by_cases e:x=i
  ·rw [if_pos ⟨e,hlen e⟩];exact hv e
  ·rw [if_neg (fun h=>e h.1)];exact hu e
 ·rename_i l y
  simp only [Option.some.injEq] at h;subst h
  simp only [BCol.at,getD_set]
  by_cases e:x=i
  ·rw [if_pos ⟨e,hlen e⟩];exact hv e
  ·rw [if_neg (fun h=>e h.1)];exact hu e
 ·rename_i hh ns
  simp only [Option.some.injEq] at h;subst h
  simp only [BCol.at,getD_set]
  by_cases e:x=i
  ·rw [if_pos ⟨e,by rw [ownL_len];exact hlen e⟩];exact hv e
  ·rw [if_neg (fun h=>e h.1)]
   by_cases hx:x<ns.length
   ·rw [ownL_at hx];exact hu e
   ·rw [List.getD,List.getElem?_eq_none (by rw [ownL_len];omega)];trivial
 ·rename_i hh n0
  simp only [Option.some.injEq] at h;subst h
  simp only [BCol.at,getD_set]
  by_cases e:x=i
  ·rw [if_pos ⟨e,by rw [ptrL_len];exact hlen e⟩];exact hv e
  ·rw [if_neg (fun h=>e h.1)]
   by_cases hx:x<n0
   ·rw [ptrL_at hx];exact hu e
   ·rw [List.getD,List.getElem?_eq_none (by rw [ptrL_len];omega)];trivial
 ·cases h
theorem setColAt_ne {c d:BCol} {i x:Nat} {v:SV} (h:setColAt c i v=some d) (hx:x≠i) (hxl:x<c.len):d.at x=c.at x:=by
 unfold setColAt at h
 split at h
 ·rename_i k l p y
  cases hp:ikEq p k with
  |false=>rw [hp] at h;simp at h
  |true=>rw [hp] at h;simp only [cond_true,Option.some.injEq] at h;subst h;simp only [BCol.at,Col.at,getD_set];rw [if_neg (fun h=>hx h.1)]
 ·simp only [Option.some.injEq] at h;subst h;simp only [BCol.at,Col.at,getD_set];rw [if_neg (fun h=>hx h.1)]
 ·simp only [Option.some.injEq] at h;subst h;simp only [BCol.at,Col.at,getD_set];rw [if_neg (fun h=>hx h.1)]
 ·simp only [Option.some.injEq] at h;subst h;simp only [BCol.at,getD_set];rw [if_neg (fun h=>hx h.1)]
 ·simp only [Option.some.injEq] at h;subst h;simp only [BCol.at,getD_set];rw [if_neg (fun h=>hx h.1)];exact ownL_at hxl
 ·simp only [Option.some.injEq] at h;subst h;simp only [BCol.at,getD_set];rw [if_neg (fun h=>hx h.1)];exact ptrL_at hxl
 ·cases h
theorem Col.val_one (c:Col) (i:Nat):(c.val i).oneCell'=true:=by cases c<;>rfl
theorem arr_one {n:Nat} {cs:List Col} {xs:Array Value} (h:ArrOk n cs xs):∀v∈xs.toList,v.oneCell'=true:=by
 intro v hv
 obtain ⟨x,hx,e⟩:=List.getElem_of_mem hv
 have hx':x<n*cs.length:=by rw [←h.1];simpa using hx
 have hpos:0<cs.length:=by rcases Nat.eq_zero_or_pos cs.length with e|e;rw [e] at hx';omega;exact e
 have hi:x/cs.length<n:=(Nat.div_lt_iff_lt_mul hpos).2 hx'
 have hj:x%cs.length<cs.length:=Nat.mod_lt _ hpos
 have hd:x/cs.length*cs.length+x%cs.length=x:=by rw [Nat.mul_comm];exact Nat.div_add_mod _ _
 have:=h.2.2 _ _ _ hi (show nth cs (x%cs.length)=some cs[x%cs.length] by rw [nth_eq];exact List.getElem?_eq_getElem hj)
 rw [hd] at this
 have hv':xs[x]?=some v:=by
  have:xs.toList[x]?=some v:=by rw [List.getElem?_eq_getElem hx,e]
  simpa using this
 rw [this] at hv'
 simp only [Option.some.injEq] at hv'
 rw [←hv']
 exact Col.val_one _ _
theorem setColAt_len {c d:BCol} {i:Nat} {v:SV} (h:setColAt c i v=some d):d.len=c.len:=by
 unfold setColAt at h
 split at h
 ·rename_i k l p y
  cases hp:ikEq p k with
  |false=>rw [hp] at h;simp at h
  |true=>rw [hp] at h;simp only [cond_true,Option.some.injEq] at h;subst h;simp [BCol.len,Col.len]
 ·simp only [Option.some.injEq] at h;subst h;simp [BCol.len,Col.len]
 ·simp only [Option.some.injEq] at h;subst h;simp [BCol.len,Col.len]
 ·simp only [Option.some.injEq] at h;subst h;simp [BCol.len]
 ·simp only [Option.some.injEq] at h;subst h;simp [BCol.len,ownL_len]
 ·simp only [Option.some.injEq] at h;subst h;simp [BCol.len,ptrL_len]
 ·cases h
theorem mem_nth {α:Type} {l:List α} {c:α} (h:c∈l):∃j,nth l j=some c:=by
 obtain ⟨j,hj,e⟩:=List.getElem_of_mem h
 exact ⟨j,by rw [nth_eq,List.getElem?_eq_getElem hj,e]⟩
theorem nth_mem {α:Type} {l:List α} {c:α} {j:Nat} (h:nth l j=some c):c∈l:=by
 rw [nth_eq] at h;exact List.mem_of_getElem? h
theorem setCols_len {i j n:Nat} {l r:List BCol} {m:List SV} (h:setCols i j l m=some r) (hl:∀c∈l,c.len=n):∀c∈r,c.len=n:=by
 intro c hc
 obtain ⟨x,hx⟩:=mem_nth hc
 obtain ⟨_,h2⟩:=setCols_ok i j l r m h
 rw [h2 x] at hx
 split at hx
 ·cases hx
 ·rename_i c0 hc0
  have h0:=hl c0 (nth_mem hc0)
  split at hx
  ·split at hx
   ·rw [setColAt_len hx];exact h0
   ·cases hx;exact h0
  ·cases hx;exact h0
end ops
end Go.Sy
