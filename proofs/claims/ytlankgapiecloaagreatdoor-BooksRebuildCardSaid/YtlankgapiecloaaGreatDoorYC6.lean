/- The condition is right: regions of open order, every order. No program in sight. -/
import Derived.Test.YtlankgapiecloaaGreatDoorYCX
namespace Go.Sy
open Go.RowKit
theorem hget_append:∀(U H:Heap) (h:Nat),hget (U++H) h=if h∈keysOf U then hget U h else hget H h
 | [],H,h=>by simp [keysOf]
 |(k,v)::U,H,h=>by
  rw [List.cons_append,hget_cons,hget_cons,hget_append U H h]
  simp only [keysOf,List.mem_cons]
  by_cases e:k=h
  ·subst e;simp
  ·simp [e,Ne.symm e]
def heapL (H:Heap) (U:Nat→Heap) (L:Nat→Bool):Nat→Heap
 |0=>H
 |n+1=>if L n then U n++heapL H U L n else heapL H U L n
theorem ent_ext {H H':Heap} (h:∀k,hget H' k=hget H k) {k q:Nat} {ro:Bool} {b:Blk}:Ent H' k q ro b↔Ent H k q ro b:=by unfold Ent;rw [h k]
theorem holds_ext {g:G} {H H':Heap} {w:World} (h:∀k,hget H' k=hget H k) (hH:Holds g H w):Holds g H' w:=
 ⟨fun k q ro b he=>hH.blk k q ro b ((ent_ext h).1 he),fun k q k' q' b ro' b' β β' hne he he'=>hH.sep k q k' q' b ro' b' β β' hne ((ent_ext h).1 he) ((ent_ext h).1 he')⟩
theorem owns_ext {g:G} {H H':Heap} {W:Nat→Prop} {w:World} (h:∀k,hget H' k=hget H k) (hH:Owns g H W w):Owns g H' W w:=fun k q b β he=>hH k q b β ((ent_ext h).1 he)
def addL (L:Nat→Bool) (i:Nat):Nat→Bool:=fun k=>if k=i then true else L k
theorem addL_ne {L:Nat→Bool} {i k:Nat} (h:k≠i):addL L i k=L k:=by simp [addL,h]
theorem addL_eq {L:Nat→Bool} {i:Nat}:addL L i i=true:=by simp [addL]
def restr {α:Type} (e:List (Nat×α)):List Nat→List (Nat×α)
 | []=> []
 |t::ts=>match aget e t with
  |some v=>(t,v)::restr e ts
  |none=>restr e ts
theorem restr_get {α:Type} (e:List (Nat×α)):∀(ts:List Nat) (t:Nat) (v:α),aget (restr e ts) t=some v→t∈ts∧aget e t=some v
 | [],t,v,h=>by simp [restr,aget] at h
 |x::ts,t,v,h=>by
  simp only [restr] at h
  split at h
  ·rename_i u hu
   rw [aget_cons] at h
   split at h
   ·rename_i e';subst e';simp only [Option.some.injEq] at h;subst h;exact ⟨by simp,hu⟩
   ·obtain ⟨h1,h2⟩:=restr_get e ts t v h;exact ⟨by simp [h1],h2⟩
  ·obtain ⟨h1,h2⟩:=restr_get e ts t v h;exact ⟨by simp [h1],h2⟩
theorem restr_put {α:Type} (e:List (Nat×α)):∀(ts:List Nat) (t:Nat),t∈ts→aget (restr e ts) t=aget e t
 | [],t,h=>by cases h
 |x::ts,t,h=>by
  simp only [restr]
  split
  ·rename_i u hu
   rw [aget_cons]
   split
   ·rename_i e';subst e';exact hu.symm
   ·rename_i hne
    rcases List.mem_cons.1 h with rfl|h
    ·exact absurd rfl hne
    ·exact restr_put e ts t h
  ·rename_i hu
   rcases List.mem_cons.1 h with rfl|h
   ·rw [hu]
    cases hx:aget (restr e ts) t with
    |none=>rfl
    |some v=>have:=(restr_get e ts t v hx).2;rw [hu] at this;cases this
   ·exact restr_put e ts t h
section
variable {P:Program} {T:Tab} {C:Ctx} {ops:Array Oper} {vs:VS} {K:VS→Prop} {st mid:Nat→VS} {r:Nat→SV} {U:Nat→Heap} {b:Nat→Nat} {t:Nat→List Nat}
theorem lt_of_get {ops:Array Oper} {i:Nat} {o:Oper} (h:ops[i]?=some o):i<ops.size:=(Array.getElem?_eq_some_iff.1 h).1
theorem get_of_lt {ops:Array Oper} {i:Nat} (h:i<ops.size):∃o,ops[i]?=some o:=⟨ops[i],Array.getElem?_eq_getElem h⟩
theorem conv {i:Nat} {o:Oper} (h:ops[i]?=some o):ops.toList[i]?=some o:=by simpa using h
abbrev Tr (P:Program) (T:Tab) (ops:Array Oper) (vs:VS) (K:VS→Prop) (st mid:Nat→VS) (r:Nat→SV) (U:Nat→Heap) (b:Nat→Nat) (t:Nat→List Nat):Prop:=Steps P T ops.toList ops.toList [] vs K st mid r U b t
theorem Tr.env (tr:Tr P T ops vs K st mid r U b t) {i:Nat} {o:Oper} (ho:ops[i]?=some o) (x:Nat):aget (st (i+1)).env x=if o.dst=some x then some (r i) else aget (st i).env x:=by
 rw [tr.next i o (conv ho)]
 obtain ⟨m1,_,_⟩:=tr.mids i o (conv ho)
 cases hd:o.dst with
 |none=>simp [dput,m1]
 |some d=>simp only [dput,aget_cons,Option.some.injEq,m1]
theorem Tr.env_none (tr:Tr P T ops vs K st mid r U b t) (x:Nat):∀i,i≤ops.size→(∀(k:Nat) (o:Oper),k<i→ops[k]?=some o→o.dst≠some x)→aget (st i).env x=aget vs.env x:=by
 intro i
 induction i with
 |zero=>intro _ _;rw [tr.zero]
 |succ i ih=>
  intro hi hk
  obtain ⟨o,ho⟩:=get_of_lt (ops:=ops) (i:=i) (by omega)
  rw [tr.env ho,if_neg (hk i o (by omega) ho)]
  exact ih (by omega) (fun k o' h=>hk k o' (by omega))
theorem Tr.env_some (tr:Tr P T ops vs K st mid r U b t) (hD:Draw ops) {k:Nat} {ok:Oper} {x:Nat} (hk:ops[k]?=some ok) (hx:ok.dst=some x):∀i,k<i→i≤ops.size→aget (st i).env x=some (r k):=by
 intro i
 induction i with
 |zero=>intro h;omega
 |succ i ih=>
  intro h1 h2
  obtain ⟨o,ho⟩:=get_of_lt (ops:=ops) (i:=i) (by omega)
  rw [tr.env ho]
  by_cases e:k=i
  ·subst e;rw [hk] at ho;cases ho;rw [if_pos hx]
  ·rw [if_neg (hD.dst i k o ok x ho hk (Ne.symm e) hx)]
   exact ih (by omega) (by omega)
theorem Tr.next_mono (tr:Tr P T ops vs K st mid r U b t):∀i j,i≤j→j≤ops.size→(st i).next≤(st j).next:=by
 intro i j hij
 induction j with
 |zero=>intro _;have:i=0:=by omega
        subst this;exact Nat.le_refl _
 |succ j ih=>
  intro hj
  rcases Nat.lt_or_ge i (j+1) with h|h
  ·obtain ⟨o,ho⟩:=get_of_lt (ops:=ops) (i:=j) (by omega)
   have:=ih (by omega) (by omega)
   rw [tr.next j o (conv ho)]
   simp only;omega
  ·have:i=j+1:=by omega
   subst this;exact Nat.le_refl _
theorem Tr.next_step (tr:Tr P T ops vs K st mid r U b t) {i:Nat} {o:Oper} (ho:ops[i]?=some o):(st (i+1)).next=(st i).next+b i:=by rw [tr.next i o (conv ho)]
theorem Tr.heap_at (tr:Tr P T ops vs K st mid r U b t) {L:Nat→Bool} {h i:Nat} (hi:i≤ops.size) (h1:∀k,k<i→h∈keysOf (U k)→L k=true) (h2:∀k,i≤k→k<ops.size→L k=true→h∉keysOf (U k)):hget (heapL vs.heap U L ops.size) h=hget (st i).heap h:=by
 have lo:∀m,m≤i→hget (heapL vs.heap U L m) h=hget (st m).heap h:=by
  intro m
  induction m with
  |zero=>intro _;rw [tr.zero];rfl
  |succ m ih=>
   intro hm
   obtain ⟨o,ho⟩:=get_of_lt (ops:=ops) (i:=m) (by omega)
   have hst:(st (m+1)).heap=U m++(st m).heap:=by rw [tr.next m o (conv ho)]
   rw [hst,hget_append]
   simp only [heapL]
   by_cases hk:h∈keysOf (U m)
   ·rw [if_pos hk,if_pos (h1 m (by omega) hk),hget_append,if_pos hk]
   ·rw [if_neg hk,←ih (by omega)]
    split
    ·rw [hget_append,if_neg hk]
    ·rfl
 have hi':∀m,i≤m→m≤ops.size→hget (heapL vs.heap U L m) h=hget (heapL vs.heap U L i) h:=by
  intro m
  induction m with
  |zero=>intro h0 _;have:i=0:=by omega
         subst this;rfl
  |succ m ih=>
   intro h0 hm
   rcases Nat.lt_or_ge i (m+1) with hlt|hge
   ·simp only [heapL]
    split
    ·rename_i hL
     rw [hget_append,if_neg (h2 m (by omega) (by omega) hL)]
     exact ih (by omega) (by omega)
    ·exact ih (by omega) (by omega)
   ·have:i=m+1:=by omega
    subst this;rfl
 rw [hi' ops.size hi (Nat.le_refl _),lo i (Nat.le_refl _)]
theorem heapL_add {H:Heap} {L:Nat→Bool} {i n:Nat} (hi:i<n) (hL:L i=false) (hap:∀k,i<k→k<n→L k=true→∀h∈keysOf (U k),h∉keysOf (U i)):∀h,hget (heapL H U (addL L i) n) h=hget (U i++heapL H U L n) h:=by
 have lo:∀m,m≤i→heapL H U (addL L i) m=heapL H U L m:=by
  intro m
  induction m with
  |zero=>intro _;rfl
  |succ m ih=>
   intro hm
   simp only [heapL]
   rw [addL_ne (show m≠i by omega),ih (by omega)]
 have key:∀m,i<m→m≤n→∀h,hget (heapL H U (addL L i) m) h=hget (U i++heapL H U L m) h:=by
  intro m
  induction m with
  |zero=>intro h;omega
  |succ m ih=>
   intro h1 h2 h
   by_cases e:m=i
   ·subst e
    simp only [heapL]
    rw [addL_eq,hL,lo m (Nat.le_refl _)]
    simp
   ·have h3:=ih (by omega) (by omega) h
    simp only [heapL]
    have e2:addL L i m=L m:=by simp [addL,e]
    rw [e2]
    split
    ·rename_i hLm
     have hd:=hap m (by omega) (by omega) hLm
     rw [hget_append,hget_append (U i)]
     by_cases hk:h∈keysOf (U m)
     ·rw [if_pos hk,if_neg (hd h hk),hget_append,if_pos hk]
     ·rw [if_neg hk,h3,hget_append]
      by_cases hk2:h∈keysOf (U i)
      ·rw [if_pos hk2,if_pos hk2]
      ·rw [if_neg hk2,if_neg hk2,hget_append,if_neg hk]
    ·exact h3
 exact key n hi (Nat.le_refl _)
structure InvD (C:Ctx) (ops:Array Oper) (vs:VS) (st:Nat→VS) (r:Nat→SV) (U:Nat→Heap) (b:Nat→Nat) (L:Nat→Bool) (g:G) (a:Act) (w:World):Prop where
 old:∀x sv,(∀(k:Nat) (o:Oper),ops[k]?=some o→o.dst=some x→L k=false)→aget vs.env x=some sv→Rv g sv (a.tmps.getD x undef)
 new:∀(k:Nat) (o:Oper) x,ops[k]?=some o→o.dst=some x→L k=true→Rv g (r k) (a.tmps.getD x undef)
 size:a.tmps.size=C.N
 defers:a.defers=C.ds
 glob:g.glob
 upto:g.upto (st ops.size).next
 unborn:∀k,k<ops.size→L k=false→∀h q,(st k).next≤h→h<(st k).next+b k→g h q=none
 keep:∀h q,h<C.n0→g h q=C.g h q
 heap:Holds g (heapL vs.heap U L ops.size) w
 fr:Fr C.W C.w w
 own:Owns g (heapL vs.heap U L ops.size) C.W C.w
theorem slot_ok {L:Nat→Bool} {g:G} {a:Act} {w:World} (tr:Tr P T ops vs K st mid r U b t) (hD:Draw ops) (I:InvD C ops vs st r U b L g a w) (hc:Closed ops L) {i:Nat} {o:Oper} (hi:ops[i]?=some o) (hLi:L i=false)
  (hr:∀e∈o.after,Region.binds .any e=true→L e.on=true) {x:Nat} {sv:SV} (hx:x∈looks ops.toList o) (hsv:aget (st i).env x=some sv):Rv g sv (a.tmps.getD x undef):=by
 by_cases hw:∃(k:Nat) (ok:Oper),ops[k]?=some ok∧ok.dst=some x
 ·obtain ⟨k,ok,hk,hkx⟩:=hw
  have hne:i≠k:=by
   intro e;subst e;rw [hi] at hk;cases hk;exact hD.self i o x hi hkx hx
  rcases hD.slot i k o ok x hi hk hne hkx hx with ⟨h1,h2⟩|⟨h1,h2⟩
  ·have hLk:=reach_L hc 7 o k h2 hr
   rw [tr.env_some hD hk hkx i h1 (Nat.le_of_lt (lt_of_get hi))] at hsv
   cases hsv
   exact I.new k ok x hk hkx hLk
  ·have hLk:L k=false:=by
    cases hl:L k with
    |false=>rfl
    |true=>have:=reach_L hc 7 ok i h2 (hc k ok hk hl);rw [hLi] at this;cases this
   refine I.old x sv ?_ ?_
   ·intro k' o' hk' hd'
    by_cases e:k'=k
    ·subst e;exact hLk
    ·exact absurd hd' (hD.dst k' k o' ok x hk' hk e hkx)
   ·rw [←hsv]
    refine (tr.env_none x i (Nat.le_of_lt (lt_of_get hi)) ?_).symm
    intro k' o' hlt hk' hd'
    by_cases e:k'=k
    ·omega
    ·exact absurd hd' (hD.dst k' k o' ok x hk' hk e hkx)
 ·refine I.old x sv (fun k o' hk hd=>absurd ⟨k,o',hk,hd⟩ hw) ?_
  rw [←hsv]
  exact (tr.env_none x i (Nat.le_of_lt (lt_of_get hi)) (fun k o' _ hk hd=>hw ⟨k,o',hk,hd⟩)).symm
theorem tmpEq_ok {x y:Operand} (h:tmpEq x y=true):∃n,x= .tmp n∧y= .tmp n:=by
 unfold tmpEq at h
 split at h
 ·rename_i a b
  have:=Nat.eq_of_beq_eq_true h
  subst this
  exact ⟨a,rfl,rfl⟩
 ·cases h
theorem slotFree_ok {n:Nat} {l:List Oper} (h:slotFree (.tmp n) l=true):∀o∈l,o.dst≠some n:=by
 unfold slotFree at h
 rw [List.all_eq_true] at h
 intro o ho e
 have:=h o ho
 rw [e] at this
 simp at this
theorem exempt_ok {k:Nat} {o:Oper} (h:exempt ops.toList k o=true):∃ok ty nx ny,ops[k]?=some ok∧ok.op= .lookup ty (.tmp nx) (.tmp ny) false∧o.op= .mapEntry ty (.tmp nx) (.tmp ny)∧countME ops.toList=1∧∀(w:Nat) ow,k≤w→ops[w]?=some ow→ow.dst≠some nx∧ow.dst≠some ny:=by
 unfold exempt at h
 split at h
 ·rename_i ok ty x y hn ho
  split at h
  ·rename_i ty' x' y' hok
   simp only [Bool.and_eq_true] at h
   obtain ⟨⟨⟨⟨⟨h1,h2⟩,h3⟩,h4⟩,h5⟩,h6⟩:=h
   have e1:=Nat.eq_of_beq_eq_true h1
   obtain ⟨nx,rfl,rfl⟩:=tmpEq_ok h2
   obtain ⟨ny,rfl,rfl⟩:=tmpEq_ok h3
   subst e1
   rw [nth_eq] at hn
   refine ⟨ok,_,nx,ny,by simpa using hn,hok,ho,Nat.eq_of_beq_eq_true h4,fun w ow hw how=> ?_⟩
   have hm:ow∈ops.toList.drop k:=by
    have hwl:=(Array.getElem?_eq_some_iff.1 how).1
    have e:ops.toList[w]?=some ow:=by simpa using how
    refine List.mem_iff_getElem?.2 ⟨w-k,?_⟩
    rw [List.getElem?_drop,show k+(w-k)=w by omega];exact e
   exact ⟨slotFree_ok h5 ow hm,slotFree_ok h6 ow hm⟩
  ·cases h
 ·cases h
theorem countME_pos:∀{l:List Oper} {o:Oper} {ty:TypeId} {x y:Operand},o∈l→o.op= .mapEntry ty x y→1≤countME l
 | [],o,ty,x,y,hm,_=>by cases hm
 |a::l,o,ty,x,y,hm,ho=>by
  simp only [countME]
  rcases List.mem_cons.1 hm with rfl|hm
  ·rw [ho];dsimp only;omega
  ·have:=countME_pos hm ho
   split<;>omega
theorem countME_one:∀{l:List Oper} {i j:Nat} {oi oj:Oper} {ti tj:TypeId} {xi yi xj yj:Operand},countME l=1→l[i]?=some oi→l[j]?=some oj→oi.op= .mapEntry ti xi yi→oj.op= .mapEntry tj xj yj→i=j
 | [],i,j,oi,oj,_,_,_,_,_,_,hc,hi,_,_,_=>by simp at hi
 |a::l,i,j,oi,oj,ti,tj,xi,yi,xj,yj,hc,hi,hj,ei,ej=>by
  simp only [countME] at hc
  have pos:∀{k:Nat} {o:Oper} {t:TypeId} {x y:Operand},l[k]?=some o→o.op= .mapEntry t x y→1≤countME l:=fun h e=>countME_pos (List.mem_of_getElem? h) e
  cases i with
  |zero=>
   simp at hi;subst hi
   rw [ei] at hc;dsimp only at hc
   cases j with
   |zero=>rfl
   |succ j=>simp at hj;have:=pos hj ej;omega
  |succ i=>
   simp at hi
   cases j with
   |zero=>
    simp at hj;subst hj
    rw [ej] at hc;dsimp only at hc
    have:=pos hi ei;omega
   |succ j=>
    simp at hj
    have p1:=pos hi ei
    have:countME l=1:=by split at hc<;>omega
    rw [countME_one this hi hj ei ej]
theorem look_U {vs:VS} {ti:TI} {m key r:SV} {co:Bool} {U:Heap} {b:Nat} {t:List Nat} (h:(lookupR vs ti m key co).is r U b t):U= []:=by
 unfold lookupR at h
 split at h
 ·split at h
  ·cases hb: !ti.bld with
   |true=>rw [hb] at h;exact h.elim
   |false=>
    rw [hb,cond_false] at h
    split at h
    ·exact h.2.1
    ·exact h.elim
  ·exact h.elim
 ·obtain ⟨ro,bl,_,h⟩:=onBlk_inv h
  split at h
  ·split at h
   ·exact (bif_inv2 h).2.2.1
   ·exact h.elim
  ·exact h.elim
 ·exact h.elim
theorem eff_look {s:VS} {ty:TypeId} {x y:Operand} {co:Bool} {r:SV} {U:Heap} {b:Nat} {t:List Nat} (h:(eff T s s.next (.lookup ty x y co)).is r U b t):∃m k ti,gv s x=some m∧gv s y=some k∧aget T ty=some ti∧Nat.beq ti.kind 8=true∧(lookupR s ti m k co).is r U b t:=by
 simp only [eff] at h
 split at h
 ·rename_i m k ti h1 h2 h3
  obtain ⟨h4,h5⟩:=bif_inv2 h
  exact ⟨m,k,ti,h1,h2,h3,h4,h5⟩
 ·exact h.elim
theorem did_look {P:Program} {l:List Oper} {o:Oper} {s:VS} {r:SV} {U:Heap} {b:Nat} {t:List Nat} {ty:TypeId} {x y:Operand} {co:Bool} (h:Did P T l o s r U b t) (ho:o.op= .lookup ty x y co):U= []:=by
 rcases h with ⟨_,_,hU,_⟩|⟨_,he|⟨f,al,l0,args0,H,r0,H',n',hco,_⟩⟩
 ·exact hU
 ·rw [ho] at he
  obtain ⟨_,_,_,_,_,_,_,h⟩:=eff_look he
  exact look_U h
 ·obtain ⟨c,hop⟩:=hco.op
  rw [ho] at hop;cases hop
theorem pair_ok {L:Nat→Bool} (tr:Tr P T ops vs K st mid r U b t) (hc:Closed ops L) {i:Nat} {o:Oper} (hi:ops[i]?=some o) (hLi:L i=false) (hr:∀e∈o.after,Region.binds .any e=true→L e.on=true):
  (∀k,k<i→∀h∈keysOf (U k),h∈t i→L k=true)∧(∀k,i<k→k<ops.size→L k=true→∃ok,ops[k]?=some ok∧(∀h∈keysOf (U k),h∉keysOf (U i))∧((∀h∈keysOf (U k),h∉t i)∨exempt ops.toList i ok=true)):=by
 refine ⟨?_,?_⟩
 ·intro k hk h hh ht
  have hlt:k<ops.size:=by have:=lt_of_get hi;omega
  rcases tr.recs1 i o k (conv hi) hk with h1|⟨h1,_,_⟩|h1
  ·simp only [List.length_nil,Nat.zero_add] at h1
   exact reach_L hc 7 o k h1 hr
  ·exact absurd ht (apartN_ok _ _ h1 h hh)
  ·simp only [List.length_nil,Nat.zero_add] at h1
   obtain ⟨ok,ty,nx,ny,hok,e1,_⟩:=exempt_ok h1
   have:=did_look (tr.did k ok (conv hok)) e1
   rw [this] at hh;cases hh
 ·intro k hk hks hLk
  obtain ⟨ok,hok⟩:=get_of_lt hks
  refine ⟨ok,hok,?_⟩
  rcases tr.recs1 k ok i (conv hok) hk with h1|⟨_,h2,h3⟩|h1
  ·simp only [List.length_nil,Nat.zero_add] at h1
   have:=reach_L hc 7 ok i h1 (hc k ok hok hLk)
   rw [hLi] at this;cases this
  ·exact ⟨fun h hh hm=>apartN_ok _ _ h2 h hm hh,.inl (fun h hh=>apartN_ok _ _ h3 h hh)⟩
  ·simp only [List.length_nil,Nat.zero_add] at h1
   obtain ⟨oi,ty,nx,ny,hoi,e1,_⟩:=exempt_ok h1
   have:=did_look (tr.did i oi (conv hoi)) e1
   refine ⟨fun h hh hm=> ?_,.inr h1⟩
   rw [this] at hm;cases hm
theorem Tr.env_free (tr:Tr P T ops vs K st mid r U b t) {x i:Nat}:∀j,i≤j→j≤ops.size→(∀(w:Nat) ow,i≤w→w<j→ops[w]?=some ow→ow.dst≠some x)→aget (st j).env x=aget (st i).env x:=by
 intro j
 induction j with
 |zero=>intro h _ _;have:i=0:=by omega
        subst this;rfl
 |succ j ih=>
  intro h1 h2 h3
  rcases Nat.lt_or_ge i (j+1) with h|h
  ·obtain ⟨o,ho⟩:=get_of_lt (ops:=ops) (i:=j) (by omega)
   rw [tr.env ho,if_neg (h3 j o (by omega) (by omega) ho)]
   exact ih (by omega) (by omega) (fun w ow a b c=>h3 w ow a (by omega) c)
  ·have:i=j+1:=by omega
   subst this;rfl
theorem Tr.heap_free (tr:Tr P T ops vs K st mid r U b t) {h i:Nat}:∀j,i≤j→j≤ops.size→(∀w,i≤w→w<j→h∉keysOf (U w))→hget (st j).heap h=hget (st i).heap h:=by
 intro j
 induction j with
 |zero=>intro h _ _;have:i=0:=by omega
        subst this;rfl
 |succ j ih=>
  intro h1 h2 h3
  rcases Nat.lt_or_ge i (j+1) with hh|hh
  ·obtain ⟨o,ho⟩:=get_of_lt (ops:=ops) (i:=j) (by omega)
   rw [tr.next j o (conv ho)]
   dsimp only
   rw [hget_append,if_neg (h3 j (by omega) (by omega))]
   exact ih (by omega) (by omega) (fun w a b=>h3 w a (by omega))
  ·have:i=j+1:=by omega
   subst this;rfl
theorem looks_op {x:Operand} {o:Oper} {n:Nat} (hx:x∈o.op.operands.toList) (e:x= .tmp n):n∈looks ops.toList o:=by
 subst e
 have:=opSlots_ok _ _ hx
 unfold looks
 split
 ·simp [this]
 ·exact this
theorem step_any {L:Nat→Bool} {g:G} {a:Act} {w:World} {Q:Exit→Act→World→Prop} {N:Act→World→Prop} (hT:TabOk P T) (tr:Tr P T ops vs K st mid r U b t) (hD:Draw ops) (hdst:dstsOk C.N ops.toList=true) (hlo:C.n0≤vs.next) (I:InvD C ops vs st r U b L g a w) (hc:Closed ops L) {i:Nat} {o:Oper} (hi:ops[i]?=some o) (hLi:L i=false)
  (hr:∀e∈o.after,Region.binds .any e=true→L e.on=true) (hN:∀g' a' w',InvD C ops vs st r U b (addL L i) g' a' w'→N a' w'):wpOp P ops Q i N a w:=by
 have hlt:=lt_of_get hi
 have hdi:∀d,o.dst=some d→d<a.tmps.size:=by
  intro d e
  rw [I.size]
  have:∀(l:List Oper),dstsOk C.N l=true→o∈l→d<C.N:=by
   intro l
   induction l with
   |nil=>intro _ h;cases h
   |cons y l ih=>
    intro h hm
    simp only [dstsOk,Bool.and_eq_true] at h
    rcases List.mem_cons.1 hm with e'|hm
    ·subst e';have:=h.1;rw [e] at this;exact Nat.le_of_ble_eq_true this
    ·exact ih h.2 hm
  exact this _ hdst (List.mem_of_getElem? (conv hi))
 obtain ⟨p1,p2⟩:=pair_ok tr hc hi hLi hr
 obtain ⟨m1,m2,m3⟩:=tr.mids i o (conv hi)
 have fin:∀v g' w',After g (heapL vs.heap U L ops.size) (st i).next w (r i) (U i) (b i) g' v w'→InvD C ops vs st r U b (addL L i) g' (a.put o.dst v) w':=by
  intro v g' w' A
  have hext:=heapL_add (H:=vs.heap) (U:=U) hlt hLi (fun k h1 h2 h3 h hh=>by obtain ⟨_,_,q,_⟩:=p2 k h1 h2 h3;exact q h hh)
  obtain ⟨f1,f2⟩:=after_fr A I.fr I.own
  have hnx:(st i).next+b i≤(st ops.size).next:=by rw [←tr.next_step hi];exact tr.next_mono (i+1) ops.size hlt (Nat.le_refl _)
  have hni:C.n0≤(st i).next:=by have:=tr.next_mono 0 i (by omega) (by omega);rw [tr.zero] at this;omega
  have getp:∀x,o.dst≠some x→(a.put o.dst v).tmps.getD x undef=a.tmps.getD x undef:=by
   intro x hx
   cases hd:o.dst with
   |none=>rfl
   |some d=>simp only [Act.put];exact getD_put_ne (fun e=>hx (by rw [hd,e]))
  refine ⟨?_,?_,put_size.1.trans I.size,put_size.2.trans I.defers,?_,?_,?_,?_,holds_ext hext A.heap,f1,owns_ext hext f2⟩
  ·intro x sv hk hsv
   have hx:o.dst≠some x:=fun e=>by have:=hk i o hi e;simp [addL] at this
   rw [getp x hx]
   refine Rv.mono A.le _ _ (I.old x sv (fun k o' hk' hd'=> ?_) hsv)
   have:=hk k o' hk' hd'
   simp only [addL] at this
   split at this
   ·cases this
   ·exact this
  ·intro k ok x hk hkx hLk
   by_cases e:k=i
   ·subst e
    rw [hi] at hk;cases hk
    rw [hkx]
    simp only [Act.put]
    rw [getD_put_same (hdi x hkx)]
    exact A.rv
   ·have hx:o.dst≠some x:=hD.dst i k o ok x hi hk (Ne.symm e) hkx
    rw [getp x hx]
    refine Rv.mono A.le _ _ (I.new k ok x hk hkx ?_)
    simpa [addL,e] using hLk
  ·intro q
   obtain ⟨es,cap,e⟩:=I.glob q
   exact ⟨es,cap,A.le _ _ _ e⟩
  ·intro h q hh
   exact A.born h q (I.upto h q hh) (by omega)
  ·intro k hk hLk h q h1 h2
   have hki:k≠i:=by intro e;subst e;simp [addL] at hLk
   have hLk':L k=false:=by simpa [addL,hki] using hLk
   refine A.born h q (I.unborn k hk hLk' h q h1 h2) ?_
   rintro ⟨h3,h4⟩
   obtain ⟨ok,hok⟩:=get_of_lt hk
   rcases Nat.lt_or_ge k i with h5|h5
   ·have h6:=tr.next_mono (k+1) i (by omega) (by omega)
    rw [tr.next_step hok] at h6
    omega
   ·have h6:=tr.next_mono (i+1) k (by omega) (by omega)
    rw [tr.next_step hi] at h6
    omega
  ·intro h q hh
   rw [←I.keep h q hh]
   cases e:g h q with
   |some β=>exact A.le _ _ _ e
   |none=>exact A.born h q e (by omega)
 let S:VS:=⟨restr (st i).env (looks ops.toList o),heapL vs.heap U L ops.size,(st i).next⟩
 have hSe:EnvOk g S a:=by
  intro x sv hx
  obtain ⟨h1,h2⟩:=restr_get _ _ _ _ hx
  exact slot_ok tr hD I hc hi hLi hr h1 h2
 have hgv:∀x∈o.op.operands.toList,gv S x=gv (mid i) x:=by
  intro x hx
  cases x with
  |tmp n=>simp only [gv,S];rw [restr_put _ _ _ (looks_op hx rfl),m1]
  |const v=>rfl
  |func f=>rfl
  |global n=>rfl
 have hhp:(∀k,i<k→k<ops.size→L k=true→∀h∈keysOf (U k),h∉t i)→∀h∈t i,hget S.heap h=hget (mid i).heap h:=by
  intro hnx h hh
  rw [m2]
  refine tr.heap_at (Nat.le_of_lt hlt) (fun k hk hm=>p1 k hk h hm hh) (fun k hk hks hLk hm=> ?_)
  rcases Nat.lt_or_ge i k with h1|h1
  ·exact hnx k h1 hks hLk h hm hh
  ·have:k=i:=by omega
   subst this;rw [hLi] at hLk;cases hLk
 have gslot:∀j want oj d,o.guard=some (j,want)→nth ops.toList j=some oj→oj.dst=some d→d∈looks ops.toList o:=by
  intro j want oj d h1 h2 h3
  unfold looks guardSlot
  simp [h1,h2,h3]
 unfold wpOp
 rw [hi]
 simp only
 rcases tr.did i o (conv hi) with ⟨⟨j,want,oj,d,hg,hj,hd,hv⟩,hr0,hU0,hb0,ht0⟩|⟨hgd,hex⟩
 ·
  have hw:Region.wanted o (yielded ops a.tmps)=false:=by
   have hdl:=gslot j want oj d hg hj hd
   rcases hv with ⟨c,hc1,hc2⟩|⟨x,hx⟩
   ·have:=slot_ok tr hD I hc hi hLi hr hdl (by rw [←m1];exact hc1)
    have hy:=yielded_bool hj hd (rbv this)
    simp only [Region.wanted,hg,hy]
    simpa using hc2
   ·have:=slot_ok tr hD I hc hi hLi hr hdl (by rw [←m1];exact hx)
    have hy:=yielded_none hj hd (by simpa only [Rv] using this)
    simp [Region.wanted,hg,hy]
  rw [if_neg (by simp [hw])]
  refine hN g _ _ (fin undef g w ?_)
  rw [hr0,hU0,hb0]
  exact after_look I.heap (by simp only [Rv])
 ·have hw:Region.wanted o (yielded ops a.tmps)=true:=by
   rcases hgd with hg|⟨j,want,oj,d,hg,hj,hd,hv⟩
   ·simp [Region.wanted,hg]
   ·have:=slot_ok tr hD I hc hi hLi hr (gslot j want oj d hg hj hd) (by rw [←m1];exact hv)
    have hy:=yielded_bool hj hd (rbv this)
    simp [Region.wanted,hg,hy]
  rw [if_pos hw]
  left
  have hun:∀h q,(st i).next≤h→h<(st i).next+b i→g h q=none:=fun h q h1 h2=>I.unborn i hlt hLi h q h1 h2
  rcases hex with he|⟨f,al,l0,args0,H,r0,H',n',hco,hfc,hfit,er,eU,eb,et⟩
  ·have he':(eff T S S.next o.op).is (r i) (U i) (b i) (t i):=by
    by_cases hnx:∀k,i<k→k<ops.size→L k=true→∀h∈keysOf (U k),h∉t i
    ·rw [m3] at he
     exact eff_congr hgv (hhp hnx) he
    ·obtain ⟨k0,hk0,hks,hLk,hx⟩:∃k,i<k∧k<ops.size∧L k=true∧¬∀h∈keysOf (U k),h∉t i:=by
      refine Classical.byContradiction fun q=>hnx fun k a b c=>Classical.byContradiction fun d=>q ⟨k,a,b,c,d⟩
     obtain ⟨ok0,hok0,_,q|hex⟩:=p2 k0 hk0 hks hLk
     ·exact absurd q hx
     obtain ⟨oi,ty,nx,ny,hoi,e1,e2,hone,hfree⟩:=exempt_ok hex
     rw [hi] at hoi
     cases hoi
     have hU0:U i= []:=did_look (tr.did i o (conv hi)) e1
     rw [e1] at he⊢
     obtain ⟨m,key,ti,g1,g2,g3,g4,hlk⟩:=eff_look he
     obtain ⟨n1,n2,n3⟩:=tr.mids k0 ok0 (conv hok0)
     have genv:∀n,(n=nx∨n=ny)→gv (mid k0) (.tmp n)=gv (mid i) (.tmp n):=by
      intro n hn
      simp only [gv]
      rw [n1,m1]
      refine tr.env_free k0 (Nat.le_of_lt hk0) (Nat.le_of_lt hks) (fun w ow a _ c=> ?_)
      obtain ⟨f1,f2⟩:=hfree w ow a c
      rcases hn with rfl|rfl
      ·exact f1
      ·exact f2
     have gS:∀n,(n=nx∨n=ny)→gv S (.tmp n)=gv (mid i) (.tmp n):=by
      intro n hn
      refine hgv _ ?_
      rw [e1]
      rcases hn with rfl|rfl<;>simp [Op.operands]
     have hent:(∃r' b',(mapEntryR (mid k0) ti m key).is r' (U k0) b' (t k0)):=by
      rcases tr.did k0 ok0 (conv hok0) with ⟨_,_,hU,_⟩|⟨_,hk|⟨f,al,l0,args0,H,r0,H',n',hco,_⟩⟩
      ·exact absurd (by rw [hU];intro h hh;cases hh) hx
      ·rw [e2] at hk
       simp only [eff] at hk
       rw [genv nx (.inl rfl),genv ny (.inr rfl),g1,g2,g3] at hk
       dsimp only at hk
       exact ⟨_,_,(bif_inv2 hk).2⟩
      ·obtain ⟨c,hop⟩:=hco.op
       rw [e2] at hop;cases hop
     obtain ⟨r',b',hent⟩:=hent
     have away:∀h∈t i,h∈t k0→∀w,i≤w→w<k0→h∉keysOf (U w):=by
      intro h hh ht w hw1 hw2 hm
      by_cases ew:w=i
      ·subst ew;rw [hU0] at hm;cases hm
      have hws:w<ops.size:=by omega
      obtain ⟨ow,how⟩:=get_of_lt hws
      have hlw:L w=true:=by
       rcases tr.recs1 k0 ok0 w (conv hok0) hw2 with q|⟨q,_,_⟩|q
       ·simp only [List.length_nil,Nat.zero_add] at q
        exact reach_L hc 7 ok0 w q (hc k0 ok0 hok0 hLk)
       ·exact absurd ht (apartN_ok _ _ q h hm)
       ·simp only [List.length_nil,Nat.zero_add] at q
        obtain ⟨o2,ty2,nx2,ny2,ho2,f1,_⟩:=exempt_ok q
        have:=did_look (tr.did w o2 (conv ho2)) f1
        rw [this] at hm;cases hm
      obtain ⟨o2,ho2,_,q|q⟩:=p2 w (by omega) hws hlw
      ·exact q h hm hh
      ·obtain ⟨_,ty2,nx2,ny2,_,_,f2,_⟩:=exempt_ok q
       have:=countME_one hone (conv ho2) (conv hok0) f2 e2
       omega
     have hfin:=look_after (S:=S) hlk hent (fun h hh ht=>by
      rw [n2,m2]
      exact tr.heap_free k0 (Nat.le_of_lt hk0) (Nat.le_of_lt hks) (away h hh ht)) (fun h hh ht=>by
      rw [n2]
      have hn1:U k0++(st k0).heap=(st (k0+1)).heap:=by rw [tr.next k0 ok0 (conv hok0)]
      rw [hn1]
      refine tr.heap_at hks (fun k hk hm=> ?_) (fun k hk hks2 hLk2 hm=> ?_)
      ·rcases Nat.lt_trichotomy k i with q|q|q
       ·exact p1 k q h hm hh
       ·subst q;rw [hU0] at hm;cases hm
       ·by_cases ek:k=k0
        ·subst ek;exact hLk
        ·exact absurd hm (away h hh ht k (by omega) (by omega))
      ·obtain ⟨o2,ho2,_,q|q⟩:=p2 k (by omega) hks2 hLk2
       ·exact q h hm hh
       ·obtain ⟨_,ty2,nx2,ny2,_,_,f2,_⟩:=exempt_ok q
        have:=countME_one hone (conv ho2) (conv hok0) f2 e2
        omega)
     simp only [eff]
     rw [gS nx (.inl rfl),gS ny (.inr rfl),g1,g2,g3]
     dsimp only
     exact bif_mk2 g4 hfin
   obtain ⟨v,w',g',h3,A⟩:=eff_ok (vs:=S) hT I.glob hSe I.heap hun he'
   exact ran_wp h3 (hN g' _ _ (fin v g' w' A))
  ·have hhp:=hhp (fun k a b c=>by
    obtain ⟨o2,ho2,_,q|q⟩:=p2 k a b c
    ·exact q
    ·obtain ⟨o3,ty2,nx2,ny2,ho3,f1,_⟩:=exempt_ok q
     rw [hi] at ho3
     cases ho3
     obtain ⟨c,hop⟩:=hco.op
     rw [hop] at f1;cases f1)
   rw [m3] at hfit er eU
   have hco':CallOf P o S f al:=by
    rcases hco with ⟨fo,args,ts,cap,l,hop,hf,hl,e⟩|⟨x,name,args,ts,t,v,l,hop,hx,hl,hm,e⟩
    ·refine .inl ⟨fo,args,ts,cap,l,hop,?_,?_,e⟩
     ·rw [hgv fo (by rw [hop];simp [Op.operands,Call.operands])];exact hf
     ·rw [gvs_congr args.toList (fun x hx=>hgv x (by rw [hop];simp only [Op.operands,Call.operands,Array.toList_append,List.mem_append];exact .inr hx))];exact hl
    ·refine .inr ⟨x,name,args,ts,t,v,l,hop,?_,?_,hm,e⟩
     ·rw [hgv x (by rw [hop];simp [Op.operands,Call.operands])];exact hx
     ·rw [gvs_congr args.toList (fun x hx=>hgv x (by rw [hop];simp only [Op.operands,Call.operands,Array.toList_append,List.mem_append];exact .inr hx))];exact hl
   have hfit':Fits l0 (st i).next al args0 H S.heap:=by
    refine ⟨hfit.head,hfit.inj,hfit.args,hfit.wfA,hfit.wfH,?_⟩
    have:∀(X:Heap),heapWf l0.length X→hmatch (rho l0 (st i).next) X (mid i).heap→hmatch (rho l0 (st i).next) X S.heap:=by
     intro X
     induction X with
     |nil=>intro _ _;trivial
     |cons p X ih=>
      obtain ⟨k,ob⟩:=p
      cases ob with
      |none=>intro _ h;exact h
      |some hb=>
       intro h1 h2
       simp only [heapWf] at h1
       simp only [hmatch] at h2⊢
       refine ⟨?_,ih h1.2.2 h2.2⟩
       have hk:k<l0.length:=by simpa using h1.1
       rw [hhp (rho l0 (st i).next k) (by rw [et,rho_lt hk];exact List.getElem_mem hk)]
       exact h2.1
    exact this H hfit.wfH hfit.heap
   refine call_wp I.glob I.heap (hco'.run I.glob hSe) hfc hfit' ?_ ?_
   ·rintro sv H1 n1 ⟨_,_,rfl⟩ h q h1 h2
    exact hun h q h1 (by rw [eb];exact h2)
   ·rintro v w' sv H1 n1 g' ⟨rfl,rfl,rfl⟩ A
    refine hN g' _ _ (fin v g' w' ?_)
    rw [er,eU,eb]
    exact A
end
end Go.Sy
