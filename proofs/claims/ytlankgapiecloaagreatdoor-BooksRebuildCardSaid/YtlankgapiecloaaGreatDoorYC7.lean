/- The condition is right: code, loops, functions. No program in sight. -/
import Derived.Test.YtlankgapiecloaaGreatDoorYCG
import Derived.Scope
namespace Go.Sy
open Go.RowKit
section
variable {P:Program} {T:Tab} {g:G} {C:Ctx} {vs:VS} {a:Act} {w:World}
theorem region_any {ops:Array Oper} {id:Nat} {Q:Exit→Act→World→Prop} {K:VS→Prop} (hm:P.follows .mixedOrders=true) (hT:TabOk P T) (hD:Draw ops) (hdst:dstsOk C.N ops.toList=true) (R:Rel C g vs a w) (h:vopsD P T ops.toList ops.toList [] vs K)
  (hq:∀vs' g' a' w',K vs'→Rel C g' vs' a' w'→Q .normal a' w'):(Code.region id ops true).wp P Q a w:=by
 obtain ⟨st,mid,r,U,b,t,tr⟩:=vopsD_steps ops.toList [] vs K h
 have hKf:K (st ops.size):=by have:=tr.last;simpa using this
 have close:∀(L:Nat→Bool) (g:G) (a:Act) (w:World),(∀(k:Nat) (o:Oper),ops[k]?=some o→L k=true)→InvD C ops vs st r U b L g a w→Q .normal a w:=by
  intro L g a w hall I
  have hext:∀h,hget (st ops.size).heap h=hget (heapL vs.heap U L ops.size) h:=fun h=>(Tr.heap_at tr (Nat.le_refl _) (fun k hk _=>by obtain ⟨o,ho⟩:=get_of_lt hk;exact hall k o ho) (fun k h1 h2=>by omega)).symm
  refine hq _ g a w hKf ⟨?_,I.size,I.defers,I.glob,I.upto,?_,I.keep,holds_ext hext I.heap,I.fr,owns_ext hext I.own⟩
  ·intro x sv hsv
   by_cases hw:∃(k:Nat) (ok:Oper),ops[k]?=some ok∧ok.dst=some x
   ·obtain ⟨k,ok,hk,hkx⟩:=hw
    rw [Tr.env_some tr hD hk hkx ops.size (lt_of_get hk) (Nat.le_refl _)] at hsv
    cases hsv
    exact I.new k ok x hk hkx (hall k ok hk)
   ·rw [Tr.env_none tr x ops.size (Nat.le_refl _) (fun j oj _ hj e=>hw ⟨j,oj,hj,e⟩)] at hsv
    exact I.old x sv (fun j oj hj e=>absurd ⟨j,oj,hj,e⟩ hw) hsv
  ·have:=Tr.next_mono tr 0 ops.size (by omega) (Nat.le_refl _)
   rw [tr.zero] at this
   exact Nat.le_trans R.lo this
 refine wp_region_any hm ?_
 have main:∀(fuel:Nat) (listed:Array Bool) (a:Act) (w:World) (g:G),listed.size=ops.size→(listed.toList.countP (fun b=> !b))≤fuel→Closed ops (fun k=>listed.getD k false)→InvD C ops vs st r U b (fun k=>listed.getD k false) g a w→
   wpAny P .any ops Q fuel listed a w:=by
  intro fuel
  have stuck:∀(listed:Array Bool),listed.size=ops.size→Region.ready .any ops listed= []→∀(k:Nat) (o:Oper),ops[k]?=some o→listed.getD k false=true:=by
   intro listed hs hr k
   induction k using Nat.strongRecOn with
   |_ k ih=>
    intro o ho
    cases hl:listed.getD k false with
    |true=>rfl
    |false=>
     exfalso
     have hlt:k<listed.size:=by rw [hs];exact lt_of_get ho
     have hl':listed.getD k true=false:=by
      simp only [Array.getD,hlt,dif_pos] at hl⊢;exact hl
     have:k∈Region.ready .any ops listed:=mem_ready.2 ⟨hl',o,ho,fun e he hb=>by
      have hb':=hD.back k o ho e he hb
      obtain ⟨oe,hoe⟩:=get_of_lt (ops:=ops) (i:=e.on) (by have:=lt_of_get ho;omega)
      exact ih e.on hb' oe hoe⟩
     rw [hr] at this;cases this
  induction fuel with
  |zero=>
   intro listed a w g hs hcnt hc I
   have hallt:∀(k:Nat) (o:Oper),ops[k]?=some o→listed.getD k false=true:=by
    intro k o ho
    have hlt:k<listed.size:=by rw [hs];exact lt_of_get ho
    have h0:listed.toList.countP (fun b=> !b)=0:=by omega
    rw [List.countP_eq_zero] at h0
    have:=h0 listed[k] (by simp)
    simp only [Array.getD,hlt,dif_pos]
    simpa using this
   refine ⟨?_,close _ g a w hallt I⟩
   cases hr:Region.ready .any ops listed with
   |nil=>rfl
   |cons x xs=>
    have hx:x∈Region.ready .any ops listed:=by rw [hr];simp
    obtain ⟨h1,o,ho,_⟩:=mem_ready.1 hx
    have hlt:x<listed.size:=by rw [hs];exact lt_of_get ho
    have:=hallt x o ho
    simp only [Array.getD,hlt,dif_pos] at h1 this
    rw [this] at h1;cases h1
  |succ fuel ih=>
   intro listed a w g hs hcnt hc I
   refine ⟨fun hr=>close _ g a w (stuck listed hs hr) I,?_⟩
   intro i hi
   obtain ⟨h1,o,ho,h2⟩:=mem_ready.1 hi
   have hlt:i<listed.size:=by rw [hs];exact lt_of_get ho
   have hLi:(fun k=>listed.getD k false) i=false:=by
    simp only [Array.getD,hlt,dif_pos] at h1⊢;exact h1
   refine step_any hT tr hD hdst R.lo I hc ho hLi h2 ?_
   intro g' a' w' I'
   have hL':(fun k=>(listed.setIfInBounds i true).getD k false)=addL (fun k=>listed.getD k false) i:=by
    funext k
    simp only [addL]
    by_cases e:k=i
    ·subst e;simp [Array.getD,hlt]
    ·rw [if_neg e]
     simp only [Array.getD_eq_getD_getElem?,Array.getElem?_setIfInBounds_ne (Ne.symm e)]
   refine ih _ a' w' g' (by simp [hs]) ?_ ?_ (by rw [hL'];exact I')
   ·have hget:listed[i]=false:=by simp only [Array.getD,hlt,dif_pos] at h1;exact h1
    have e1:(listed.setIfInBounds i true).toList=listed.toList.set i true:=by simp
    rw [e1]
    have e2:(listed.toList.set i true).countP (fun b=> !b)+1=listed.toList.countP (fun b=> !b):=by
     have:∀(l:List Bool) (i:Nat) (hi:i<l.length),l[i]=false→(l.set i true).countP (fun b=> !b)+1=l.countP (fun b=> !b):=by
      intro l
      induction l with
      |nil=>intro i hi;simp at hi
      |cons b l ihl=>
       intro i hi hb
       cases i with
       |zero=>simp at hb;subst hb;simp
       |succ i=>
        have:=ihl i (by simpa using hi) (by simpa using hb)
        simp only [List.set_cons_succ,List.countP_cons]
        omega
     exact this listed.toList i (by simpa using hlt) (by simpa using hget)
    omega
   ·rw [hL']
    intro k ok hk hLk e he hb
    simp only [addL] at hLk⊢
    split
    ·rfl
    ·split at hLk
     ·rename_i e1;subst e1;rw [ho] at hk;cases hk;exact h2 e he hb
     ·exact hc k ok hk hLk e he hb
 refine main ops.size _ a _ g (by simp) ?_ ?_ ?_
 ·have:∀n,(List.replicate n false).countP (fun b=> !b)≤n:=fun n=>by simpa using List.countP_le_length (p:=fun b=> !b) (l:=List.replicate n false)
  simpa using this ops.size
 ·intro i o hi hL
  simp [Array.getD] at hL
 ·have hno:∀n,heapL vs.heap U (fun k=>(Array.replicate ops.size false).getD k false) n=vs.heap:=by
   intro n
   induction n with
   |zero=>rfl
   |succ n ih=>simp only [heapL];rw [if_neg (by simp [Array.getD]),ih]
  refine ⟨fun x sv _ hx=>R.env x sv hx,fun k o x _ _ hL=>by simp [Array.getD] at hL,R.size,R.defers,R.glob,?_,?_,R.keep,?_,⟨R.fr.os,R.fr.tape,R.fr.output,R.fr.size,R.fr.block⟩,?_⟩
  ·intro h q hh
   have:=Tr.next_mono tr 0 ops.size (by omega) (Nat.le_refl _)
   rw [tr.zero] at this
   exact R.upto h q (by omega)
  ·intro k hk _ h q h1 _
   have:=Tr.next_mono tr 0 k (by omega) (by omega)
   rw [tr.zero] at this
   exact R.upto h q (by omega)
  ·rw [hno];exact holds_heap R.heap rfl
  ·rw [hno];exact R.own
theorem wp_loop_idx {c:Code} {Q:Exit→Act→World→Prop} (J:Nat→Act→World→Prop) (n0:Nat) (h₀:J n0 a w)
  (round:∀n a w,J n a w→c.wp P (Exit.then (fun a' w'=>∃m,m<n∧J m a' w') Q) a w):(Code.loop c).wp P Q a w:=by
 intro b k cs
 have key:∀n a w,J n a w→∃e a' w',Q e a' w'∧Arrives P (lone (b.at a (.code c:: .inLoop c::k)) cs w) b k cs e a' w':=by
  intro n
  induction n using Nat.strongRecOn with
  |_ n ih=>
   intro a w hI
   obtain ⟨e,a₁,w₁,hq,harr⟩:=round n a w hI b (.inLoop c::k) cs
   cases e with
   |normal=>
    obtain ⟨m,hlt,hI₁⟩:=hq
    obtain ⟨e₂,a₂,w₂,hq₂,harr₂⟩:=ih m hlt a₁ w₁ hI₁
    exact ⟨e₂,a₂,w₂,hq₂,.of_steps (Steps.trans harr (.one step_inLoop)) harr₂⟩
   |exit id=>exact ⟨_,a₁,w₁,hq,.pass (x:= .inLoop c) rfl (fun _ _=> .inl (by simp)) harr⟩
   |goto l=>exact ⟨_,a₁,w₁,hq,.pass (x:= .inLoop c) rfl (fun _ _=> .inl (by simp)) harr⟩
   |ret=>exact ⟨_,a₁,w₁,hq,.pass (x:= .inLoop c) rfl (fun _ _=> .inl (by simp)) harr⟩
   |panic ch=>exact ⟨_,a₁,w₁,hq,.pass (x:= .inLoop c) rfl (fun _ _=> .inl (by simp)) harr⟩
   |outgrown=>exact ⟨_,a₁,w₁,hq,.pass (x:= .inLoop c) rfl (fun _ _=> .inl (by simp)) harr⟩
 obtain ⟨e,a',w',hq,harr⟩:=key _ a w h₀
 exact ⟨e,a',w',hq,.of_steps (.one step_loop) harr⟩
def Back (ρ:Nat→Nat) (g g0:G):Prop:=∀h q β,g (ρ h) q=some β→g0 h q=some β
mutual
theorem Rv.back {ρ:Nat→Nat} {g g0:G} (hs:Back ρ g g0):∀(sv:SV) (v:Value),Rv g (SV.ren ρ sv) v→Rv g0 sv v
 | .bool _,_,r=>by simp only [SV.ren,Rv] at r⊢;exact r
 | .int _ _,_,r=>by simp only [SV.ren,Rv] at r⊢;exact r
 | .str _,_,r=>by simp only [SV.ren,Rv] at r⊢;exact r
 | .ptr h q i j,v,r=>by simp only [SV.ren,Rv] at r⊢;obtain ⟨β,e,k⟩:=r;exact ⟨β,hs h q β e,k⟩
 | .nptr,_,r=>by simp only [SV.ren,Rv] at r⊢;exact r
 | .sl h q i m,v,r=>by
   simp only [SV.ren,Rv] at r⊢
   obtain ⟨ad,c,e,hn,k⟩:=r
   refine ⟨ad,c,e,hn,?_⟩
   rcases k with k|⟨β,e1,k⟩
   ·exact .inl k
   ·exact .inr ⟨β,hs h q β e1,k⟩
 | .nsl,_,r=>by simp only [SV.ren,Rv] at r⊢;exact r
 | .zsl,_,r=>by simp only [SV.ren,Rv] at r⊢;exact r
 | .map h q,v,r=>by simp only [SV.ren,Rv] at r⊢;obtain ⟨β,e,k⟩:=r;exact ⟨β,hs h q β e,k⟩
 | .nmap,_,r=>by simp only [SV.ren,Rv] at r⊢;exact r
 | .fn f l,v,r=>by simp only [SV.ren,Rv] at r⊢;obtain ⟨vs,e,k⟩:=r;exact ⟨vs,e,Rvs.back hs l _ k⟩
 | .iface t s,v,r=>by simp only [SV.ren,Rv] at r⊢;obtain ⟨u,e,k⟩:=r;exact ⟨u,e,Rv.back hs s _ k⟩
 | .nif,_,r=>by simp only [SV.ren,Rv] at r⊢;exact r
 | .agg l,v,r=>by simp only [SV.ren,Rv] at r⊢;obtain ⟨vs,e,k⟩:=r;exact ⟨vs,e,Rvs.back hs l _ k⟩
 | .arr _ _,_,r=>by simp only [SV.ren,Rv] at r⊢;exact r
 | .tup l,v,r=>by simp only [SV.ren,Rv] at r⊢;obtain ⟨vs,e,k⟩:=r;exact ⟨vs,e,Rvs.back hs l _ k⟩
 | .raw _,_,r=>by simp only [SV.ren,Rv] at r⊢;exact r
 | .unk,_,_=>by simp only [Rv]
theorem Rvs.back {ρ:Nat→Nat} {g g0:G} (hs:Back ρ g g0):∀(l:List SV) (vs:List Value),Rvs g (SV.rens ρ l) vs→Rvs g0 l vs
 | [],_,r=>by simp only [SV.rens,Rvs] at r⊢;exact r
 |s::l,vs,r=>by
  simp only [SV.rens,Rvs] at r⊢
  obtain ⟨v,vs',e,h1,h2⟩:=r
  exact ⟨v,vs',e,Rv.back hs s v h1,Rvs.back hs l vs' h2⟩
end
theorem blkOk_backB {ρ:Nat→Nat} {g g0:G} (hs:Back ρ g g0) {β:Base} {b:Blk} {w:World} (h:(b.ren ρ).Ok g w β):b.Ok g0 w β:=by
 cases b with
 |obj o=>
  refine ⟨h.1,h.2.1,?_⟩
  have h:=h.2.2
  cases o with
  |map ka ea m ks vs bs ck=>
   obtain ⟨es,e,k⟩:=h
   exact ⟨es,e,k.size,k.kl,(renCols_len ρ).1 k.vl,k.bl,k.nd,k.lt,fun i x hx=>⟨(k.row i x hx).1,(k.row i x hx).2.1,Rv.back hs _ _ (by rw [←elemS_ren];exact (k.row i x hx).2.2)⟩⟩
  |iter h0 q a b c=>
   obtain ⟨β',e1,e⟩:=h
   exact ⟨β',hs h0 q β' e1,e⟩
  |niter=>exact h
  |siter s p=>exact h
  |bld0 T=>exact h
  |bld T h0 q n=>
   obtain ⟨β',e1,e⟩:=h
   exact ⟨β',hs h0 q β' e1,e⟩
  |brow T s=>exact h
  |bag Q=>exact h
 |_=>trivial
theorem weakEnv_ok {ρ:Nat→Nat}:∀(e0 e:Env),weakEnv ρ e0 e→∀t sv,aget e0 t=some sv→aget e t=some (SV.ren ρ sv)
 | [],e,_,t,sv,h=>by simp [aget] at h
 |(k,s)::r,e,hw,t,sv,h=>by
  simp only [weakEnv] at hw
  rw [aget_cons] at h
  split at h
  ·rename_i e';subst e';simp only [Option.some.injEq] at h;subst h;exact hw.1
  ·exact weakEnv_ok r e hw.2 t sv h
theorem weakHeap_ok {ρ:Nat→Nat}:∀(e0 e:Heap),weakHeap ρ e0 e→∀h q ro b,Ent e0 h q ro b→Ent e (ρ h) q ro (b.ren ρ)
 | [],e,_,h,q,ro,b,he=>by obtain ⟨hb,x,_⟩:=he;simp [hget] at x
 |(k,some hb)::r,e,hw,h,q,ro,b,he=>by
  simp only [weakHeap] at hw
  rcases ent_cons.1 he with ⟨rfl,hb',e1,e2,e3⟩|⟨_,he⟩
  ·cases e1
   exact ⟨hb.ren ρ,hw.1,HB.ren_is.2 ⟨b,e2,rfl⟩,by rw [HB.ren_ro];exact e3⟩
  ·exact weakHeap_ok r e hw.2 h q ro b he
 |(k,none)::r,e,hw,h,q,ro,b,he=>by simp only [weakHeap] at hw
theorem idList_ok:∀(n:Nat) (l:List Nat),idList n l=true→∀h,h<n→l[h]?=some h
 |0,l,_,h,hh=>by omega
 |n+1,l,hi,h,hh=>by
  simp only [idList,Bool.and_eq_true] at hi
  rcases Nat.lt_or_ge h n with h1|h1
  ·exact idList_ok n l hi.2 h h1
  ·have:h=n:=by omega
   subst this
   have h2:=hi.1
   split at h2
   ·rename_i k hk
    rw [nth_eq] at hk
    rw [hk,Nat.eq_of_beq_eq_true h2]
   ·cases h2
theorem nodupN_ok:∀(l:List Nat),nodupN l=true→∀(i j x:Nat),l[i]?=some x→l[j]?=some x→i=j
 | [],_,i,j,x,h,_=>by simp at h
 |y::l,hn,i,j,x,h1,h2=>by
  simp only [nodupN,Bool.and_eq_true,Bool.not_eq_true'] at hn
  have hno:∀k:Nat,l[k]?≠some y:=by
   intro k hk
   rw [(hasN_ok l y).2 (List.mem_of_getElem? hk)] at hn
   exact absurd hn.1 (by simp)
  cases i with
  |zero=>cases j with
   |zero=>rfl
   |succ j=>simp at h1 h2;subst h1;exact absurd h2 (hno j)
  |succ i=>cases j with
   |zero=>simp at h1 h2;subst h2;exact absurd h1 (hno i)
   |succ j=>simp at h1 h2;rw [nodupN_ok l hn.2 i j x h1 h2]
theorem allLt_ok:∀(l:List Nat) (n:Nat),allLt l n=true→∀x∈l,x<n
 | [],n,_,x,h=>by cases h
 |y::l,n,ha,x,h=>by
  simp only [allLt,Bool.and_eq_true] at ha
  rcases List.mem_cons.1 h with rfl|h
  ·simpa using ha.1
  ·exact allLt_ok l n ha.2 x h
theorem renumber {l:List Nat} {n1:Nat} {H0:Heap} (R:Rel C g vs a w) (ids:(Nat.ble 1 C.n0&&Nat.ble C.n0 l.length&&idList C.n0 l&&Nat.beq l.length n1&&allLt l vs.next&&injH (rho l vs.next) H0 H0)=true) (hh:weakHeap (rho l vs.next) H0 vs.heap):
  ∃g0:G,Back (rho l vs.next) g g0∧g0.glob∧g0.upto n1∧C.n0≤n1∧(∀h q,h<C.n0→g0 h q=C.g h q)∧Holds g0 H0 w∧Owns g0 H0 C.W C.w:=by
 simp only [Bool.and_eq_true] at ids
 obtain ⟨⟨⟨⟨⟨i1,i2⟩,i3⟩,i5⟩,i6⟩,i4⟩:=ids
 have e1:=Nat.le_of_ble_eq_true i1
 have e2:=Nat.le_of_ble_eq_true i2
 have e5:=Nat.eq_of_beq_eq_true i5
 let ρ:=rho l vs.next
 have hid:∀h,h<C.n0→ρ h=h:=by
  intro h hh
  have:=idList_ok C.n0 l i3 h hh
  simp only [ρ,rho,nth_eq,this]
 let g0:G:=fun h q=>g (ρ h) q
 have hB:Back ρ g g0:=fun h q β e=>e
 have hup:g0.upto n1:=by
  intro h q hh
  simp only [g0]
  have:ρ h=vs.next+(h-l.length):=rho_ge (by omega)
  rw [this]
  exact R.upto _ q (by omega)
 have hent:∀h q ro b,Ent H0 h q ro b→h<l.length∧∃β,Ent vs.heap (ρ h) q ro (b.ren ρ)∧g (ρ h) q=some β∧BlkAt g β ro (b.ren ρ) w:=by
  intro h q ro b he
  have h1:=weakHeap_ok H0 vs.heap hh h q ro b he
  obtain ⟨β,h2,h3⟩:=R.heap.blk _ _ _ _ h1
  refine ⟨?_,β,h1,h2,h3⟩
  rcases Nat.lt_or_ge h l.length with h4|h4
  ·exact h4
  ·have:g0 h q=none:=hup h q (by omega)
   simp only [g0] at this
   rw [h2] at this;cases this
 have hinj:∀h q b h' q' ro' b',Ent H0 h q false b→Ent H0 h' q' ro' b'→ρ h=ρ h'→h=h':=by
  intro h q b h' q' ro' b' he he' e
  by_cases e':h=h'
  ·exact e'
  ·obtain ⟨hb,m1,m2⟩:=ent_mem H0 h q false b he
   obtain ⟨hb',m3,_⟩:=ent_mem H0 h' q' ro' b' he'
   exact absurd e (injH_ok H0 i4 h hb m1 m2 h' (some hb') m3 (Ne.symm e'))
 refine ⟨g0,hB,?_,hup,by omega,?_,⟨?_,?_⟩,?_⟩
 ·intro q
  obtain ⟨es,cap,e⟩:=R.glob q
  exact ⟨es,cap,by simp only [g0];rw [hid 0 (by omega)];exact e⟩
 ·intro h q hh
  simp only [g0]
  rw [hid h hh];exact R.keep h q hh
 ·intro h q ro b he
  obtain ⟨_,β,_,h2,h3⟩:=hent h q ro b he
  refine ⟨β,h2,h3.lt,by rw [h3.es,Blk.ren_es],(Blk.ren_len ρ b).1 h3.len,fun i hi=>h3.cap i ((Blk.ren_has ρ b i).2 hi),?_,fun i j v hi=>h3.one i j v ((Blk.ren_has ρ b i).2 hi),h3.rw,blkOk_backB hB h3.obj⟩
  intro i j sv hi hj
  obtain ⟨v,k1,k2⟩:=h3.cell i j (SV.ren ρ sv) ((Blk.ren_has ρ b i).2 hi) (by rw [Blk.ren_at,hj];rfl)
  exact ⟨v,k1,Rv.back hB sv v k2⟩
 ·intro h q h' q' b ro' b' β β' hne he he' hg hg' hc hc'
  obtain ⟨h1,β1,h2,h3,_⟩:=hent h q false b he
  obtain ⟨k1,β2,k2,k3,_⟩:=hent h' q' ro' b' he'
  simp only [g0] at hg hg'
  exact R.heap.sep (ρ h) q (ρ h') q' _ ro' _ β β' (fun e=>hne ⟨hinj h q b h' q' ro' b' he he' e.1,e.2⟩) h2 k2 hg hg' hc hc'
 ·intro h q b β he hg hc
  obtain ⟨h1,β1,h2,h3,_⟩:=hent h q false b he
  exact R.own (ρ h) q _ β h2 hg hc
theorem none_ok {v:SV} {x:Value} (h:v.none=true) (hv:Rv g v x):∃ad,x= .slice ad 0 0:=by
 cases v<;>simp [SV.none] at h<;>simp only [Rv] at hv
 ·exact ⟨_,hv⟩
 ·exact hv
theorem rel_dead {e:Env} {H:Heap} {n:Nat} {cs:List BCol} (R:Rel C g ⟨e,H,n⟩ a w) (hl:len0 cs=true):Rel C (g.add n ⟨0,0,cs.length,0⟩) ⟨e,(n,some (.one false (.cols 0 cs)))::H,n+1⟩ a w:=by
 have hn:∀q,g n q=none:=fun q=>R.upto n q (Nat.le_refl _)
 have A:=after_new (r:= .unk) (v:=undef) (nx:=n) (b1:= .cols 0 cs) (β1:=⟨0,0,cs.length,0⟩) (w':=w) R.heap hn (by simp only [Rv]) (by
  refine ⟨fun h=>by simp at h,rfl,len0_ok cs hl,fun i hi=>by simp only [Blk.has] at hi;omega,fun i j sv hi=>by simp only [Blk.has] at hi;omega,fun i j v hi=>by simp only [Blk.has] at hi;omega,fun _ i j hi=>by simp at hi,trivial⟩) (fun h=>by simp at h) rfl rfl rfl (Nat.le_refl _) (fun _ _=>rfl)
 have:=rel_after (o:=⟨none,.ready 0,0,"",#[],none⟩) R A (by intro x h;cases h)
 simpa [dput,Act.put] using this
theorem gdead {n:Nat} {β:Base}:(g.add n β) n 0=some β:=by simp [G.add]
theorem up1_ok {u:Up} {v1:VS} (R:Rel C g vs a w) (h:up1 u vs=some v1):∃g1,G.le g g1∧Rel C g1 v1 a w:=by
 obtain ⟨e,H,n⟩:=vs
 cases u with
 |slot t cs=>
  simp only [up1] at h
  split at h
  ·rename_i v hv
   cases hc:(v.none&&len0 cs) with
   |false=>rw [hc] at h;simp at h
   |true=>
    rw [hc] at h
    simp only [cond_true,Option.some.injEq] at h
    subst h
    simp only [Bool.and_eq_true] at hc
    have R1:=rel_dead R hc.2
    refine ⟨_,G.le_add _ (R.upto n 0 (Nat.le_refl _)),?_,R1.size,R1.defers,R1.glob,R1.upto,R1.lo,R1.keep,R1.heap,R1.fr,R1.own⟩
    intro x sv hx
    simp only at hx
    rw [aget_cons] at hx
    split at hx
    ·rename_i e';subst e'
     simp only [Option.some.injEq] at hx;subst hx
     obtain ⟨ad,e1⟩:=none_ok hc.1 (R.env t v hv)
     rw [e1]
     simp only [Rv]
     exact ⟨ad,0,rfl,Nat.le_refl _,.inl rfl⟩
    ·exact R1.env x sv hx
  ·cases h
 |cell hh j cs=>
  simp only [up1] at h
  split at h
  ·rename_i l hl
   split at h
   ·rename_i v hv
    cases hc:(v.none&&len0 cs) with
    |false=>rw [hc] at h;simp at h
    |true=>
     rw [hc] at h
     simp only [cond_true,Option.some.injEq] at h
     subst h
     simp only [Bool.and_eq_true] at hc
     have R1:=rel_dead R hc.2
     generalize hg1:g.add n ⟨0,0,cs.length,0⟩=g1 at R1
     have hne:n≠hh:=by
      intro e';subst e'
      obtain ⟨β,hb,_⟩:=R.heap.blk n 0 false (.cells l) ⟨_,hl,⟨rfl,rfl⟩,rfl⟩
      rw [R.upto n 0 (Nat.le_refl _)] at hb;cases hb
     have hent:Ent ((n,some (.one false (.cols 0 cs)))::H) hh 0 false (.cells l):=ent_cons.2 (.inr ⟨hne,_,hl,⟨rfl,rfl⟩,rfl⟩)
     obtain ⟨β,hβ,hB⟩:=R1.heap.blk _ _ _ _ hent
     have hset:setBlk ((n,some (.one false (.cols 0 cs)))::H) hh 0 (.cells (setNth l j (.sl n 0 0 0)))= [(hh,some (.one false (.cells (setNth l j (.sl n 0 0 0)))))]:=by
      have:hget ((n,some (.one false (.cols 0 cs)))::H) hh=some (.one false (.cells l)):=by rw [hget_cons,if_neg hne];exact hl
      rw [setBlk_some this];rfl
     have A:=after_set (r:= .unk) (v:=undef) (nx:=n+1) (b1:= .cells (setNth l j (.sl n 0 0 0))) (w':=w) R1.heap hent hβ (hB.cap 0 rfl) (by simp only [Rv]) (by
      refine ⟨hB.lt,by rw [hB.es];simp [Blk.es,setNth_length],trivial,hB.cap,?_,fun i j v hi=>hB.one i j v hi,hB.rw,trivial⟩
      intro i x sv hi hx
      simp only [Blk.at] at hx
      have hs:=setMany_nth [SV.sl n 0 0 0] l j x (by have:=nth_lt hv;simp;omega)
      simp only [setMany] at hs
      rw [hs] at hx
      split at hx
      ·rename_i hc'
       simp only [List.length_singleton] at hc'
       have:x=j:=by omega
       subst this
       simp only [Nat.sub_self,nth,Option.some.injEq] at hx
       subst hx
       obtain ⟨u,u1,u2⟩:=hB.cell i x v hi hv
       obtain ⟨ad,e1⟩:=none_ok hc.1 u2
       refine ⟨u,u1,?_⟩
       rw [e1]
       simp only [Rv]
       exact ⟨ad,0,rfl,Nat.le_refl _,.inl rfl⟩
      ·exact hB.cell i x sv hi hx) rfl rfl rfl (Nat.le_refl _) (fun _ _ _=>rfl)
     have R2:=rel_after (o:=⟨none,.ready 0,0,"",#[],none⟩) R1 A (by intro x h;cases h)
     rw [hset] at R2
     exact ⟨g1,by rw [←hg1];exact G.le_add _ (R.upto n 0 (Nat.le_refl _)),by simpa [dput,Act.put] using R2⟩
   ·cases h
  ·cases h
 |relab R E N dr m=>simp only [up1] at h;cases h
theorem upK_le:∀(us:List Up) (vs:VS) (g:G) (K:VS→Prop),Rel C g vs a w→upK us vs K→∃g1 v1,Rel C g1 v1 a w∧G.le g g1∧K v1
 | [],vs,g,K,R,h=>⟨g,vs,R,G.le.refl g,h⟩
 |u::us,vs,g,K,R,h=>by
  have key:∀v1,up1 u vs=some v1→upK us v1 K→∃g1 v1,Rel C g1 v1 a w∧G.le g g1∧K v1:=by
   intro v1 hv h
   obtain ⟨g1,hle,R1⟩:=up1_ok R hv
   obtain ⟨g2,v2,R2,hle2,hk⟩:=upK_le us v1 g1 K R1 h
   exact ⟨g2,v2,R2,hle.trans hle2,hk⟩
  cases u with
  |relab R' E N dr m=>
   obtain ⟨e,H,n⟩:=vs
   simp only [upK] at h
   rw [pushU_iff] at h
   obtain ⟨g1,hle,R1⟩:=rel_relab R h.1
   obtain ⟨g2,v2,R2,hle2,hk⟩:=upK_le us _ g1 K R1 h.2
   exact ⟨g2,v2,R2,hle.trans hle2,hk⟩
  |slot t cs=>
   simp only [upK] at h
   split at h
   ·rename_i v1 hv;exact key v1 hv h
   ·exact h.elim
  |cell hh j cs=>
   simp only [upK] at h
   split at h
   ·rename_i v1 hv;exact key v1 hv h
   ·exact h.elim
theorem upK_ok (us:List Up) (vs:VS) (g:G) (K:VS→Prop) (R:Rel C g vs a w) (h:upK us vs K):∃g1 v1,Rel C g1 v1 a w∧K v1:=
 let ⟨g1,v1,R1,_,hk⟩:=upK_le us vs g K R h;⟨g1,v1,R1,hk⟩
theorem rel_weak {v0:VS} {l:List Nat} (R:Rel C g vs a w) (hw:Weak C.n0 l vs v0):∃g0,Rel C g0 v0 a w:=by
 obtain ⟨g0,hB,h1,h2,h3,h4,h5,h6⟩:=renumber R hw.ids hw.heap
 exact ⟨g0,fun t sv ht=>Rv.back hB sv _ (R.env t _ (weakEnv_ok _ _ hw.env t sv ht)),R.size,R.defers,h1,h2,h3,h4,h5,R.fr,h6⟩
theorem vcode_ok (hm:P.follows .mixedOrders=true) (hT:TabOk P T):∀(c:Code) (vs:VS) (g:G) (a:Act) (w:World) (K:Exit→VS→Prop) (Q:Exit→Act→World→Prop),codeOk C.N c=true→Rel C g vs a w→vcode P T C.n0 c vs K→
  (∀e vs' g' a' w',K e vs'→Rel C g' vs' a' w'→Q e a' w')→c.wp P Q a w
 | .skip,vs,g,a,w,K,Q,_,R,h,hq=>wp_skip (hq _ _ _ _ _ h R)
 | .region id ops draw,vs,g,a,w,K,Q,ho,R,h,hq=>by
   simp only [codeOk,Bool.and_eq_true] at ho
   simp only [vcode] at h
   cases draw with
   |false=>exact wp_region_list (vops_ok hT ops.toList vs g a w (K .normal) ho.1 R h (fun vs' g' a' w' k1 k2=>hq .normal vs' g' a' w' k1 k2))
   |true=>
    have hdr:drawOk ops.toList=true:=by simpa using ho.2
    exact region_any hm hT (draw_of hdr) ho.1 R h (fun vs' g' a' w' k1 k2=>hq .normal vs' g' a' w' k1 k2)
 | .seq x y,vs,g,a,w,K,Q,ho,R,h,hq=>by
   simp only [codeOk,Bool.and_eq_true] at ho
   simp only [vcode] at h
   refine wp_seq (vcode_ok hm hT x vs g a w _ _ ho.1 R h ?_)
   intro e vs' g' a' w' k1 k2
   cases e with
   |normal=>exact vcode_ok hm hT y vs' g' a' w' K Q ho.2 k2 k1 hq
   |_=>exact hq _ _ _ _ _ k1 k2
 | .cond c x y,vs,g,a,w,K,Q,ho,R,h,hq=>by
   simp only [codeOk,Bool.and_eq_true] at ho
   simp only [vcode] at h
   split at h
   ·rename_i t b hb
    obtain ⟨e,H,n⟩:=vs
    have hv:a.eval (.tmp t)= .bool b:=rbv (gv_ok R.glob R.env hb)
    refine wp_cond_split hv (fun e'=> ?_) (fun e'=> ?_)
    ·subst e'
     exact vcode_ok hm hT x _ g a w K Q ho.1 (rel_learn R hb) ((br_elim h).1 rfl) hq
    ·subst e'
     exact vcode_ok hm hT y _ g a w K Q ho.2 (rel_learn R hb) ((br_elim h).2 rfl) hq
   ·refine wp_cond_split (t:=true) rfl (fun _=>vcode_ok hm hT x _ g a w K Q ho.1 R h hq) (fun e'=>by cases e')
   ·refine wp_cond_split (t:=false) rfl (fun e'=>by cases e') (fun _=>vcode_ok hm hT y _ g a w K Q ho.2 R h hq)
   ·exact h.elim
 | .block id c,vs,g,a,w,K,Q,ho,R,h,hq=>by
   simp only [codeOk] at ho
   simp only [vcode] at h
   refine wp_block (vcode_ok hm hT c vs g a w _ _ ho R h ?_)
   intro e vs' g' a' w' k1 k2
   cases e with
   |exit i=>
    simp only [Exit.inBlock]
    by_cases hi:i=id
    ·subst hi
     rw [if_pos rfl]
     have hbb:Nat.beq i i=true:=Nat.beq_refl i
     simp only [blockC,hbb,cond_true] at k1
     exact hq _ _ _ _ _ k1 k2
    ·rw [if_neg hi]
     have:Nat.beq i id=false:=by
      cases hb:Nat.beq i id with
      |true=>exact absurd (Nat.eq_of_beq_eq_true hb) hi
      |false=>rfl
     simp only [blockC,this,cond_false] at k1
     exact hq _ _ _ _ _ k1 k2
   |_=>exact hq _ _ _ _ _ k1 k2
 | .loop c,vs,g,a,w,K,Q,ho,R,h,hq=>by
   simp only [codeOk] at ho
   simp only [vcode,vloop] at h
   obtain ⟨α,st,inv,μ,x0,l0,u0,hw,hI,hr⟩:=h
   obtain ⟨gu,vu,Ru,hw⟩:=upK_ok u0 vs g _ R hw
   obtain ⟨g0,R0⟩:=rel_weak Ru hw
   refine wp_loop_idx (fun n a w=>∃x g',μ x=n∧inv x∧Rel C g' (st x) a w) (μ x0) ⟨x0,g0,rfl,hI,R0⟩ ?_
   rintro n a1 w1 ⟨x,g1,rfl,hx,R1⟩
   refine vcode_ok hm hT c (st x) g1 a1 w1 _ _ ho R1 (hr x hx) ?_
   intro e vs' g' a' w' k1 k2
   cases e with
   |normal=>
    obtain ⟨y,l,u,h1,h2,h3⟩:=k1
    obtain ⟨gu,vu,Ru,h3⟩:=upK_ok u vs' g' _ k2 h3
    obtain ⟨g2,R2⟩:=rel_weak Ru h3
    exact ⟨μ y,h2,y,g2,rfl,h1,R2⟩
   |_=>exact hq _ _ _ _ _ k1 k2
 | .exit id,vs,g,a,w,K,Q,_,R,h,hq=>wp_exit (hq _ _ _ _ _ h R)
 | .label _,vs,g,a,w,K,Q,_,R,h,hq=>wp_label (hq _ _ _ _ _ h R)
 | .scope c,vs,g,a,w,K,Q,hok,R,h,hq=>by
   simp only [vcode] at h
   simp only [codeOk] at hok
   refine wp_scope_straight (vcode_ok hm hT c vs g a w _ _ hok R h ?_)
   intro e vs' g' a' w' h1 h2
   cases e<;>first|exact h1.elim|exact hq _ _ _ _ _ h1 h2
 | .ret,vs,g,a,w,K,Q,_,R,h,hq=>wp_ret (hq _ _ _ _ _ h R)
 | .rangeFunc _ _ _ _,vs,g,a,w,K,Q,_,R,h,hq=>by simp only [vcode] at h
 | .goto _,vs,g,a,w,K,Q,_,R,h,hq=>by simp only [vcode] at h
 | .refuse _,vs,g,a,w,K,Q,_,R,h,hq=>by simp only [vcode] at h
def resOf (tmps:Array Value):ResultVar→Sem Value
 | .tmp t=>pure (tmps.getD t undef)
 | .cell a t=>do loadVar t (←asAddr (tmps.getD a undef))
theorem resK_ok (hT:TabOk P T) (R:Rel C g vs a w):∀(rs:List ResultVar) (K:List SV→Prop),resK T vs rs K→
  ∃svs vals,K svs∧Rvs g svs vals∧(rs.mapM (m:=Sem) (resOf a.tmps)).run P w= .ok vals w
 | [],K,h=>⟨[],[],h,by simp [Rvs],by simp⟩
 | .tmp t::rs,K,h=>by
   simp only [resK] at h
   split at h
   ·rename_i v hv
    obtain ⟨svs,vals,h1,h2,h3⟩:=resK_ok hT R rs _ h
    refine ⟨v::svs,a.tmps.getD t undef::vals,h1,by simp only [Rvs];exact ⟨_,_,rfl,R.env t v hv,h2⟩,?_⟩
    simp only [List.mapM_cons,resOf,Sem.run_bind,Sem.run_pure,Result.andThen_ok,h3]
   ·exact h.elim
 | .cell x ty::rs,K,h=>by
   simp only [resK] at h
   split at h
   ·rename_i hd q i j ti hx hti
    obtain ⟨sv,U,b,t,h1,h2⟩:=resP_is h
    obtain ⟨svs,vals,k1,k2,k3⟩:=resK_ok hT R rs _ h2
    have hld:(eff T vs vs.next (.load ty (.tmp x))).is sv U b t:=by
     simp only [eff,gv,hx,hti];exact h1
    obtain ⟨rfl,rfl,v,hr,hy⟩:=load_look hT R.glob R.env R.heap hld
    obtain ⟨β,hβ,hpv⟩:=rpv (R.env x _ hx)
    have hran:=hy ⟨none,.load ty (.tmp x),ty,"",#[],none⟩ rfl
    have hrun:(loadVar ty (β.addr i j)).run P w= .ok v w:=by
     simp only [execOp,Instr.loadAt,Act.eval,hpv,Instr.sureAddr,Sem.run_bind,Sem.run_pure,Result.andThen_ok] at hran
     cases hl:(loadVar ty (β.addr i j)).run P w with
     |ok u w1=>rw [hl] at hran;simp only [Result.andThen_ok] at hran;cases hran;rfl
     |halt hh w1=>rw [hl] at hran;simp [Result.andThen] at hran
    refine ⟨sv::svs,v::vals,k1,by simp only [Rvs];exact ⟨_,_,rfl,hr,k2⟩,?_⟩
    simp only [List.mapM_cons,resOf,Sem.run_bind,Sem.run_pure,Result.andThen_ok,hpv,asAddr,hrun,k3]
   ·exact h.elim
theorem results_eq (fn:Func) (tmps:Array Value):results fn tmps=(do let vs←fn.results.mapM (resOf tmps);pure (if h:vs.size=1 then vs[0] else .tuple vs)):=by
 have:(fun (r:ResultVar)=>match r with| .tmp t=>(pure (tmps.getD t undef):Sem Value)| .cell a t=>do loadVar t (←asAddr (tmps.getD a undef)))=resOf tmps:=by
  funext r;cases r<;>rfl
 unfold results
 rw [←this]
 rfl
theorem envOf_ok:∀(args:List SV) (vals:List Value) (i:Nat),Rvs g args vals→∀t sv,aget (envOf i args) t=some sv→i≤t∧∃v,vals[t-i]?=some v∧Rv g sv v
 | [],vals,i,_,t,sv,h=>by simp [envOf,aget] at h
 |s::args,vals,i,hr,t,sv,h=>by
  simp only [Rvs] at hr
  obtain ⟨v,vs',e,h1,h2⟩:=hr
  subst e
  simp only [envOf] at h
  rw [aget_cons] at h
  split at h
  ·rename_i e;subst e;simp only [Option.some.injEq] at h;subst h
   exact ⟨Nat.le_refl _,v,by simp,h1⟩
  ·rename_i hne
   obtain ⟨k1,u,k2,k3⟩:=envOf_ok args vs' (i+1) h2 t sv h
   refine ⟨by omega,u,?_,k3⟩
   rw [show t-i=(t-(i+1))+1 from by omega]
   simpa using k2
theorem results_ok (hT:TabOk P T) (R:Rel C g vs a w) {fn:Func} {K:List SV→Prop} (h:resK T vs fn.results.toList K):
  ∃svs v,K svs∧Rv g (oneOr svs) v∧(results fn a.tmps).run P w= .ok v w:=by
 obtain ⟨svs,vals,h1,h2,h3⟩:=resK_ok hT R fn.results.toList K h
 rw [results_eq]
 have hrun:(fn.results.mapM (m:=Sem) (resOf a.tmps)).run P w= .ok vals.toArray w:=by
  rw [Array.mapM_eq_mapM_toList,Sem.run_map,h3];rfl
 simp only [Sem.run_bind,hrun,Result.andThen_ok,Sem.run_pure]
 refine ⟨svs,_,h1,?_,rfl⟩
 match svs,h2 with
 | [],h2=>
   simp only [Rvs] at h2;subst h2
   simp only [oneOr,Rv]
   exact ⟨#[],by simp,by simp [Rvs]⟩
 | [s],h2=>
   simp only [Rvs] at h2
   obtain ⟨v,vs',e,r,e2⟩:=h2
   subst e2;subst e
   simpa [oneOr] using r
 |s::t::r,h2=>
  have hl:=Rvs.length _ _ h2
  simp only [oneOr,Rv]
  refine ⟨vals.toArray,?_,by simpa using h2⟩
  rw [dif_neg (by simp [hl])]
theorem fc_of (hm:P.follows .mixedOrders=true) (hT:TabOk P T) {n:Nat} {f:FuncId} {fn:Func} {c:Code} (hf:P.funcs[f]?=some fn) (hb:fn.body=some c) (hname:(fn.name=="runtime.NumGoroutine")=false) {args:List SV} {H:Heap} {post:SV→Heap→Nat→Prop}
  (hN:Nat.ble args.length fn.ntmps=true) (hok:codeOk fn.ntmps c=true) (h:vcode P T n c ⟨envOf 0 args,H,n⟩ (retK T n fn.results.toList post)):FC P n f args H post:=by
 refine .inl ⟨⟨fn,c,hf,hb,hname⟩,?_⟩
 intro g w vals hg hup hH hv
 refine calls_of_wp hf hb ?_
 have hlen:=Rvs.length _ _ hv
 have hNle:=Nat.le_of_ble_eq_true hN
 let C:Ctx:=⟨g,n,w,Wset g H,fn.ntmps,[]⟩
 have R:Rel C g ⟨envOf 0 args,H,n⟩ { tmps:=vals.toArray++Array.replicate (fn.ntmps-vals.toArray.size) undef,defers:= []} w:=by
  refine ⟨?_,?_,rfl,hg,hup,Nat.le_refl _,fun _ _ _=>rfl,hH,Fr.refl _ _,fun h q b β he hgb hc=> .inl ⟨h,q,b,β,he,hgb,hc,rfl⟩⟩
  ·intro t sv ht
   obtain ⟨_,v,h1,h2⟩:=envOf_ok args vals 0 hv t sv ht
   have hlt:t<vals.length:=by
    rcases Nat.lt_or_ge t vals.length with h|h
    ·exact h
    ·simp only [Nat.sub_zero] at h1;rw [List.getElem?_eq_none h] at h1;cases h1
   have e:(vals.toArray++Array.replicate (fn.ntmps-vals.toArray.size) undef).getD t undef=v:=by
    rw [Array.getD_eq_getD_getElem?,Array.getElem?_append_left (by simpa using hlt)]
    simp only [Nat.sub_zero] at h1
    simp [h1]
   show Rv g sv ((vals.toArray++Array.replicate (fn.ntmps-vals.toArray.size) undef).getD t undef)
   rw [e];exact h2
  ·show (vals.toArray++Array.replicate (fn.ntmps-vals.toArray.size) undef).size=fn.ntmps
   simp;omega
 refine vcode_ok (C:=C) hm hT c _ g _ w _ _ hok R h ?_
 intro e vs' g' a' w' hk hR
 have fin:resK T vs' fn.results.toList (fun l=>retP n post (oneOr l) vs')→bodyPost P fn (fun e w'=>∃v,e= .returned v∧Out g w n H post v w') .ret a' w':=by
  intro hk
  obtain ⟨svs,v,h1,h2,h3⟩:=results_ok hT hR hk
  obtain ⟨l,u,r0,H0,n1,hu,hp⟩:=h1
  obtain ⟨gu,vu,Ru,hle,ro⟩:=upK_le u vs' g' _ hR hu
  obtain ⟨g0,hB,k1,k2,k3,k4,k5,k6⟩:=renumber Ru ro.ids ro.heap
  exact ⟨hR.defers,v,h3,v,rfl,r0,H0,n1,g0,hp,k3,k2,k4,Rv.back hB r0 v (by rw [←ro.res];exact Rv.mono hle _ _ h2),k5,ro.rw,Ru.fr,k6⟩
 cases e with
 |normal=>exact fin hk
 |ret=>exact fin hk
 |_=>exact hk.elim
end
end Go.Sy
