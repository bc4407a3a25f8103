/- Symbolic execution is right: values, entries of heaps, one step of a heap. No program in sight. -/
import Derived.Test.YtlankgapiecloaaGreatDoorYDef
import Derived.ChangeKeysEq
import Derived.IntWalk
namespace Go.Sy
open Go.RowKit
mutual
theorem Rv.mono {g g':G} (h:G.le g g'):∀(sv:SV) (v:Value),Rv g sv v→Rv g' sv v
 | .bool _,_,r=>by simp only [Rv] at r⊢;exact r
 | .int _ _,_,r=>by simp only [Rv] at r⊢;exact r
 | .str _,_,r=>by simp only [Rv] at r⊢;exact r
 | .ptr a q i j,v,r=>by simp only [Rv] at r⊢;obtain ⟨β,e,k⟩:=r;exact ⟨β,h _ _ _ e,k⟩
 | .nptr,_,r=>by simp only [Rv] at r⊢;exact r
 | .sl a q i n,v,r=>by
   simp only [Rv] at r⊢
   obtain ⟨ad,c,e,hn,k⟩:=r
   refine ⟨ad,c,e,hn,?_⟩
   rcases k with k|⟨β,hb,k1,k2⟩
   ·exact .inl k
   ·exact .inr ⟨β,h _ _ _ hb,k1,k2⟩
 | .nsl,_,r=>by simp only [Rv] at r⊢;exact r
 | .zsl,_,r=>by simp only [Rv] at r⊢;exact r
 | .map a q,v,r=>by simp only [Rv] at r⊢;obtain ⟨β,e,k⟩:=r;exact ⟨β,h _ _ _ e,k⟩
 | .nmap,_,r=>by simp only [Rv] at r⊢;exact r
 | .fn f l,v,r=>by simp only [Rv] at r⊢;obtain ⟨vs,e,k⟩:=r;exact ⟨vs,e,Rvs.mono h l _ k⟩
 | .iface t s,v,r=>by simp only [Rv] at r⊢;obtain ⟨u,e,k⟩:=r;exact ⟨u,e,Rv.mono h s _ k⟩
 | .nif,_,r=>by simp only [Rv] at r⊢;exact r
 | .agg l,v,r=>by simp only [Rv] at r⊢;obtain ⟨vs,e,k⟩:=r;exact ⟨vs,e,Rvs.mono h l _ k⟩
 | .arr n l,v,r=>by simp only [Rv] at r⊢;exact r
 | .tup l,v,r=>by simp only [Rv] at r⊢;obtain ⟨vs,e,k⟩:=r;exact ⟨vs,e,Rvs.mono h l _ k⟩
 | .raw _,_,r=>by simp only [Rv] at r⊢;exact r
 | .unk,_,_=>by simp only [Rv]
theorem Rvs.mono {g g':G} (h:G.le g g'):∀(l:List SV) (vs:List Value),Rvs g l vs→Rvs g' l vs
 | [],_,r=>by simp only [Rvs] at r⊢;exact r
 |s::ss,vs,r=>by
  simp only [Rvs] at r⊢
  obtain ⟨v,vs',e,h1,h2⟩:=r
  exact ⟨v,vs',e,Rv.mono h s v h1,Rvs.mono h ss vs' h2⟩
end
theorem rvi {g:G} {k:IntKind} {n:Int}:Rv g (.int k n) (.int k n):=by simp only [Rv]
theorem rvb {g:G} {b:Bool}:Rv g (.bool b) (.bool b):=by simp only [Rv]
theorem rvt {g:G} {b:ByteArray}:Rv g (.str b) (.string b):=by simp only [Rv]
theorem G.le.refl (g:G):G.le g g:=fun _ _ _ h=>h
theorem G.le.trans {a b c:G} (h:G.le a b) (k:G.le b c):G.le a c:=fun _ _ _ hx=>k _ _ _ (h _ _ _ hx)
theorem Rvs.length {g:G}:∀(l:List SV) (vs:List Value),Rvs g l vs→vs.length=l.length
 | [],vs,r=>by simp only [Rvs] at r;simp [r]
 |s::ss,vs,r=>by
  simp only [Rvs] at r
  obtain ⟨v,vs',e,_,h2⟩:=r
  simp [e,Rvs.length ss vs' h2]
theorem nth_eq {α:Type} (l:List α) (i:Nat):nth l i=l[i]?:=by
 induction l generalizing i with
 |nil=>simp [nth]
 |cons x l ih=>cases i with
  |zero=>simp [nth]
  |succ i=>simp [nth,ih]
theorem Rvs.nth {g:G}:∀(l:List SV) (vs:List Value) (i:Nat) (sv:SV),Rvs g l vs→nth l i=some sv→∃v,vs[i]?=some v∧Rv g sv v
 | [],vs,i,sv,_,h=>by simp [Sy.nth] at h
 |s::ss,vs,i,sv,r,h=>by
  simp only [Rvs] at r
  obtain ⟨v,vs',e,h1,h2⟩:=r
  subst e
  cases i with
  |zero=>simp [Sy.nth] at h;subst h;exact ⟨v,by simp,h1⟩
  |succ i=>simp only [Sy.nth] at h;obtain ⟨u,hu,hr⟩:=Rvs.nth ss vs' i sv h2 h;exact ⟨u,by simpa using hu,hr⟩
theorem cv_ok (g:G) (v:Value):Rv g (cv v) v:=by
 unfold cv
 split<;>simp [Rv]
theorem cvs_ok (g:G):∀l:List Value,Rvs g (l.map cv) l
 | []=>by simp [Rvs]
 |v::l=>by simp only [List.map_cons,Rvs];exact ⟨v,l,rfl,cv_ok g v,cvs_ok g l⟩
theorem Col.at_ok (g:G) (c:Col) (i:Nat):Rv g (c.at i) (c.val i):=by cases c<;>simp [Col.at,Col.val,Rv]
def EnvOk (g:G) (vs:VS) (a:Act):Prop:=∀t sv,aget vs.env t=some sv→Rv g sv (a.tmps.getD t undef)
theorem gv_ok {g:G} {vs:VS} {a:Act} (hg:g.glob) (h:EnvOk g vs a) {x:Operand} {sv:SV} (hx:gv vs x=some sv):Rv g sv (a.eval x):=by
 cases x with
 |tmp t=>exact h t sv hx
 |const v=>simp only [gv,Option.some.injEq] at hx;subst hx;exact cv_ok g v
 |global n=>
  simp only [gv,Option.some.injEq] at hx
  subst hx
  obtain ⟨es,cap,e⟩:=hg n
  simp only [Rv]
  exact ⟨_,e,by simp [Act.eval,Base.addr]⟩
 |func f=>simp only [gv,Option.some.injEq] at hx;subst hx;simp [Rv,Rvs,Act.eval]
theorem gvs_ok {g:G} {vs:VS} {a:Act} (hg:g.glob) (R:EnvOk g vs a):∀(xs:List Operand) (l:List SV),gvs vs xs=some l→Rvs g l (xs.map a.eval)
 | [],l,h=>by simp only [gvs,Option.some.injEq] at h;subst h;simp [Rvs]
 |x::xs,l,h=>by
  simp only [gvs] at h
  split at h
  ·rename_i v hv
   split at h
   ·rename_i l' hl'
    simp only [Option.some.injEq] at h
    subst h
    simp only [Rvs,List.map_cons]
    exact ⟨_,_,rfl,gv_ok hg R hv,gvs_ok hg R xs l' hl'⟩
   ·cases h
  ·cases h
theorem ikEq_ok {a b:IntKind} (h:ikEq a b=true):a=b:=by
 revert h
 cases a<;>cases b<;>simp [ikEq]
theorem beq_toList_eq (a b:ByteArray):(a.toList==b.toList)=decide (a=b):=by
 rw [←beq_toListBytes]
 by_cases h:a=b
 ·subst h
  rw [beq_toListBytes];simp
 ·have:(a==b)=false:=by
   rw [beq_toListBytes,ByteArray.toList_eq,ByteArray.toList_eq]
   obtain ⟨⟨x⟩⟩:=a
   obtain ⟨⟨y⟩⟩:=b
   simp_all
  simp [this,h]
theorem aget_cons {α:Type} (k x:Nat) (v:α) (r:List (Nat×α)):aget ((k,v)::r) x=if k=x then some v else aget r x:=by
 simp only [aget]
 by_cases h:k=x
 ·subst h;simp
 ·have:Nat.beq k x=false:=by
   cases hb:Nat.beq k x with
   |true=>exact absurd (Nat.eq_of_beq_eq_true hb) h
   |false=>rfl
  simp [this,h]
theorem hget_cons (k x:Nat) (v:Option HB) (r:Heap):hget ((k,v)::r) x=if k=x then v else hget r x:=by
 simp only [hget]
 by_cases h:k=x
 ·subst h;simp
 ·have:Nat.beq k x=false:=by
   cases hb:Nat.beq k x with
   |true=>exact absurd (Nat.eq_of_beq_eq_true hb) h
   |false=>rfl
  simp [this,h]
theorem Ent.fn {H:Heap} {h q:Nat} {ro ro':Bool} {b b':Blk} (x:Ent H h q ro b) (y:Ent H h q ro' b'):ro=ro'∧b=b':=by
 obtain ⟨hb,h1,h2,h3⟩:=x
 obtain ⟨hb',k1,k2,k3⟩:=y
 rw [h1] at k1
 cases k1
 refine ⟨h3.symm.trans k3,?_⟩
 cases hb<;>simp only [HB.is] at h2 k2
 ·rw [h2.2,k2.2]
 ·rw [h2.2,k2.2]
theorem ent_cons {k:Nat} {v:Option HB} {H:Heap} {h q:Nat} {ro:Bool} {b:Blk}:Ent ((k,v)::H) h q ro b↔(k=h∧∃hb,v=some hb∧hb.is q b∧hb.ro=ro)∨(k≠h∧Ent H h q ro b):=by
 unfold Ent
 rw [hget_cons]
 by_cases e:k=h
 ·simp [e]
 ·simp [e]
theorem Res.is_guard {c:Prop} {R:Res} {r:SV} {U:Heap} {b:Nat} {t:List Nat}:(R.guard c).is r U b t↔c∧R.is r U b t:=by
 cases R<;>simp [Res.guard,Res.is,and_assoc]
theorem onBlk_ok {H:Heap} {h q:Nat} {F:Bool→Blk→Res} {r:SV} {U:Heap} {b:Nat} {t:List Nat} (hr:(onBlk H h q F).is r U b t):∃ro bl,Ent H h q ro bl∧(F ro bl).is r U b t:=by
 unfold onBlk at hr
 split at hr
 ·rename_i ro bl hh
  split at hr
  ·exact ⟨ro,bl,⟨_,hh,⟨rfl,rfl⟩,rfl⟩,hr⟩
  ·exact hr.elim
 ·rename_i ro dom f hh
  rw [Res.is_guard] at hr
  exact ⟨ro,f q,⟨_,hh,⟨hr.1,rfl⟩,rfl⟩,hr.2⟩
 ·exact hr.elim
theorem elt_ok {b:Blk} {i:Nat} {R:Res} {r:SV} {U:Heap} {n:Nat} {t:List Nat} (hr:(b.elt i R).is r U n t):b.has i∧R.is r U n t:=by
 unfold Blk.elt at hr
 split at hr
 ·split at hr
  ·exact ⟨rfl,hr⟩
  ·exact hr.elim
 ·rw [Res.is_guard] at hr;exact hr
 ·exact hr.elim
theorem addr_add (β:Base) (i j k:Nat):(β.addr i j).add k=β.addr i (j+k):=by
 unfold Addr.add Base.addr
 split
 ·rename_i h;subst h;rfl
 ·simp [Nat.add_assoc]
theorem addr_add_es (β:Base) (i k:Nat):(β.addr i 0).add (k*β.es)=β.addr (i+k) 0:=by
 rw [addr_add]
 unfold Base.addr
 simp only [Nat.add_zero,Nat.zero_add,Nat.add_mul]
 congr 1
 omega
structure After (g:G) (H:Heap) (nx:Nat) (w:World) (r:SV) (U:Heap) (b:Nat) (g':G) (v:Value) (w':World):Prop where
 le:G.le g g'
 born:∀h q,g h q=none→¬(nx≤h∧h<nx+b)→g' h q=none
 rv:Rv g' r v
 heap:Holds g' (U++H) w'
 fr:Fr (Wset g H) w w'
 own:Owns g' (U++H) (Wset g H) w
theorem Fr.refl (W:Nat→Prop) (w:World):Fr W w w:=⟨rfl,rfl,rfl,Nat.le_refl _,fun _ _ _=>rfl⟩
theorem after_look {g:G} {H:Heap} {nx:Nat} {w:World} {r:SV} {v:Value} (hH:Holds g H w) (hr:Rv g r v):After g H nx w r [] 0 g v w:=
 ⟨G.le.refl g,fun _ _ h _=>h,hr,hH,Fr.refl _ _,fun h q b β he hg hc=> .inl ⟨h,q,b,β,he,hg,hc,rfl⟩⟩
def Blk.plain:Blk→Prop
 | .obj _=>False
 |_=>True
theorem plain_ok {b:Blk} (h:b.plain) {g:G} {w:World} {β:Base}:b.Ok g w β:=by
 cases b<;>first|trivial|exact h.elim
theorem objOk_mono {g g':G} {β:Base} {o:ObjS} {w w':World} (h:o.Ok g w β) (hg:G.le g g') (hw:w'.heap[β.blk]?=w.heap[β.blk]?):o.Ok g' w' β:=by
 cases o with
 |map ka ea n ks vs bs ck=>
  obtain ⟨es,e,m⟩:=h
  exact ⟨es,by rw [hw];exact e,m.size,m.kl,m.vl,m.bl,m.nd,m.lt,fun i x hx=>⟨(m.row i x hx).1,(m.row i x hx).2.1,Rv.mono hg _ _ (m.row i x hx).2.2⟩⟩
 |iter h0 q bs ck sn=>obtain ⟨β',e1,e,e2⟩:=h;exact ⟨β',hg _ _ _ e1,by rw [hw];exact e,e2⟩
 |niter=>obtain ⟨a,b,c,e⟩:=h;exact ⟨a,b,c,by rw [hw];exact e⟩
 |siter s p=>exact hw.trans h
 |bld0 T=>exact hw.trans h
 |bld T h0 q n=>obtain ⟨β',e1,e⟩:=h;exact ⟨β',hg _ _ _ e1,hw.trans e⟩
 |brow T s=>obtain ⟨c,e,k⟩:=h;exact ⟨c,hw.trans e,k⟩
 |bag Q=>obtain ⟨a,c,v,n,es,hq,e,k⟩:=h;exact ⟨a,c,v,n,es,hq,hw.trans e,k⟩
theorem blkOk_mono {g g':G} {β:Base} {b:Blk} {w w':World} (h:b.Ok g w β) (hg:G.le g g') (hw:0<β.cap→w'.heap[β.blk]?=w.heap[β.blk]?):b.Ok g' w' β:=by
 cases b with
 |obj o=>exact ⟨h.1,h.2.1,objOk_mono h.2.2 hg (hw h.1)⟩
 |_=>trivial
theorem blkAt_mono {g g':G} {β:Base} {ro:Bool} {b:Blk} {w w':World} (h:BlkAt g β ro b w) (hg:G.le g g') (hs:w.heap.size≤w'.heap.size) (hw:0<β.cap→w'.heap[β.blk]?=w.heap[β.blk]?):BlkAt g' β ro b w':=by
 refine ⟨fun hl=>Nat.lt_of_lt_of_le (h.lt hl) hs,h.es,h.len,h.cap,?_,?_,?_,blkOk_mono h.obj hg hw⟩
 ·intro i j sv hi hj
  have hc:=h.cap i hi
  obtain ⟨v,h1,h2⟩:=h.cell i j sv hi hj
  exact ⟨v,by rw [World.cell?_of_block (w:=w) (a:=β.addr i j) (hw (by omega))];exact h1,Rv.mono hg _ _ h2⟩
 ·intro i j v hi hj hv
  have hc:=h.cap i hi
  rw [World.cell?_of_block (w:=w) (a:=β.addr i j) (hw (by omega))] at hv
  exact h.one i j v hi hj hv
 ·intro hr i j hi hj
  obtain ⟨h1,v,h2⟩:=h.rw hr i j hi hj
  have:=hw (by omega)
  exact ⟨by rw [World.frozen?_of_block (w:=w) (a:=β.addr i j) this];exact h1,v,by rw [World.cell?_of_block (w:=w) (a:=β.addr i j) this];exact h2⟩
theorem after_one {g g':G} {H U:Heap} {nx b:Nat} {w w':World} {r:SV} {v:Value} {h1 q1:Nat} {b1:Blk} {β1:Base} (hH:Holds g H w) (hle:G.le g g') (hborn:∀h q,g h q=none→¬(nx≤h∧h<nx+b)→g' h q=none) (hrv:Rv g' r v)
  (ent:∀h q ro b,Ent (U++H) h q ro b→(h=h1∧q=q1∧ro=false∧b=b1)∨(¬(h=h1∧q=q1)∧Ent H h q ro b))
  (hg1:g' h1 q1=some β1) (hB:BlkAt g' β1 false b1 w')
  (org:0<β1.cap→w.heap.size≤β1.blk∨∃h0 q0 b0 β0,Ent H h0 q0 false b0∧g h0 q0=some β0∧0<β0.cap∧β0.blk=β1.blk∧∀h q ro b,Ent (U++H) h q ro b→¬(h=h1∧q=q1)→¬(h=h0∧q=q0))
  (os:w'.os=w.os) (tape:w'.tape=w.tape) (out:w'.output=w.output) (size:w.heap.size≤w'.heap.size) (blk:∀k,k<w.heap.size→¬(0<β1.cap∧k=β1.blk)→w'.heap[k]?=w.heap[k]?):After g H nx w r U b g' v w':=by
 have apart:∀h q ro bb β,Ent (U++H) h q ro bb→¬(h=h1∧q=q1)→Ent H h q ro bb→g h q=some β→0<β.cap→0<β1.cap→β1.blk≠β.blk:=by
  intro h q ro bb β he hne heH hg hc hc1
  rcases org hc1 with ho|⟨h0,q0,b0,β0,he0,hg0,hc0,eb,hno⟩
  ·obtain ⟨β',e',hB'⟩:=hH.blk h q ro bb heH
   rw [hg] at e';cases e'
   have:=hB'.lt hc
   omega
  ·rw [←eb]
   exact hH.sep h0 q0 h q b0 ro bb β0 β (fun e=>hno h q ro bb he hne ⟨e.1.symm,e.2.symm⟩) he0 heH hg0 hg hc0 hc
 refine ⟨hle,hborn,hrv,⟨?_,?_⟩,⟨os,tape,out,size,?_⟩,?_⟩
 ·intro h q ro bb he
  rcases ent h q ro bb he with ⟨rfl,rfl,rfl,rfl⟩|⟨hne,heH⟩
  ·exact ⟨β1,hg1,hB⟩
  ·obtain ⟨β,hg,hB'⟩:=hH.blk h q ro bb heH
   refine ⟨β,hle _ _ _ hg,blkAt_mono hB' hle size (fun hc=>blk _ (hB'.lt hc) ?_)⟩
   rintro ⟨hc1,e⟩
   exact apart h q ro bb β he hne heH hg hc hc1 e.symm
 ·intro h q h' q' bb ro' bb' β β' hne he he' hg hg' hc hc'
  rcases ent h q false bb he with ⟨rfl,rfl,_,rfl⟩|⟨hn,heH⟩
  ·rcases ent h' q' ro' bb' he' with ⟨e1,e2,_⟩|⟨hn',heH'⟩
   ·exact absurd ⟨e1.symm,e2.symm⟩ hne
   ·rw [hg1] at hg;cases hg
    obtain ⟨β2,hg2,_⟩:=hH.blk h' q' ro' bb' heH'
    have:=hle _ _ _ hg2
    rw [hg'] at this;cases this
    exact apart h' q' ro' bb' β' he' hn' heH' hg2 hc' hc
  ·obtain ⟨β2,hg2,_⟩:=hH.blk h q false bb heH
   have e2:=hle _ _ _ hg2
   rw [hg] at e2;cases e2
   rcases ent h' q' ro' bb' he' with ⟨rfl,rfl,_,rfl⟩|⟨hn',heH'⟩
   ·rw [hg1] at hg';cases hg'
    exact (apart h q false bb β he hn heH hg2 hc hc').symm
   ·obtain ⟨β3,hg3,_⟩:=hH.blk h' q' ro' bb' heH'
    have e3:=hle _ _ _ hg3
    rw [hg'] at e3;cases e3
    exact hH.sep h q h' q' bb ro' bb' β β' hne heH heH' hg2 hg3 hc hc'
 ·intro k hk hW
  refine blk k hk ?_
  rintro ⟨hc1,e⟩
  rcases org hc1 with ho|⟨h0,q0,b0,β0,he0,hg0,hc0,eb,_⟩
  ·omega
  ·exact hW ⟨h0,q0,b0,β0,he0,hg0,hc0,by rw [eb,e]⟩
 ·intro h q bb β he hg hc
  rcases ent h q false bb he with ⟨rfl,rfl,_,rfl⟩|⟨hn,heH⟩
  ·rw [hg1] at hg;cases hg
   rcases org hc with ho|⟨h0,q0,b0,β0,he0,hg0,hc0,eb,_⟩
   ·exact .inr ho
   ·exact .inl ⟨h0,q0,b0,β0,he0,hg0,hc0,eb⟩
  ·obtain ⟨β2,hg2,_⟩:=hH.blk h q false bb heH
   have e2:=hle _ _ _ hg2
   rw [hg] at e2;cases e2
   exact .inl ⟨h,q,bb,β,heH,hg2,hc,rfl⟩
def G.add (g:G) (n:Nat) (β:Base):G:=fun h q=>if h=n∧q=0 then some β else g h q
theorem G.le_add {g:G} {n:Nat} (β:Base) (hn:g n 0=none):G.le g (g.add n β):=by
 intro h q β' e
 unfold G.add
 split
 ·rename_i hh;rw [hh.1,hh.2,hn] at e;cases e
 ·exact e
theorem after_new {g:G} {H:Heap} {nx:Nat} {w w':World} {r:SV} {v:Value} {b1:Blk} {β1:Base} (hH:Holds g H w) (hn:∀q,g nx q=none) (hrv:Rv (g.add nx β1) r v)
  (hB:BlkAt (g.add nx β1) β1 false b1 w') (org:0<β1.cap→w.heap.size≤β1.blk)
  (os:w'.os=w.os) (tape:w'.tape=w.tape) (out:w'.output=w.output) (size:w.heap.size≤w'.heap.size) (blk:∀k,k<w.heap.size→w'.heap[k]?=w.heap[k]?):After g H nx w r [(nx,some (.one false b1))] 1 (g.add nx β1) v w':=by
 refine after_one (h1:=nx) (q1:=0) (b1:=b1) (β1:=β1) hH (G.le_add β1 (hn 0)) ?_ hrv ?_ (by simp [G.add]) hB (fun hc=> .inl (org hc)) os tape out size (fun k hk _=>blk k hk)
 ·intro h q hh hnn
  unfold G.add
  split
  ·rename_i e;exact absurd ⟨Nat.le_of_eq e.1.symm,by omega⟩ hnn
  ·exact hh
 ·intro h q ro b he
  simp only [List.cons_append,List.nil_append] at he
  rcases ent_cons.1 he with ⟨e,hb,e1,e2,e3⟩|⟨e,he⟩
  ·cases e1
   simp only [HB.is] at e2
   exact .inl ⟨e.symm,e2.1,e3.symm,e2.2⟩
  ·exact .inr ⟨fun x=>e x.1.symm,he⟩
theorem ent_set {H:Heap} {h q:Nat} {ro:Bool} {b b':Blk} (he:Ent H h q ro b):∃hb,hget H h=some hb∧setBlk H h q b'= [(h,some (hb.set q b'))]∧hb.ro=ro∧(hb.set q b').ro=ro∧∀x bb,(hb.set q b').is x bb↔(x=q∧bb=b')∨(x≠q∧hb.is x bb):=by
 obtain ⟨hb,e1,e2,e3⟩:=he
 refine ⟨hb,e1,setBlk_some e1,e3,?_,?_⟩
 ·cases hb<;>exact e3
 ·intro x bb
  cases hb with
  |one r b0=>
   simp only [HB.is] at e2
   simp only [HB.set,HB.is,e2.1]
   constructor
   ·rintro ⟨rfl,rfl⟩;exact .inl ⟨rfl,rfl⟩
   ·rintro (⟨rfl,rfl⟩|⟨h1,h2,_⟩)
    ·exact ⟨rfl,rfl⟩
    ·exact absurd h2 h1
  |fam r dom f=>
   simp only [HB.is] at e2
   simp only [HB.set,HB.is]
   by_cases hx:x=q
   ·subst hx;simp [e2.1]
   ·simp [hx]
theorem ent_drop {H:Heap} {h q:Nat} {ro:Bool} {b:Blk} (he:Ent H h q ro b):∃hb,hget H h=some hb∧dropBlk H h q= [(h,hb.drop q)]∧∀hb',hb.drop q=some hb'→hb'.ro=hb.ro∧∀x bb,hb'.is x bb→x≠q∧hb.is x bb:=by
 obtain ⟨hb,e1,e2,e3⟩:=he
 refine ⟨hb,e1,by simp [dropBlk,e1],?_⟩
 intro hb' e
 cases hb with
 |one r b0=>simp [HB.drop] at e
 |fam r dom f=>
  simp only [HB.drop,Option.some.injEq] at e
  subst e
  refine ⟨rfl,?_⟩
  intro x bb hx
  simp only [HB.is] at hx⊢
  exact ⟨hx.1.2,hx.1.1,hx.2⟩
theorem after_set {g:G} {H:Heap} {nx:Nat} {w w':World} {r:SV} {v:Value} {h q:Nat} {b b1:Blk} {β:Base} (hH:Holds g H w) (he:Ent H h q false b) (hg:g h q=some β) (hc:0<β.cap) (hrv:Rv g r v)
  (hB:BlkAt g β false b1 w')
  (os:w'.os=w.os) (tape:w'.tape=w.tape) (out:w'.output=w.output) (size:w.heap.size≤w'.heap.size) (blk:∀k,k<w.heap.size→k≠β.blk→w'.heap[k]?=w.heap[k]?):After g H nx w r (setBlk H h q b1) 0 g v w':=by
 obtain ⟨hb,e1,e2,e3,e4,e5⟩:=ent_set (b':=b1) he
 have ent:∀h' q' ro' b',Ent (setBlk H h q b1++H) h' q' ro' b'→(h'=h∧q'=q∧ro'=false∧b'=b1)∨(¬(h'=h∧q'=q)∧Ent H h' q' ro' b'):=by
  intro h' q' ro' b' hx
  rw [e2] at hx
  simp only [List.cons_append,List.nil_append] at hx
  rcases ent_cons.1 hx with ⟨e,hb',k1,k2,k3⟩|⟨e,hx⟩
  ·cases k1
   subst e
   rcases (e5 q' b').1 k2 with ⟨rfl,rfl⟩|⟨hne,hi⟩
   ·exact .inl ⟨rfl,rfl,k3.symm.trans e4,rfl⟩
   ·exact .inr ⟨fun x=>hne x.2,hb,e1,hi,e3.trans (e4.symm.trans k3)⟩
  ·exact .inr ⟨fun x=>e x.1.symm,hx⟩
 refine after_one (h1:=h) (q1:=q) (b1:=b1) (β1:=β) hH (G.le.refl g) (fun _ _ h _=>h) hrv ent hg hB (fun _=> .inr ⟨h,q,b,β,he,hg,hc,rfl,fun _ _ _ _ _ hn=>hn⟩) os tape out size ?_
 intro k hk hn
 exact blk k hk (fun e=>hn ⟨hc,e⟩)
end Go.Sy
