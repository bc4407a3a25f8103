/- Objects that are members of families: a new one is gathered with the old ones. No program in sight. -/
import Derived.Test.YtlankgapiecloaaGreatDoorYMem
import Derived.Test.YtlankgapiecloaaGreatDoorYGrp
namespace Go.Sy
open Go.RowKit
set_option linter.unusedVariables false
set_option linter.unusedSimpArgs false
theorem sle_ptr {n:Nat} {R:Nat→Nat→Option (Nat×Nat)} {h q h' q' i j:Nat} (hn:n≤h') (e:R h' q'=some (h,q)):SLe n R (.ptr h q i j) (.ptr h' q' i j):=by
 intro g g1 v hle hR hv
 simp only [Rv] at hv⊢
 obtain ⟨β,e1,e2⟩:=hv
 exact ⟨β,hR h' q' _ hn e β e1,e2⟩
theorem sle_map {n:Nat} {R:Nat→Nat→Option (Nat×Nat)} {h q h' q':Nat} (hn:n≤h') (e:R h' q'=some (h,q)):SLe n R (.map h q) (.map h' q'):=by
 intro g g1 v hle hR hv
 simp only [Rv] at hv⊢
 obtain ⟨β,e1,e2⟩:=hv
 exact ⟨β,hR h' q' _ hn e β e1,e2⟩
def sleL (n:Nat) (R:Nat→Nat→Option (Nat×Nat)):List SV→List SV→Prop
 | [],[]=>True
 |a::l,b::m=>SLe n R a b∧sleL n R l m
 |_,_=>False
theorem sleL_at {n:Nat} {R:Nat→Nat→Option (Nat×Nat)}:∀{l m:List SV},sleL n R l m→m.length=l.length∧∀j b,nth m j=some b→∃a,nth l j=some a∧SLe n R a b
 | [],[],_=>⟨rfl,fun j b h=>by simp [nth] at h⟩
 |a::l,b::m,h=>by
  obtain ⟨h1,h2⟩:=sleL_at h.2
  refine ⟨by rw [List.length_cons,List.length_cons,h1],fun j c hc=> ?_⟩
  cases j with
  |zero=>simp only [nth,Option.some.injEq] at hc;subst hc;exact ⟨a,rfl,h.1⟩
  |succ j=>simp only [nth] at hc⊢;exact h2 j c hc
 | [],_::_,h=>h.elim
 |_::_,[],h=>h.elim
theorem ble_cells {n:Nat} {R:Nat→Nat→Option (Nat×Nat)} {l m:List SV} (h:sleL n R l m):BLe n R (.cells l) (.cells m):= .inr ⟨(sleL_at h).1,(sleL_at h).2⟩
theorem ble_map1 {n:Nat} {R:Nat→Nat→Option (Nat×Nat)} {ka:Bool} {m:Nat} {ks:List Col} {c c':BCol} {bs:List Nat} {ck:Nat} (hl:c'.len=m) (h:∀i,i<m→SLe n R (c.at i) (c'.at i)):BLe n R (.obj (.map ka false m ks [c] bs ck)) (.obj (.map ka false m ks [c'] bs ck)):=
 .inr ⟨rfl,rfl,rfl,rfl,rfl,rfl,fun _ c2 h2=>by rw [List.mem_singleton] at h2;subst h2;exact hl,fun i hi=>h i hi⟩
def sleC (n:Nat) (R:Nat→Nat→Option (Nat×Nat)) (m:Nat):List BCol→List BCol→Prop
 | [],[]=>True
 |c::l,d::r=>((c.len=m→d.len=m)∧∀i,i<m→SLe n R (c.at i) (d.at i))∧sleC n R m l r
 |_,_=>False
theorem sleC_at {n m:Nat} {R:Nat→Nat→Option (Nat×Nat)}:∀{l r:List BCol},sleC n R m l r→r.length=l.length∧((∀c∈l,c.len=m)→∀c∈r,c.len=m)∧∀i j d,i<m→nth r j=some d→∃c,nth l j=some c∧SLe n R (c.at i) (d.at i)
 | [],[],_=>⟨rfl,fun _ c h=>(by cases h),fun i j d _ h=>by simp [nth] at h⟩
 |a::l,b::r,h=>by
  obtain ⟨h1,h2,h3⟩:=sleC_at h.2
  refine ⟨by rw [List.length_cons,List.length_cons,h1],fun hl c hc=> ?_,fun i j d hi hd=> ?_⟩
  ·rcases List.mem_cons.1 hc with rfl|hc
   ·exact h.1.1 (hl a (List.mem_cons_self))
   ·exact h2 (fun c hc=>hl c (List.mem_cons_of_mem _ hc)) c hc
  ·cases j with
   |zero=>simp only [nth,Option.some.injEq] at hd;subst hd;exact ⟨a,rfl,h.1.2 i hi⟩
   |succ j=>simp only [nth] at hd⊢;exact h3 i j d hi hd
 | [],_::_,h=>h.elim
 |_::_,[],h=>h.elim
theorem ble_cols {n m:Nat} {R:Nat→Nat→Option (Nat×Nat)} {l r:List BCol} (h:sleC n R m l r):BLe n R (.cols m l) (.cols m r):=
 .inr ⟨Nat.le_refl _,(sleC_at h).1,(sleC_at h).2.1,(sleC_at h).2.2⟩
theorem sleC_refl {n m:Nat} {R:Nat→Nat→Option (Nat×Nat)} (c:BCol):(c.len=m→c.len=m)∧∀i,i<m→SLe n R (c.at i) (c.at i):=⟨id,fun i _=>sle_refl _⟩
theorem ptrs_put {n m h nb h':Nat} {R:Nat→Nat→Option (Nat×Nat)} (hn:n≤h') (h1:∀q,q<m→R h' q=some (h,q)) (h2:R h' m=some (nb,0)):∀i,i<m+1→SLe n R ((BCol.svs (ptrL h m++ [.ptr nb 0 0 0])).at i) ((BCol.ptrs h' (m+1)).at i):=by
 intro i hi
 by_cases e:i<m
 ·have e1:(BCol.svs (ptrL h m++ [.ptr nb 0 0 0])).at i= .ptr h i 0 0:=by
   show (ptrL h m++ [SV.ptr nb 0 0 0]).getD i .unk=_
   rw [List.getD,List.getElem?_append_left (by rw [ptrL_len];exact e)]
   exact ptrL_at e
  rw [e1]
  exact sle_ptr hn (h1 i e)
 ·have ei:i=m:=by omega
  subst ei
  have e1:(BCol.svs (ptrL h i++ [.ptr nb 0 0 0])).at i= .ptr nb 0 0 0:=by
   show (ptrL h i++ [SV.ptr nb 0 0 0]).getD i .unk=_
   rw [List.getD,List.getElem?_append_right (by rw [ptrL_len];exact Nat.le_refl _),ptrL_len,Nat.sub_self];rfl
  rw [e1]
  exact sle_ptr hn h2
theorem ptrL_set {h m i:Nat} (hi:i<m):(ptrL h m).set i (.ptr h i 0 0)=ptrL h m:=by
 refine List.ext_getElem? fun j=> ?_
 rw [List.getElem?_set]
 split
 ·rename_i e
  subst e
  simp [ptrL,hi]
 ·rfl
theorem ptrL_put {h m i:Nat} (hi:i<m):putL i (.ptr h i 0 0) (ptrL h m)=ptrL h m:=by
 unfold putL
 rw [if_pos (by rw [ptrL_len];exact hi)];exact ptrL_set hi
theorem ptrL_new {h m:Nat} {v:SV}:putL m v (ptrL h m)=ptrL h m++ [v]:=by
 unfold putL
 rw [if_neg (by rw [ptrL_len];omega)]
theorem ptrs_same {n m h:Nat} {R:Nat→Nat→Option (Nat×Nat)}:∀i,i<m→SLe n R ((BCol.svs (ptrL h m)).at i) ((BCol.ptrs h m).at i):=by
 intro i hi
 have e1:(BCol.svs (ptrL h m)).at i= .ptr h i 0 0:=ptrL_at hi
 rw [e1];exact sle_refl _
theorem relab_top {H:Heap} {n th:Nat} {tb0 tb:Blk} (hth:th<n) (ht:hget H th=some (.one false tb0)) (hle:BLe n (fun _ _=>none) tb0 tb):Relab H n (fun _ _=>none) (fun _=>0) [(th,some (.one false tb))] [] 0:=by
 have key:∀{h q:Nat} {ro:Bool} {b:Blk},Ent [(th,some (HB.one false tb))] h q ro b→h=th∧q=0∧ro=false∧b=tb:=by
  intro h q ro b he
  rcases ent_cons.1 he with ⟨rfl,hb2,e1,e2,e3⟩|⟨_,he⟩
  ·cases e1;exact ⟨rfl,e2.1,e3.symm,e2.2⟩
  ·exact (ent_nil he).elim
 refine ⟨fun h q p _ e=>(by cases e),fun h q ro b he=>(key he).2.2.1,?_,fun h q p _ e=>(by cases e),?_⟩
 ·intro h q b' he
  obtain ⟨rfl,rfl,_,rfl⟩:=key he
  exact .inl ⟨h,0,tb0,.inl ⟨hth,rfl,rfl⟩,⟨_,ht,⟨rfl,rfl⟩,rfl⟩,hle⟩
 ·intro h q h' q' h0 q0 _ _ h1 h2
  rcases h1 with ⟨_,rfl,rfl⟩|⟨_,e⟩
  ·rcases h2 with ⟨_,e1,e2⟩|⟨_,e⟩
   ·exact ⟨e1,e2⟩
   ·cases e
  ·cases e
structure GD where
 old:Nat
 nw:Nat
 f:Nat→Blk
def gdR (n m:Nat) (D:List GD) (h q:Nat):Option (Nat×Nat):=if n≤h∧q≤m then (match nth D (h-n) with|some d=>if q<m then some (d.old,q) else some (d.nw,0)|none=>none) else none
def gdN (n m:Nat):Nat→List GD→Heap
 |_,[]=> []
 |i,d::r=>(n+i,some (.fam false (fun x=>x<m) d.f))::gdN n m (i+1) r
def gdr:List GD→List Nat
 | []=> []
 |d::r=>d.old::d.nw::gdr r
theorem gdr_mem:∀{D:List GD} {i:Nat} {d:GD},nth D i=some d→d.old∈gdr D∧d.nw∈gdr D
 | [],i,d,h=>by simp [nth] at h
 |x::D,0,d,h=>by simp only [nth,Option.some.injEq] at h;subst h;simp [gdr]
 |x::D,i+1,d,h=>by
  have:=gdr_mem (D:=D) (i:=i) h
  simp [gdr,this]
theorem gdN_ent {n m:Nat}:∀{D:List GD} {i h q:Nat} {ro:Bool} {b:Blk},Ent (gdN n m i D) h q ro b→∃j d,h=n+(i+j)∧nth D j=some d∧q<m∧ro=false∧b=d.f q
 | [],i,h,q,ro,b,he=>(ent_nil he).elim
 |x::D,i,h,q,ro,b,he=>by
  simp only [gdN] at he
  rcases ent_cons.1 he with ⟨rfl,hb2,e1,e2,e3⟩|⟨_,he⟩
  ·cases e1
   exact ⟨0,x,by omega,rfl,e2.1,e3.symm,e2.2⟩
  ·obtain ⟨j,d,h1,h2,h3⟩:=gdN_ent he
   exact ⟨j+1,d,by omega,h2,h3⟩
theorem gdN_keys {n m:Nat}:∀{D:List GD} {i x:Nat},x∈keysOf (gdN n m i D)→n≤x
 | [],i,x,h=>by simp [gdN,keysOf] at h
 |d::D,i,x,h=>by
  simp only [gdN,keysOf,List.mem_cons] at h
  rcases h with h|h
  ·omega
  ·exact gdN_keys h
theorem gd_nth {α:Type}:∀{l:List α} {i:Nat} {x:α},nth l i=some x→i<l.length
 | [],i,x,h=>by simp [nth] at h
 |y::l,0,x,h=>by simp
 |y::l,i+1,x,h=>by have:=gd_nth (l:=l) (i:=i) h;simp;exact this
theorem gdR_some {n m:Nat} {D:List GD} {h q:Nat} {p:Nat×Nat} (e:gdR n m D h q=some p):n≤h∧q≤m∧∃d,nth D (h-n)=some d∧((q<m∧p=(d.old,q))∨(q=m∧p=(d.nw,0))):=by
 unfold gdR at e
 split at e
 ·rename_i c
  split at e
  ·rename_i d hd
   refine ⟨c.1,c.2,d,hd,?_⟩
   split at e
   ·rename_i w;simp only [Option.some.injEq] at e;exact .inl ⟨w,e.symm⟩
   ·rename_i w;simp only [Option.some.injEq] at e;exact .inr ⟨by omega,e.symm⟩
  ·cases e
 ·cases e
theorem gdR_old {n m i q:Nat} {D:List GD} {d:GD} (hd:nth D i=some d) (hq:q<m):gdR n m D (n+i) q=some (d.old,q):=by
 unfold gdR
 rw [if_pos ⟨by omega,by omega⟩,Nat.add_sub_cancel_left,hd]
 exact if_pos hq
theorem gdR_new {n m i:Nat} {D:List GD} {d:GD} (hd:nth D i=some d):gdR n m D (n+i) m=some (d.nw,0):=by
 unfold gdR
 rw [if_pos ⟨by omega,by omega⟩,Nat.add_sub_cancel_left,hd]
 exact if_neg (Nat.lt_irrefl _)
def gdOk (H:Heap) (n m th:Nat) (R:Nat→Nat→Option (Nat×Nat)):List GD→Prop
 | []=>True
 |d::r=>(d.old≠th∧d.nw≠th∧(∃dom f,hget H d.old=some (.fam false dom f)∧(∀q,q<m→dom q∧BLe n R (f q) (d.f q)))∧∃b,hget H d.nw=some (.one false b)∧BLe n R b (d.f m))∧gdOk H n m th R r
theorem gdOk_at {H:Heap} {n m th:Nat} {R:Nat→Nat→Option (Nat×Nat)}:∀{D:List GD} {i:Nat} {d:GD},gdOk H n m th R D→nth D i=some d→d.old≠th∧d.nw≠th∧(∃dom f,hget H d.old=some (.fam false dom f)∧(∀q,q<m→dom q∧BLe n R (f q) (d.f q)))∧∃b,hget H d.nw=some (.one false b)∧BLe n R b (d.f m)
 | [],i,d,_,e=>by simp [nth] at e
 |x::D,0,d,h,e=>by simp only [nth,Option.some.injEq] at e;subst e;exact h.1
 |x::D,i+1,d,h,e=>gdOk_at (D:=D) (i:=i) h.2 e
def gdl (D:List GD):List Nat:=gdr D
def gdDist (D:List GD):Bool:=nodupN (gdr D)
theorem hasN_mem:∀{l:List Nat} {x:Nat},hasN l x=true↔x∈l
 | [],x=>by simp [hasN]
 |y::l,x=>by
  simp only [hasN,Bool.or_eq_true,hasN_mem (l:=l),List.mem_cons]
  constructor
  ·rintro (h|h)
   ·exact .inl (Nat.eq_of_beq_eq_true h).symm
   ·exact .inr h
  ·rintro (h|h)
   ·subst h;exact .inl (by simp)
   ·exact .inr h
theorem gd_nodup:∀{l:List Nat},nodupN l=true→l.Nodup
 | [],_=>List.nodup_nil
 |x::l,h=>by
  simp only [nodupN,Bool.and_eq_true,Bool.not_eq_true'] at h
  exact List.nodup_cons.2 ⟨fun q=>(by have:=hasN_mem.2 q;rw [h.1] at this;cases this),gd_nodup h.2⟩
theorem gd_inj:∀{D:List GD},(gdr D).Nodup→∀{i j:Nat} {d e:GD},nth D i=some d→nth D j=some e→(d.old=e.old→i=j)∧(d.nw=e.nw→i=j)∧d.old≠e.nw
 | [],_,i,j,d,e,h,_=>by simp [nth] at h
 |x::D,hn,i,j,d,e,h1,h2=>by
  simp only [gdr] at hn
  obtain ⟨n1,n2⟩:=List.nodup_cons.1 hn
  obtain ⟨n3,n4⟩:=List.nodup_cons.1 n2
  cases i with
  |zero=>
   simp only [nth,Option.some.injEq] at h1
   subst h1
   cases j with
   |zero=>
    simp only [nth,Option.some.injEq] at h2
    subst h2
    exact ⟨fun _=>rfl,fun _=>rfl,fun q=>n1 (by rw [q];simp)⟩
   |succ j=>
    have m:=gdr_mem (D:=D) (i:=j) h2
    refine ⟨fun q=>absurd (List.mem_cons_of_mem _ (by rw [q];exact m.1)) n1,fun q=>absurd (by rw [q];exact m.2) n3,fun q=>n1 (List.mem_cons_of_mem _ (by rw [q];exact m.2))⟩
  |succ i=>
   have m:=gdr_mem (D:=D) (i:=i) h1
   cases j with
   |zero=>
    simp only [nth,Option.some.injEq] at h2
    subst h2
    refine ⟨fun q=>absurd (List.mem_cons_of_mem _ (by rw [←q];exact m.1)) n1,fun q=>absurd (by rw [←q];exact m.2) n3,fun q=>n3 (by rw [←q];exact m.1)⟩
   |succ j=>
    obtain ⟨a,b,c⟩:=gd_inj (D:=D) n4 (i:=i) (j:=j) h1 h2
    exact ⟨fun q=>by rw [a q],fun q=>by rw [b q],c⟩
theorem relab_fams {H:Heap} {n m th:Nat} {tb0 tb:Blk} (D:List GD) (hth:th<n) (ht:hget H th=some (.one false tb0)) (hle:BLe n (gdR n m D) tb0 tb) (hD:gdOk H n m th (gdR n m D) D) (hdist:gdDist D=true):
  Relab H n (gdR n m D) (fun _=>0) ((th,some (.one false tb))::gdN n (m+1) 0 D) (gdr D) D.length:=by
 have hnd:=gd_nodup hdist
 have key:∀{h q:Nat} {ro:Bool} {b:Blk},Ent ((th,some (HB.one false tb))::gdN n (m+1) 0 D) h q ro b→(h=th∧q=0∧ro=false∧b=tb)∨∃j d,h=n+j∧nth D j=some d∧q<m+1∧ro=false∧b=d.f q:=by
  intro h q ro b he
  rcases ent_cons.1 he with ⟨rfl,hb2,e1,e2,e3⟩|⟨_,he⟩
  ·cases e1;exact .inl ⟨rfl,e2.1,e3.symm,e2.2⟩
  ·obtain ⟨j,d,h1,h2⟩:=gdN_ent he
   exact .inr ⟨j,d,by omega,h2⟩
 refine ⟨?_,?_,?_,?_,?_⟩
 ·intro h q p h1 h2
  obtain ⟨_,_,d,h3,_⟩:=gdR_some h2
  have:=gd_nth h3
  omega
 ·intro h q ro b he
  rcases key he with ⟨_,_,e,_⟩|⟨_,_,_,_,_,e,_⟩<;>exact e
 ·intro h q b' he
  rcases key he with ⟨rfl,rfl,_,rfl⟩|⟨j,d,rfl,hd,hq,_,rfl⟩
  ·exact .inl ⟨h,0,tb0,.inl ⟨hth,rfl,rfl⟩,⟨_,ht,⟨rfl,rfl⟩,rfl⟩,hle⟩
  ·obtain ⟨_,_,⟨dom,f,g1,g2⟩,b,g3,g4⟩:=gdOk_at hD hd
   by_cases e:q<m
   ·exact .inl ⟨d.old,q,f q,.inr ⟨by omega,gdR_old hd e⟩,⟨_,g1,⟨(g2 q e).1,rfl⟩,rfl⟩,(g2 q e).2⟩
   ·have eq:q=m:=by omega
    subst eq
    exact .inl ⟨d.nw,0,b,.inr ⟨by omega,gdR_new hd⟩,⟨_,g3,⟨rfl,rfl⟩,rfl⟩,g4⟩
 ·intro h q p h1 h2
  obtain ⟨_,_,d,h3,h4⟩:=gdR_some h2
  have:=gdr_mem h3
  rcases h4 with ⟨_,rfl⟩|⟨_,rfl⟩
  ·exact this.1
  ·exact this.2
 ·intro h q h' q' h0 q0 hk hk' h1 h2
  have kk:∀{x:Nat},x∈keysOf ((th,some (HB.one false tb))::gdN n (m+1) 0 D)→x=th∨n≤x:=by
   intro x hx
   simp only [keysOf,List.mem_cons] at hx
   rcases hx with hx|hx
   ·exact .inl hx
   ·exact .inr (gdN_keys hx)
  have no:∀{x y:Nat},n≤x→gdR n m D x y=some (h0,q0)→h0≠th:=by
   intro x y hx e
   obtain ⟨_,_,d,h3,h4⟩:=gdR_some e
   obtain ⟨g1,g2,_⟩:=gdOk_at hD h3
   rcases h4 with ⟨_,h4⟩|⟨_,h4⟩
   ·cases h4;exact g1
   ·cases h4;exact g2
  rcases h1 with ⟨a1,rfl,rfl⟩|⟨a1,a2⟩
  ·rcases h2 with ⟨b1,e1,e2⟩|⟨b1,b2⟩
   ·exact ⟨e1,e2⟩
   ·exfalso
    have e:h0=th:=by rcases kk hk with e|e<;>omega
    exact no b1 b2 e
  ·rcases h2 with ⟨b1,rfl,rfl⟩|⟨b1,b2⟩
   ·exfalso
    have e:h0=th:=by rcases kk hk' with e|e<;>omega
    exact no a1 a2 e
   ·obtain ⟨_,_,d,h3,h4⟩:=gdR_some a2
    obtain ⟨_,_,d',h3',h4'⟩:=gdR_some b2
    obtain ⟨i1,i2,i3⟩:=gd_inj hnd h3 h3'
    obtain ⟨_,_,i4⟩:=gd_inj hnd h3' h3
    rcases h4 with ⟨w,h4⟩|⟨w,h4⟩<;>rcases h4' with ⟨w',h4'⟩|⟨w',h4'⟩
    ·cases h4
     simp only [Prod.mk.injEq] at h4'
     have:=i1 h4'.1
     exact ⟨by omega,h4'.2⟩
    ·cases h4
     simp only [Prod.mk.injEq] at h4'
     exact absurd h4'.1 i3
    ·cases h4
     simp only [Prod.mk.injEq] at h4'
     exact absurd h4'.1.symm i4
    ·cases h4
     simp only [Prod.mk.injEq] at h4'
     have:=i2 h4'.1
     exact ⟨by omega,by omega⟩
theorem relab_none {H:Heap} {n th:Nat} {tb0 tb:Blk} (D:List GD) (hth:th<n) (ht:hget H th=some (.one false tb0)) (hle:BLe n (fun _ _=>none) tb0 tb):
  Relab H n (fun _ _=>none) (fun _=>0) ((th,some (.one false tb))::gdN n 0 0 D) [] D.length:=by
 have key:∀{h q:Nat} {ro:Bool} {b:Blk},Ent ((th,some (HB.one false tb))::gdN n 0 0 D) h q ro b→h=th∧q=0∧ro=false∧b=tb:=by
  intro h q ro b he
  rcases ent_cons.1 he with ⟨rfl,hb2,e1,e2,e3⟩|⟨_,he⟩
  ·cases e1;exact ⟨rfl,e2.1,e3.symm,e2.2⟩
  ·obtain ⟨j,d,h1,h2,h3,_⟩:=gdN_ent he
   omega
 refine ⟨fun h q p _ e=>(by cases e),fun h q ro b he=>(key he).2.2.1,?_,fun h q p _ e=>(by cases e),?_⟩
 ·intro h q b' he
  obtain ⟨rfl,rfl,_,rfl⟩:=key he
  exact .inl ⟨h,0,tb0,.inl ⟨hth,rfl,rfl⟩,⟨_,ht,⟨rfl,rfl⟩,rfl⟩,hle⟩
 ·intro h q h' q' h0 q0 _ _ h1 h2
  rcases h1 with ⟨_,rfl,rfl⟩|⟨_,e⟩
  ·rcases h2 with ⟨_,e1,e2⟩|⟨_,e⟩
   ·exact ⟨e1,e2⟩
   ·cases e
  ·cases e
end Go.Sy
