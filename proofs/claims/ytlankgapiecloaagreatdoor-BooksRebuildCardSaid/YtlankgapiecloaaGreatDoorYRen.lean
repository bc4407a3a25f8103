/- Families get new names. No program in sight. -/
import Derived.Test.YtlankgapiecloaaGreatDoorYFam
namespace Go.Sy
open Go.RowKit
set_option linter.unusedVariables false
set_option linter.unusedSimpArgs false
structure RD where
 old:Nat
 f:Nat→Blk
def rdR (n m:Nat) (D:List RD) (h q:Nat):Option (Nat×Nat):=if n≤h∧q<m then (match nth D (h-n) with|some d=>some (d.old,q)|none=>none) else none
def rdN (n m:Nat):Nat→List RD→Heap
 |_,[]=> []
 |i,d::r=>(n+i,some (.fam false (fun x=>x<m) d.f))::rdN n m (i+1) r
def rdr:List RD→List Nat
 | []=> []
 |d::r=>d.old::rdr r
theorem rdr_mem:∀{D:List RD} {i:Nat} {d:RD},nth D i=some d→d.old∈rdr D
 | [],i,d,h=>by simp [nth] at h
 |x::D,0,d,h=>by simp only [nth,Option.some.injEq] at h;subst h;simp [rdr]
 |x::D,i+1,d,h=>by
  have:=rdr_mem (D:=D) (i:=i) h
  simp [rdr,this]
theorem rdN_ent {n m:Nat}:∀{D:List RD} {i h q:Nat} {ro:Bool} {b:Blk},Ent (rdN n m i D) h q ro b→∃j d,h=n+(i+j)∧nth D j=some d∧q<m∧ro=false∧b=d.f q
 | [],i,h,q,ro,b,he=>(ent_nil he).elim
 |x::D,i,h,q,ro,b,he=>by
  simp only [rdN] at he
  rcases ent_cons.1 he with ⟨rfl,hb2,e1,e2,e3⟩|⟨_,he⟩
  ·cases e1
   exact ⟨0,x,by omega,rfl,e2.1,e3.symm,e2.2⟩
  ·obtain ⟨j,d,h1,h2,h3⟩:=rdN_ent he
   exact ⟨j+1,d,by omega,h2,h3⟩
theorem rdN_keys {n m:Nat}:∀{D:List RD} {i x:Nat},x∈keysOf (rdN n m i D)→n≤x
 | [],i,x,h=>by simp [rdN,keysOf] at h
 |d::D,i,x,h=>by
  simp only [rdN,keysOf,List.mem_cons] at h
  rcases h with h|h
  ·omega
  ·exact rdN_keys h
theorem rdR_some {n m:Nat} {D:List RD} {h q:Nat} {p:Nat×Nat} (e:rdR n m D h q=some p):n≤h∧q<m∧∃d,nth D (h-n)=some d∧p=(d.old,q):=by
 unfold rdR at e
 split at e
 ·rename_i c
  split at e
  ·rename_i d hd
   simp only [Option.some.injEq] at e
   exact ⟨c.1,c.2,d,hd,e.symm⟩
  ·cases e
 ·cases e
theorem rdR_at {n m i q:Nat} {D:List RD} {d:RD} (hd:nth D i=some d) (hq:q<m):rdR n m D (n+i) q=some (d.old,q):=by
 unfold rdR
 rw [if_pos ⟨by omega,hq⟩,Nat.add_sub_cancel_left,hd]
def rdOk (H:Heap) (n m th:Nat) (R:Nat→Nat→Option (Nat×Nat)):List RD→Prop
 | []=>True
 |d::r=>(d.old≠th∧∃dom f,hget H d.old=some (.fam false dom f)∧(∀q,q<m→dom q∧BLe n R (f q) (d.f q)))∧rdOk H n m th R r
theorem rdOk_at {H:Heap} {n m th:Nat} {R:Nat→Nat→Option (Nat×Nat)}:∀{D:List RD} {i:Nat} {d:RD},rdOk H n m th R D→nth D i=some d→d.old≠th∧∃dom f,hget H d.old=some (.fam false dom f)∧(∀q,q<m→dom q∧BLe n R (f q) (d.f q))
 | [],i,d,_,e=>by simp [nth] at e
 |x::D,0,d,h,e=>by simp only [nth,Option.some.injEq] at e;subst e;exact h.1
 |x::D,i+1,d,h,e=>rdOk_at (D:=D) (i:=i) h.2 e
theorem rd_inj:∀{D:List RD},(rdr D).Nodup→∀{i j:Nat} {d e:RD},nth D i=some d→nth D j=some e→d.old=e.old→i=j
 | [],_,i,j,d,e,h,_=>by simp [nth] at h
 |x::D,hn,i,j,d,e,h1,h2=>by
  simp only [rdr] at hn
  obtain ⟨n1,n2⟩:=List.nodup_cons.1 hn
  cases i with
  |zero=>
   simp only [nth,Option.some.injEq] at h1
   subst h1
   cases j with
   |zero=>exact fun _=>rfl
   |succ j=>
    have m:=rdr_mem (D:=D) (i:=j) h2
    exact fun q=>absurd (by rw [q];exact m) n1
  |succ i=>
   have m:=rdr_mem (D:=D) (i:=i) h1
   cases j with
   |zero=>
    simp only [nth,Option.some.injEq] at h2
    subst h2
    exact fun q=>absurd (by rw [←q];exact m) n1
   |succ j=>exact fun q=>by rw [rd_inj (D:=D) n2 (i:=i) (j:=j) h1 h2 q]
theorem relab_ren {H:Heap} {n m th:Nat} {tb0 tb:Blk} (D:List RD) (hth:th<n) (ht:hget H th=some (.one false tb0)) (hle:BLe n (rdR n m D) tb0 tb) (hD:rdOk H n m th (rdR n m D) D) (hdist:nodupN (rdr D)=true):
  Relab H n (rdR n m D) (fun _=>0) ((th,some (.one false tb))::rdN n m 0 D) (rdr D) D.length:=by
 have hnd:=gd_nodup hdist
 have key:∀{h q:Nat} {ro:Bool} {b:Blk},Ent ((th,some (HB.one false tb))::rdN n m 0 D) h q ro b→(h=th∧q=0∧ro=false∧b=tb)∨∃j d,h=n+j∧nth D j=some d∧q<m∧ro=false∧b=d.f q:=by
  intro h q ro b he
  rcases ent_cons.1 he with ⟨rfl,hb2,e1,e2,e3⟩|⟨_,he⟩
  ·cases e1;exact .inl ⟨rfl,e2.1,e3.symm,e2.2⟩
  ·obtain ⟨j,d,h1,h2⟩:=rdN_ent he
   exact .inr ⟨j,d,by omega,h2⟩
 refine ⟨?_,?_,?_,?_,?_⟩
 ·intro h q p h1 h2
  obtain ⟨_,_,d,h3,_⟩:=rdR_some h2
  have:=gd_nth h3
  omega
 ·intro h q ro b he
  rcases key he with ⟨_,_,e,_⟩|⟨_,_,_,_,_,e,_⟩<;>exact e
 ·intro h q b' he
  rcases key he with ⟨rfl,rfl,_,rfl⟩|⟨j,d,rfl,hd,hq,_,rfl⟩
  ·exact .inl ⟨h,0,tb0,.inl ⟨hth,rfl,rfl⟩,⟨_,ht,⟨rfl,rfl⟩,rfl⟩,hle⟩
  ·obtain ⟨_,dom,f,g1,g2⟩:=rdOk_at hD hd
   exact .inl ⟨d.old,q,f q,.inr ⟨by omega,rdR_at hd hq⟩,⟨_,g1,⟨(g2 q hq).1,rfl⟩,rfl⟩,(g2 q hq).2⟩
 ·intro h q p h1 h2
  obtain ⟨_,_,d,h3,rfl⟩:=rdR_some h2
  exact rdr_mem h3
 ·intro h q h' q' h0 q0 hk hk' h1 h2
  have kk:∀{x:Nat},x∈keysOf ((th,some (HB.one false tb))::rdN n m 0 D)→x=th∨n≤x:=by
   intro x hx
   simp only [keysOf,List.mem_cons] at hx
   rcases hx with hx|hx
   ·exact .inl hx
   ·exact .inr (rdN_keys hx)
  have no:∀{x y:Nat},n≤x→rdR n m D x y=some (h0,q0)→h0≠th:=by
   intro x y hx e
   obtain ⟨_,_,d,h3,h4⟩:=rdR_some e
   obtain ⟨g1,_⟩:=rdOk_at hD h3
   cases h4;exact g1
  rcases h1 with ⟨a1,rfl,rfl⟩|⟨a1,a2⟩
  ·rcases h2 with ⟨b1,e1,e2⟩|⟨b1,b2⟩
   ·exact ⟨e1,e2⟩
   ·exfalso
    have e:h0=th:=by rcases kk hk with e|e<;>omega
    exact no b1 b2 e
  ·rcases h2 with ⟨b1,rfl,rfl⟩|⟨b1,b2⟩
   ·exfalso
    have e:h0=th:=by rcases kk hk' with e|e<;>omega
    exact no a1 a2 e
   ·obtain ⟨_,_,d,h3,h4⟩:=rdR_some a2
    obtain ⟨_,_,d',h3',h4'⟩:=rdR_some b2
    cases h4
    simp only [Prod.mk.injEq] at h4'
    have:=rd_inj hnd h3 h3' h4'.1
    exact ⟨by omega,h4'.2⟩
end Go.Sy
