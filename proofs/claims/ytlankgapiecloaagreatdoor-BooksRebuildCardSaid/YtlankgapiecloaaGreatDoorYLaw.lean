/- What is handed in, as the generator of conditions wants it: scalars, structs of scalars, slices of these. No program in sight. -/
import Derived.Test.YtlankgapiecloaaGreatDoorYLib
import Derived.Deep.Slices
import Derived.OpenShut
import Derived.ChangeOld
namespace Go.Sy
open Go.RowKit Go.ChangeShapes Go.WideShapes Go.Deep
inductive CK where
 |int (k:IntKind)
 |bool
 |str
def CellOk:CK→Value→Prop
 | .int k,v=>∃n,v= .int k n∧(Lit.int k n).wf=true
 | .bool,v=>∃b,v= .bool b
 | .str,v=>∃s,v= .string s∧s.size≤maxLen
def AllOk:List CK→List Value→Prop
 | [],vs=>vs= []
 |c::cs,vs=>∃v r,vs=v::r∧CellOk c v∧AllOk cs r
theorem AllOk.length:∀(ks:List CK) (vs:List Value),AllOk ks vs→vs.length=ks.length
 | [],vs,h=>by simp only [AllOk] at h;simp [h]
 |c::cs,vs,h=>by simp only [AllOk] at h;obtain ⟨v,r,rfl,_,h⟩:=h;simp [AllOk.length cs r h]
theorem AllOk.append:∀(a b:List CK) (vs:List Value),AllOk a (vs.take a.length)→AllOk b (vs.drop a.length)→AllOk (a++b) vs
 | [],b,vs,_,h=>by simpa using h
 |c::a,b,vs,h1,h2=>by
  cases vs with
  |nil=>simp only [List.length_cons,List.take_nil,AllOk] at h1;obtain ⟨v,r,e,_⟩:=h1;cases e
  |cons v vs=>
   simp only [List.length_cons,List.take_succ_cons,AllOk] at h1
   obtain ⟨v',r,e,hc,hr⟩:=h1
   simp only [List.cons.injEq] at e
   obtain ⟨rfl,rfl⟩:=e
   simp only [List.cons_append,AllOk]
   exact ⟨v,vs,rfl,hc,AllOk.append a b vs hr (by simpa using h2)⟩
mutual
def flatK (P:Program):Nat→TypeId→Option (List CK)
 |0,_=>none
 |n+1,t=>match P.underlying t with
  |some .bool=>some [.bool]
  |some (.int k)=>some [.int k]
  |some .string=>some [.str]
  |some (.struct fs)=>match flatFs P n 0 fs.toList with
   |some ks=>bif Nat.beq (P.cellsOf t) ks.length then some ks else none
   |none=>none
  |_=>none
def flatFs (P:Program):Nat→Nat→List Field→Option (List CK)
 |0,_,_=>none
 |_+1,_,[]=>some []
 |n+1,o,f::r=>bif Nat.beq f.offset o then (match flatK P n f.type with
  |some a=>bif Nat.beq (P.cellsOf f.type) a.length then (match flatFs P n (o+a.length) r with|some b=>some (a++b)|none=>none) else none
  |none=>none) else none
end
section
variable {H:Type} {enc:TypeId×Value→H} {P:Program} {w:World} {base:Nat} {spare:Nat→Bool} {held:Bool}
theorem trod_flat_both:∀m:Nat,(∀(t:TypeId) (ks:List CK) (fuel:Nat) (cs:List Value) (x:DataW H×List MemPlace),flatK P m t=some ks→DataW.trod enc P w base spare held fuel t cs=some x→AllOk ks cs)∧
  (∀(o:Nat) (fs:List Field) (ks:List CK) (cs:List Value) (n:Nat),flatFs P m o fs=some ks→cs.length=o+ks.length→(∀f∈fs,∃y,DataW.trod enc P w base spare held n f.type ((cs.drop f.offset).take (P.cellsOf f.type))=some y)→AllOk ks (cs.drop o)):=by
 intro m
 induction m with
 |zero=>exact ⟨fun t ks fuel cs x h=>by simp [flatK] at h,fun o fs ks cs n h=>by simp [flatFs] at h⟩
 |succ m ih=>
  refine ⟨?_,?_⟩
  ·intro t ks fuel cs x h ht
   simp only [flatK] at h
   split at h
   ·rename_i hu;simp only [Option.some.injEq] at h;subst h
    obtain ⟨b,rfl,_⟩:=DataW.trod_bool hu ht
    simp only [AllOk,CellOk];exact ⟨_,_,rfl,⟨b,rfl⟩,rfl⟩
   ·rename_i k hu;simp only [Option.some.injEq] at h;subst h
    obtain ⟨n,rfl,_,hw⟩:=DataW.trod_int hu ht
    simp only [AllOk,CellOk];exact ⟨_,_,rfl,⟨n,rfl,hw⟩,rfl⟩
   ·rename_i hu;simp only [Option.some.injEq] at h;subst h
    obtain ⟨s,rfl,_,hw⟩:=DataW.trod_string hu ht
    simp only [AllOk,CellOk];exact ⟨_,_,rfl,⟨s,rfl,hw⟩,rfl⟩
   ·rename_i fs hu
    split at h
    ·rename_i ks' hks
     cases hb:Nat.beq (P.cellsOf t) ks'.length with
     |false=>rw [hb] at h;simp at h
     |true=>
      rw [hb] at h
      simp only [cond_true,Option.some.injEq] at h
      subst h
      obtain ⟨xs,n,_,_,hlen,hxl,hf⟩:=DataW.trod_struct hu ht
      have:=ih.2 0 fs.toList ks' cs n hks (by rw [hlen,Nat.eq_of_beq_eq_true hb];simp) (by
       intro f hf'
       obtain ⟨i,hi,rfl⟩:=List.getElem_of_mem hf'
       have hi':i<fs.size:=by simpa using hi
       have h1:=hf i fs[i] (by simp [hi'])
       have h2:xs[i]?=some (xs[i]'(by omega)):=List.getElem?_eq_getElem (by omega)
       refine ⟨xs[i]'(by omega),?_⟩
       have:fs.toList[i]=fs[i]:=by simp
       rw [this,h1,h2])
      simpa using this
    ·cases h
   ·cases h
  ·intro o fs ks cs n h hlen hall
   cases fs with
   |nil=>
    simp only [flatFs,Option.some.injEq] at h
    subst h
    simp only [AllOk]
    exact List.drop_eq_nil_of_le (by simp at hlen;omega)
   |cons f r=>
    simp only [flatFs] at h
    cases ho:Nat.beq f.offset o with
    |false=>rw [ho] at h;simp at h
    |true=>
     rw [ho] at h
     simp only [cond_true] at h
     split at h
     ·rename_i a ha
      cases hb:Nat.beq (P.cellsOf f.type) a.length with
      |false=>rw [hb] at h;simp at h
      |true=>
       rw [hb] at h
       simp only [cond_true] at h
       split at h
       ·rename_i b hbb
        simp only [Option.some.injEq] at h
        subst h
        have eo:=Nat.eq_of_beq_eq_true ho
        have ea:=Nat.eq_of_beq_eq_true hb
        obtain ⟨y,hy⟩:=hall f (by simp)
        have h1:=ih.1 f.type a n _ y ha hy
        rw [eo,ea] at h1
        refine AllOk.append a b (cs.drop o) h1 ?_
        rw [List.drop_drop]
        exact ih.2 (o+a.length) r b cs n hbb (by simp at hlen;omega) (fun f' hf'=>hall f' (by simp [hf']))
       ·cases h
     ·cases h
theorem trod_flat {m:Nat} {t:TypeId} {ks:List CK} {fuel:Nat} {cs:List Value} {x:DataW H×List MemPlace} (h:flatK P m t=some ks) (ht:DataW.trod enc P w base spare held fuel t cs=some x):AllOk ks cs:=(trod_flat_both m).1 t ks fuel cs x h ht
theorem okWide_array {n:Nat} {e t:TypeId} {r:Reach} {b0:Nat} {v:Value} (ht:P.underlying t=some (.array n e)) (h:Value.okWide P w r b0 t v):∃cs,v= .agg cs∧cs.size=P.cellsOf t:=by
 simp only [Value.okWide,ht] at h
 obtain ⟨cs,h1,h2,_⟩:=h
 exact ⟨cs,h1,h2⟩
theorem allOk_rep {c:CK}:∀(n:Nat) (cs:List Value),cs.length=n→(∀v∈cs,CellOk c v)→AllOk (List.replicate n c) cs
 |0,cs,hl,_=>by simp only [List.replicate_zero,AllOk];exact List.eq_nil_of_length_eq_zero hl
 |n+1,[],hl,_=>by simp at hl
 |n+1,v::cs,hl,h=>by
  simp only [List.replicate_succ,AllOk]
  exact ⟨v,cs,rfl,h v (by simp),allOk_rep n cs (by simpa using hl) (fun x hx=>h x (by simp [hx]))⟩
theorem trod_arr {m n:Nat} {t e:TypeId} {c:CK} {fuel:Nat} {cs:List Value} {x:DataW H×List MemPlace} (hu:P.underlying t=some (.array n e)) (he:flatK P m e=some [c]) (h1:P.cellsOf e=1) (hn:P.cellsOf t=n) (ht:DataW.trod enc P w base spare held fuel t cs=some x):AllOk (List.replicate n c) cs:=by
 obtain ⟨xs,k,_,_,hlen,hxl,hf⟩:=DataW.trod_array hu ht
 rw [hn] at hlen
 refine allOk_rep n cs hlen ?_
 intro v hv
 obtain ⟨i,hi,rfl⟩:=List.mem_iff_getElem.1 hv
 have hh:=hf i (by omega)
 have hxi:i<xs.length:=by omega
 rw [h1,Nat.mul_one,List.getElem?_eq_getElem hxi] at hh
 have:=trod_flat he hh
 rw [List.drop_eq_getElem_cons hi] at this
 simp only [List.take_succ_cons,List.take_zero,AllOk] at this
 obtain ⟨y,ys,e1,e2,_⟩:=this
 cases e1
 exact e2
def intOf':Value→Int| .int _ n=>n|_=>0
def strOf':Value→ByteArray| .string s=>s|_=>⟨#[]⟩
def boolOf':Value→Bool| .bool b=>b|_=>false
def ColOk:CK→Col→Nat→Prop
 | .int k,c,n=>∃l,c= .ints k l∧l.length=n∧∀x∈l,(Lit.int k x).wf=true
 | .bool,c,n=>∃l,c= .bools l∧l.length=n
 | .str,c,n=>∃l,c= .strs l∧l.length=n∧∀x∈l,x.size≤maxLen
def ColsOk:List CK→List Col→Nat→Prop
 | [],l,_=>l= []
 |c::cs,l,n=>∃x r,l=x::r∧ColOk c x n∧ColsOk cs r n
def kcolOf (n:Nat) (v:Nat→Value):CK→Col
 | .int k=> .ints k ((List.range n).map fun i=>intOf' (v i))
 | .bool=> .bools ((List.range n).map fun i=>boolOf' (v i))
 | .str=> .strs ((List.range n).map fun i=>strOf' (v i))
def kcolsOf (n:Nat) (v:Nat→Nat→Value):Nat→List CK→List Col
 |_,[]=> []
 |j,c::cs=>kcolOf n (fun i=>v i j) c::kcolsOf n v (j+1) cs
theorem getD_map_range {α:Type} (n:Nat) (f:Nat→α) (d:α) (i:Nat) (h:i<n):((List.range n).map f).getD i d=f i:=by
 simp [List.getD,h]
theorem kcolOf_at {n:Nat} {v:Nat→Value} {c:CK} {g:G} {i:Nat} (hi:i<n) (h:CellOk c (v i)):Rv g ((kcolOf n v c).at i) (v i):=by
 cases c with
 |int k=>obtain ⟨m,e,_⟩:=h;simp only [kcolOf,Col.at,getD_map_range n _ _ i hi,e,intOf',Rv]
 |bool=>obtain ⟨b,e⟩:=h;simp only [kcolOf,Col.at,getD_map_range n _ _ i hi,e,boolOf',Rv]
 |str=>obtain ⟨s,e,_⟩:=h;simp only [kcolOf,Col.at,getD_map_range n _ _ i hi,e,strOf',Rv]
theorem kcolsOf_nth (n:Nat) (v:Nat→Nat→Value):∀(cs:List CK) (j k:Nat),nth (kcolsOf n v j cs) k=(nth cs k).map (fun c=>kcolOf n (fun i=>v i (j+k)) c)
 | [],j,k=>by simp [kcolsOf,nth]
 |c::cs,j,0=>by simp [kcolsOf,nth]
 |c::cs,j,k+1=>by
  simp only [kcolsOf,nth]
  rw [kcolsOf_nth n v cs (j+1) k,show j+1+k=j+(k+1) from by omega]
theorem kcolsOf_length (n:Nat) (v:Nat→Nat→Value):∀(cs:List CK) (j:Nat),(kcolsOf n v j cs).length=cs.length
 | [],j=>rfl
 |c::cs,j=>by simp [kcolsOf,kcolsOf_length n v cs (j+1)]
theorem kcolsOf_ok (n:Nat) (v:Nat→Nat→Value):∀(cs:List CK) (j:Nat),(∀i,i<n→∀k c,nth cs k=some c→CellOk c (v i (j+k)))→ColsOk cs (kcolsOf n v j cs) n
 | [],j,_=>by simp [kcolsOf,ColsOk]
 |c::cs,j,h=>by
  simp only [kcolsOf,ColsOk]
  refine ⟨_,_,rfl,?_,kcolsOf_ok n v cs (j+1) (fun i hi k c' hc=>by rw [show j+1+k=j+(k+1) from by omega];exact h i hi (k+1) c' hc)⟩
  have h0:∀i,i<n→CellOk c (v i j):=fun i hi=>h i hi 0 c rfl
  cases c with
  |int k=>
   refine ⟨_,rfl,by simp,?_⟩
   intro x hx
   simp only [List.mem_map,List.mem_range] at hx
   obtain ⟨i,hi,rfl⟩:=hx
   obtain ⟨m,e,hw⟩:=h0 i hi
   rw [e];exact hw
  |bool=>exact ⟨_,rfl,by simp⟩
  |str=>
   refine ⟨_,rfl,by simp,?_⟩
   intro x hx
   simp only [List.mem_map,List.mem_range] at hx
   obtain ⟨i,hi,rfl⟩:=hx
   obtain ⟨m,e,hw⟩:=h0 i hi
   rw [e];exact hw
theorem AllOk.nth:∀(ks:List CK) (vs:List Value) (j:Nat) (c:CK),AllOk ks vs→Sy.nth ks j=some c→∃v,vs[j]?=some v∧CellOk c v
 | [],vs,j,c,_,h=>by simp [Sy.nth] at h
 |k::ks,vs,j,c,h,hj=>by
  simp only [AllOk] at h
  obtain ⟨v,r,rfl,h1,h2⟩:=h
  cases j with
  |zero=>simp [Sy.nth] at hj;subst hj;exact ⟨v,by simp,h1⟩
  |succ j=>simp only [Sy.nth] at hj;obtain ⟨u,h3,h4⟩:=AllOk.nth ks r j c h2 hj;exact ⟨u,by simpa using h3,h4⟩
theorem cellOk_one {c:CK} {v:Value} (h:CellOk c v):v.oneCell'=true:=by
 cases c with
 |int k=>obtain ⟨n,rfl,_⟩:=h;rfl
 |bool=>obtain ⟨b,rfl⟩:=h;rfl
 |str=>obtain ⟨b,rfl,_⟩:=h;rfl
theorem colsOk_len:∀(ks:List CK) (cols:List Col) (n:Nat),ColsOk ks cols n→cols.length=ks.length∧∀c∈cols,c.len=n
 | [],cols,n,h=>by simp only [ColsOk] at h;subst h;simp
 |k::ks,cols,n,h=>by
  simp only [ColsOk] at h
  obtain ⟨x,r,rfl,h1,h2⟩:=h
  obtain ⟨i1,i2⟩:=colsOk_len ks r n h2
  refine ⟨by simp [i1],?_⟩
  intro c hc
  rcases List.mem_cons.1 hc with rfl|hc
  ·cases k with
   |int k=>obtain ⟨l,rfl,e,_⟩:=h1;exact e
   |bool=>obtain ⟨l,rfl,e⟩:=h1;exact e
   |str=>obtain ⟨l,rfl,e,_⟩:=h1;exact e
  ·exact i2 c hc
theorem slice_in {t e:TypeId} {m fuel:Nat} {v:Value} {ks:List CK} {x:DataW H×List MemPlace} (ht:P.underlying t=some (.slice e)) (hk:flatK P m e=some ks) (hlen:P.cellsOf e=ks.length) (h0:0<ks.length)
  (h:DataW.trod enc P w base (fun _=>true) held fuel t [v]=some x):
  ∃(n:Nat) (β:Base) (cols:List Col),n≤maxLen∧ColsOk ks cols n∧(∀(g:G) (h:Nat),g h 0=some β→Rv g (.sl h 0 0 n) v)∧(∀g:G,BlkAt g β true (.cols n (upCols cols)) w):=by
 have dead:∀a,v= .slice a 0 0→∃(n:Nat) (β:Base) (cols:List Col),n≤maxLen∧ColsOk ks cols n∧(∀(g:G) (h:Nat),g h 0=some β→Rv g (.sl h 0 0 n) v)∧(∀g:G,BlkAt g β true (.cols n (upCols cols)) w):=by
  intro a hv
  have hok:ColsOk ks (kcolsOf 0 (fun _ _=>undef) 0 ks) 0:=kcolsOf_ok _ _ _ _ (fun i hi=>absurd hi (Nat.not_lt_zero _))
  obtain ⟨l1,l2⟩:=colsOk_len _ _ _ hok
  refine ⟨0,⟨0,0,ks.length,0⟩,kcolsOf 0 (fun _ _=>undef) 0 ks,Nat.zero_le _,hok,?_,?_⟩
  ·intro g h _
   subst hv
   simp only [Rv]
   exact ⟨a,0,rfl,Nat.le_refl _,.inl rfl⟩
  ·intro g
   refine ⟨fun h=>by simp at h,by simp [Blk.es,(upCols_ok _).1,l1],?_,fun i hi=>by simp only [Blk.has] at hi;omega,fun i j sv hi=>by simp only [Blk.has] at hi;omega,fun i j v hi=>by simp only [Blk.has] at hi;omega,(fun h=>by cases h),trivial⟩
   intro c hc
   obtain ⟨j,hj⟩:=mem_nth hc
   rw [(upCols_ok _).2 j] at hj
   cases hn:nth (kcolsOf 0 (fun _ _=>undef) 0 ks) j with
   |none=>rw [hn] at hj;cases hj
   |some y=>rw [hn] at hj;cases hj;exact l2 y (nth_mem hn)
 rcases open_slice ht h with ⟨hv,_⟩|⟨a,len,cap,mm,nn,D,Pl,hv,_,hl,hm,hmm,hx,hi⟩
 ·simp only [List.cons.injEq,and_true] at hv
  exact dead none hv
 ·simp only [List.cons.injEq,and_true] at hv
  simp only [if_true] at hmm
  subst hmm
  have cell:∀i,i<mm→∀j c,nth ks j=some c→∃u,w.cell? (a.add (i*ks.length+j))=some u∧CellOk c u:=by
   intro i him j c hj
   obtain ⟨cs',hc,ht'⟩:=hi i him
   have hall:=trod_flat hk ht'
   obtain ⟨u,hu,hok⟩:=AllOk.nth ks cs' j c hall hj
   rw [hlen] at hc
   obtain ⟨_,hcl,hat⟩:=World.cells?_some hc
   have hjl:=nth_lt hj
   refine ⟨u,?_,hok⟩
   rw [←Go.Deep.add_add,hat j hjl]
   exact hu
  by_cases hz:mm=0
  ·subst hz
   have hl0:len=0:=by omega
   subst hl0
   exact dead (some a) hv
  ·subst hv
   obtain ⟨c0,hc0⟩:∃c0,nth ks 0=some c0:=by
    cases ks with
    |nil=>simp at h0
    |cons c r=>exact ⟨c,rfl⟩
   obtain ⟨u0,hu0,_⟩:=cell 0 (by omega) 0 c0 hc0
   simp only [Nat.zero_mul,Nat.add_zero] at hu0
   have ha0:a.add 0=a:=by simp [Addr.add]
   rw [ha0] at hu0
   have hspot:a.spot=none:=by
    unfold World.cell? at hu0
    split at hu0
    ·split at hu0
     ·cases hu0
     ·rename_i hs;simpa using hs
    ·cases hu0
   have hblk:a.block<w.heap.size:=by
    unfold World.cell? at hu0
    split at hu0
    ·rename_i hh;exact (Array.getElem?_eq_some_iff.1 hh).1
    ·cases hu0
   let β:Base:=⟨a.block,a.off,ks.length,mm⟩
   have haddr:∀i j,a.add (i*ks.length+j)=β.addr i j:=by
    intro i j
    obtain ⟨b,o,s⟩:=a
    simp only at hspot
    subst hspot
    unfold Addr.add Base.addr
    split
    ·rename_i h;simp only [β];congr 1;omega
    ·simp only [β];congr 1;omega
   let val:Nat→Nat→Value:=fun i j=>(w.cell? (β.addr i j)).getD undef
   have hcols:ColsOk ks (kcolsOf len val 0 ks) len:=by
    refine kcolsOf_ok len val ks 0 (fun i hi' k c hc=> ?_)
    obtain ⟨u,hu,hok⟩:=cell i (by omega) k c hc
    rw [haddr] at hu
    simp only [val,Nat.zero_add,hu,Option.getD_some];exact hok
   obtain ⟨l1,l2⟩:=colsOk_len _ _ _ hcols
   obtain ⟨u1,u2⟩:=upCols_ok (kcolsOf len val 0 ks)
   refine ⟨len,β,kcolsOf len val 0 ks,Nat.le_trans hl hm,hcols,?_,?_⟩
   ·intro g h hg
    simp only [Rv]
    refine ⟨some a,mm,rfl,hl,.inr ⟨β,hg,?_,by simp [β]⟩⟩
    have:=haddr 0 0
    simp only [Nat.zero_mul,Nat.add_zero,ha0] at this
    rw [this]
   ·intro g
    refine ⟨fun _=>hblk,by simp [Blk.es,u1,l1,β],?_,fun i hi=>by simp only [Blk.has] at hi;simp only [β];omega,?_,?_,(fun h=>by cases h),trivial⟩
    ·intro c hc
     obtain ⟨j,hj⟩:=mem_nth hc
     rw [u2 j] at hj
     cases hn:nth (kcolsOf len val 0 ks) j with
     |none=>rw [hn] at hj;cases hj
     |some y=>rw [hn] at hj;cases hj;exact l2 y (nth_mem hn)
    ·intro i j sv hi' hj
     simp only [Blk.has] at hi'
     simp only [Blk.at,u2 j,kcolsOf_nth] at hj
     cases hc:nth ks j with
     |none=>rw [hc] at hj;simp at hj
     |some c=>
      rw [hc] at hj
      simp only [Option.map_some,Option.some.injEq,Nat.zero_add] at hj
      subst hj
      obtain ⟨u,hu,hok⟩:=cell i (by omega) j c hc
      rw [haddr] at hu
      have hval:val i j=u:=by simp only [val,hu,Option.getD_some]
      refine ⟨u,hu,?_⟩
      rw [←hval]
      exact kcolOf_at (v:=fun i=>val i j) hi' (by rw [hval];exact hok)
    ·intro i j v' hi' hj hv'
     simp only [Blk.has] at hi'
     obtain ⟨c,hc⟩:∃c,nth ks j=some c:=⟨ks[j],by rw [nth_eq];exact List.getElem?_eq_getElem hj⟩
     obtain ⟨u,hu,hok⟩:=cell i (by omega) j c hc
     rw [haddr,hv'] at hu
     cases hu
     exact cellOk_one hok
theorem holds_ro {g:G} {w:World}:∀(Hp:Heap),(∀p∈Hp,∃b β,p.2=some (.one true b)∧g p.1 0=some β∧BlkAt g β true b w)→Holds g Hp w∧∀h q ro b,Ent Hp h q ro b→ro=true:=by
 intro Hp hall
 have key:∀h q ro b,Ent Hp h q ro b→ro=true∧∃β,g h q=some β∧BlkAt g β ro b w:=by
  intro h q ro b he
  obtain ⟨hb,m1,m2⟩:=ent_mem Hp h q ro b he
  have:∀(L:Heap),(∀p∈L,∃b β,p.2=some (.one true b)∧g p.1 0=some β∧BlkAt g β true b w)→Ent L h q ro b→ro=true∧∃β,g h q=some β∧BlkAt g β ro b w:=by
   intro L
   induction L with
   |nil=>intro _ he;obtain ⟨hb,e,_⟩:=he;simp [hget] at e
   |cons p L ih=>
    intro hL he
    obtain ⟨k,o⟩:=p
    rcases ent_cons.1 he with ⟨rfl,hb',e1,e2,e3⟩|⟨_,he⟩
    ·obtain ⟨b',β,f1,f2,f3⟩:=hL (k,o) (by simp)
     simp only at f1 f2
     rw [f1] at e1;cases e1
     simp only [HB.is] at e2
     obtain ⟨rfl,rfl⟩:=e2
     simp only [HB.ro] at e3
     subst e3
     exact ⟨rfl,β,f2,f3⟩
    ·exact ih (fun p hp=>hL p (by simp [hp])) he
  exact this Hp hall he
 refine ⟨⟨fun h q ro b he=>(key h q ro b he).2,?_⟩,fun h q ro b he=>(key h q ro b he).1⟩
 intro h q h' q' b ro' b' β β' _ he
 have:=(key h q false b he).1
 cases this
end
end Go.Sy
