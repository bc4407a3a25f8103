/- The condition is right: renaming of handles, calls. No program in sight. -/
import Derived.Test.YtlankgapiecloaaGreatDoorYVc
import Derived.Test.YtlankgapiecloaaGreatDoorYS12
namespace Go.Sy
open Go.RowKit
def Same (n:Nat) (ρ:Nat→Nat) (g g':G):Prop:=∀h q β,h<n→(g h q=some β↔g' (ρ h) q=some β)
mutual
theorem Rv.ren {n:Nat} {ρ:Nat→Nat} {g g':G} (hs:Same n ρ g g'):∀(sv:SV) (v:Value),SV.wf n sv=true→(Rv g sv v↔Rv g' (SV.ren ρ sv) v)
 | .bool _,_,_=>by simp only [SV.ren,Rv]
 | .int _ _,_,_=>by simp only [SV.ren,Rv]
 | .str _,_,_=>by simp only [SV.ren,Rv]
 | .ptr h q i j,v,hw=>by
   simp only [SV.ren,Rv]
   have hl:h<n:=by simpa [SV.wf] using hw
   constructor
   ·rintro ⟨β,e,k⟩;exact ⟨β,(hs h q β hl).1 e,k⟩
   ·rintro ⟨β,e,k⟩;exact ⟨β,(hs h q β hl).2 e,k⟩
 | .nptr,_,_=>by simp only [SV.ren,Rv]
 | .sl h q i m,v,hw=>by
   simp only [SV.ren,Rv]
   have hl:h<n:=by simpa [SV.wf] using hw
   constructor
   ·rintro ⟨ad,c,e,hn,k⟩
    refine ⟨ad,c,e,hn,?_⟩
    rcases k with k|⟨β,e1,k⟩
    ·exact .inl k
    ·exact .inr ⟨β,(hs h q β hl).1 e1,k⟩
   ·rintro ⟨ad,c,e,hn,k⟩
    refine ⟨ad,c,e,hn,?_⟩
    rcases k with k|⟨β,e1,k⟩
    ·exact .inl k
    ·exact .inr ⟨β,(hs h q β hl).2 e1,k⟩
 | .nsl,_,_=>by simp only [SV.ren,Rv]
 | .zsl,_,_=>by simp only [SV.ren,Rv]
 | .map h q,v,hw=>by
   simp only [SV.ren,Rv]
   have hl:h<n:=by simpa [SV.wf] using hw
   constructor
   ·rintro ⟨β,e,k⟩;exact ⟨β,(hs h q β hl).1 e,k⟩
   ·rintro ⟨β,e,k⟩;exact ⟨β,(hs h q β hl).2 e,k⟩
 | .nmap,_,_=>by simp only [SV.ren,Rv]
 | .fn f l,v,hw=>by
   simp only [SV.ren,Rv]
   have hw':SV.wfs n l=true:=by simpa [SV.wf] using hw
   constructor
   ·rintro ⟨vs,e,k⟩;exact ⟨vs,e,(Rvs.ren hs l _ hw').1 k⟩
   ·rintro ⟨vs,e,k⟩;exact ⟨vs,e,(Rvs.ren hs l _ hw').2 k⟩
 | .iface t s,v,hw=>by
   simp only [SV.ren,Rv]
   have hw':SV.wf n s=true:=by simpa [SV.wf] using hw
   constructor
   ·rintro ⟨u,e,k⟩;exact ⟨u,e,(Rv.ren hs s _ hw').1 k⟩
   ·rintro ⟨u,e,k⟩;exact ⟨u,e,(Rv.ren hs s _ hw').2 k⟩
 | .nif,_,_=>by simp only [SV.ren,Rv]
 | .agg l,v,hw=>by
   simp only [SV.ren,Rv]
   have hw':SV.wfs n l=true:=by simpa [SV.wf] using hw
   constructor
   ·rintro ⟨vs,e,k⟩;exact ⟨vs,e,(Rvs.ren hs l _ hw').1 k⟩
   ·rintro ⟨vs,e,k⟩;exact ⟨vs,e,(Rvs.ren hs l _ hw').2 k⟩
 | .arr _ _,_,_=>by simp only [SV.ren,Rv]
 | .tup l,v,hw=>by
   simp only [SV.ren,Rv]
   have hw':SV.wfs n l=true:=by simpa [SV.wf] using hw
   constructor
   ·rintro ⟨vs,e,k⟩;exact ⟨vs,e,(Rvs.ren hs l _ hw').1 k⟩
   ·rintro ⟨vs,e,k⟩;exact ⟨vs,e,(Rvs.ren hs l _ hw').2 k⟩
 | .raw _,_,_=>by simp only [SV.ren,Rv]
 | .unk,_,_=>by simp only [SV.ren,Rv]
theorem Rvs.ren {n:Nat} {ρ:Nat→Nat} {g g':G} (hs:Same n ρ g g'):∀(l:List SV) (vs:List Value),SV.wfs n l=true→(Rvs g l vs↔Rvs g' (SV.rens ρ l) vs)
 | [],_,_=>by simp only [SV.rens,Rvs]
 |s::l,vs,hw=>by
  simp only [SV.rens,Rvs]
  have hw':SV.wf n s=true∧SV.wfs n l=true:=by simpa [SV.wfs] using hw
  constructor
  ·rintro ⟨v,vs',e,h1,h2⟩;exact ⟨v,vs',e,(Rv.ren hs s v hw'.1).1 h1,(Rvs.ren hs l vs' hw'.2).1 h2⟩
  ·rintro ⟨v,vs',e,h1,h2⟩;exact ⟨v,vs',e,(Rv.ren hs s v hw'.1).2 h1,(Rvs.ren hs l vs' hw'.2).2 h2⟩
end
def Into (ρ:Nat→Nat) (g g':G):Prop:=∀h q β,g h q=some β→g' (ρ h) q=some β
mutual
theorem Rv.into {ρ:Nat→Nat} {g g':G} (hs:Into ρ g g'):∀(sv:SV) (v:Value),Rv g sv v→Rv g' (SV.ren ρ sv) v
 | .bool _,_,r=>by simp only [SV.ren,Rv] at r⊢;exact r
 | .int _ _,_,r=>by simp only [SV.ren,Rv] at r⊢;exact r
 | .str _,_,r=>by simp only [SV.ren,Rv] at r⊢;exact r
 | .ptr h q i j,v,r=>by simp only [SV.ren,Rv] at r⊢;obtain ⟨β,e,k⟩:=r;exact ⟨β,hs h q β e,k⟩
 | .nptr,_,r=>by simp only [SV.ren,Rv] at r⊢;exact r
 | .sl h q i m,v,r=>by
   simp only [SV.ren,Rv] at r⊢
   obtain ⟨ad,c,e,hn,k⟩:=r
   refine ⟨ad,c,e,hn,?_⟩
   rcases k with k|⟨β,e1,k⟩
   ·exact .inl k
   ·exact .inr ⟨β,hs h q β e1,k⟩
 | .nsl,_,r=>by simp only [SV.ren,Rv] at r⊢;exact r
 | .zsl,_,r=>by simp only [SV.ren,Rv] at r⊢;exact r
 | .map h q,v,r=>by simp only [SV.ren,Rv] at r⊢;obtain ⟨β,e,k⟩:=r;exact ⟨β,hs h q β e,k⟩
 | .nmap,_,r=>by simp only [SV.ren,Rv] at r⊢;exact r
 | .fn f l,v,r=>by simp only [SV.ren,Rv] at r⊢;obtain ⟨vs,e,k⟩:=r;exact ⟨vs,e,Rvs.into hs l _ k⟩
 | .iface t s,v,r=>by simp only [SV.ren,Rv] at r⊢;obtain ⟨u,e,k⟩:=r;exact ⟨u,e,Rv.into hs s _ k⟩
 | .nif,_,r=>by simp only [SV.ren,Rv] at r⊢;exact r
 | .agg l,v,r=>by simp only [SV.ren,Rv] at r⊢;obtain ⟨vs,e,k⟩:=r;exact ⟨vs,e,Rvs.into hs l _ k⟩
 | .arr _ _,_,r=>by simp only [SV.ren,Rv] at r⊢;exact r
 | .tup l,v,r=>by simp only [SV.ren,Rv] at r⊢;obtain ⟨vs,e,k⟩:=r;exact ⟨vs,e,Rvs.into hs l _ k⟩
 | .raw _,_,r=>by simp only [SV.ren,Rv] at r⊢;exact r
 | .unk,_,_=>by simp only [SV.ren,Rv]
theorem Rvs.into {ρ:Nat→Nat} {g g':G} (hs:Into ρ g g'):∀(l:List SV) (vs:List Value),Rvs g l vs→Rvs g' (SV.rens ρ l) vs
 | [],_,r=>by simp only [SV.rens,Rvs] at r⊢;exact r
 |s::l,vs,r=>by
  simp only [SV.rens,Rvs] at r⊢
  obtain ⟨v,vs',e,h1,h2⟩:=r
  exact ⟨v,vs',e,Rv.into hs s v h1,Rvs.into hs l vs' h2⟩
end
theorem rens_eq (ρ:Nat→Nat):∀l:List SV,SV.rens ρ l=l.map (SV.ren ρ)
 | []=>rfl
 |s::l=>by simp [SV.rens,rens_eq ρ l]
theorem renCols_eq (ρ:Nat→Nat):∀l:List BCol,renCols ρ l=l.map (BCol.ren ρ)
 | []=>rfl
 |s::l=>by simp [renCols,renCols_eq ρ l]
theorem BCol.ren_at (ρ:Nat→Nat) (c:BCol) (i:Nat):(c.ren ρ).at i=SV.ren ρ (c.at i):=by
 cases c with
 |sc c=>cases c<;>rfl
 |svs l=>
  simp only [BCol.ren,BCol.at,rens_eq,List.getD,List.getElem?_map]
  cases l[i]?<;>rfl
 |own h ns=>rfl
 |arrs n k r=>rfl
 |ptrs h n=>rfl
theorem Blk.ren_at (ρ:Nat→Nat) (b:Blk) (i j:Nat):(b.ren ρ).at i j=(b.at i j).map (SV.ren ρ):=by
 cases b with
 |cells l=>simp only [Blk.ren,Blk.at,rens_eq,nth_eq,List.getElem?_map]
 |cols n l=>
  simp only [Blk.ren,Blk.at,renCols_eq,nth_eq,List.getElem?_map]
  cases l[j]? with
  |none=>rfl
  |some c=>simp [BCol.ren_at]
 |obj o=>rfl
theorem Blk.ren_has (ρ:Nat→Nat) (b:Blk) (i:Nat):(b.ren ρ).has i↔b.has i:=by cases b<;>exact Iff.rfl
theorem Blk.ren_es (ρ:Nat→Nat) (b:Blk):(b.ren ρ).es=b.es:=by
 cases b<;>simp [Blk.ren,Blk.es,rens_eq,renCols_eq]
theorem Blk.ren_len (ρ:Nat→Nat) (b:Blk):(b.ren ρ).lenOk↔b.lenOk:=by
 cases b with
 |cells l=>exact Iff.rfl
 |cols n l=>
  simp only [Blk.ren,Blk.lenOk,renCols_eq,List.mem_map,forall_exists_index,and_imp,forall_apply_eq_imp_iff₂]
  have:∀c:BCol,(c.ren ρ).len=c.len:=by intro c;cases c<;>simp [BCol.ren,BCol.len,rens_eq]
  simp [this]
 |obj o=>exact Iff.rfl
theorem bcolsAt_ren (ρ:Nat→Nat):∀(l:List BCol) (i:Nat),bcolsAt (renCols ρ l) i=SV.rens ρ (bcolsAt l i)
 | [],_=>rfl
 |c::l,i=>by simp only [renCols,bcolsAt,SV.rens,BCol.ren_at,bcolsAt_ren ρ l i]
theorem elemS_ren (ρ:Nat→Nat) (ea:Bool) (l:List BCol) (i:Nat):elemS ea (renCols ρ l) i=SV.ren ρ (elemS ea l i):=by
 cases ea with
 |true=>simp only [elemS,SV.ren,bcolsAt_ren]
 |false=>
  match l with
  | []=>rfl
  | [c]=>simp only [renCols,elemS,BCol.ren_at]
  |_::_::_=>rfl
theorem renCols_len (ρ:Nat→Nat) {l:List BCol} {n:Nat}:(∀c∈renCols ρ l,c.len=n)↔∀c∈l,c.len=n:=by
 have:∀c:BCol,(c.ren ρ).len=c.len:=by intro c;cases c<;>simp [BCol.ren,BCol.len,rens_eq]
 simp [renCols_eq,this]
theorem wfs_mem {n:Nat}:∀{l:List SV} {s:SV},SV.wfs n l=true→s∈l→SV.wf n s=true
 | [],s,_,h=>by cases h
 |x::l,s,hw,h=>by
  simp only [SV.wfs,Bool.and_eq_true] at hw
  rcases List.mem_cons.1 h with rfl|h
  ·exact hw.1
  ·exact wfs_mem hw.2 h
theorem colsWf_mem {n:Nat}:∀{l:List BCol} {c:BCol},colsWf n l=true→c∈l→c.wf n=true
 | [],s,_,h=>by cases h
 |x::l,s,hw,h=>by
  simp only [colsWf,Bool.and_eq_true] at hw
  rcases List.mem_cons.1 h with rfl|h
  ·exact hw.1
  ·exact colsWf_mem hw.2 h
theorem Col.at_wf (n:Nat) (c:Col) (i:Nat):SV.wf n (c.at i)=true:=by cases c<;>rfl
theorem Blk.wf_at {n:Nat} {b:Blk} {i j:Nat} {sv:SV} (h:b.wf n=true) (hj:b.at i j=some sv):SV.wf n sv=true:=by
 cases b with
 |cells l=>
  simp only [Blk.at] at hj
  exact wfs_mem h (nth_mem hj)
 |cols m l=>
  simp only [Blk.at] at hj
  split at hj
  ·rename_i c hc
   simp only [Option.some.injEq] at hj
   subst hj
   have hw:=colsWf_mem h (nth_mem hc)
   cases c with
   |sc c=>exact Col.at_wf n c i
   |svs l=>
    simp only [BCol.at,List.getD]
    cases hx:l[i]? with
    |none=>rfl
    |some s=>exact wfs_mem hw (List.mem_of_getElem? hx)
   |own h ns=>exact hw
   |ptrs h m=>exact hw
   |arrs n k r=>rfl
  ·cases hj
 |obj o=>cases hj
theorem BCol.at_wf {n:Nat} {c:BCol} (h:c.wf n=true) (i:Nat):SV.wf n (c.at i)=true:=by
 cases c with
 |sc c=>exact Col.at_wf n c i
 |svs l=>
  simp only [BCol.at,List.getD]
  cases hx:l[i]? with
  |none=>rfl
  |some s=>exact wfs_mem h (List.mem_of_getElem? hx)
 |own hh ns=>exact h
 |ptrs hh m=>exact h
 |arrs n k r=>rfl
theorem bcolsAt_wf {n:Nat}:∀{l:List BCol} (i:Nat),colsWf n l=true→SV.wfs n (bcolsAt l i)=true
 | [],_,_=>rfl
 |c::l,i,h=>by
  simp only [colsWf,Bool.and_eq_true] at h
  simp only [bcolsAt,SV.wfs,Bool.and_eq_true]
  exact ⟨BCol.at_wf h.1 i,bcolsAt_wf i h.2⟩
theorem elemS_wf {n:Nat} {ea:Bool} {l:List BCol} (i:Nat) (h:colsWf n l=true):SV.wf n (elemS ea l i)=true:=by
 cases ea with
 |true=>simp only [elemS,SV.wf];exact bcolsAt_wf i h
 |false=>
  match l,h with
  | [],_=>rfl
  | [c],h=>simp only [colsWf,Bool.and_true] at h;exact BCol.at_wf h i
  |_::_::_,_=>rfl
theorem objOk_back {n:Nat} {ρ:Nat→Nat} {g g':G} (hs:Same n ρ g g') {β:Base} {o:ObjS} {w:World} (hw:o.wf n=true) (h:(o.ren ρ).Ok g' w β):o.Ok g w β:=by
 cases o with
 |map ka ea m ks vs bs ck=>
  obtain ⟨es,e,k⟩:=h
  exact ⟨es,e,k.size,k.kl,(renCols_len ρ).1 k.vl,k.bl,k.nd,k.lt,fun i x hx=>⟨(k.row i x hx).1,(k.row i x hx).2.1,(Rv.ren hs _ _ (elemS_wf i hw)).2 (by rw [←elemS_ren];exact (k.row i x hx).2.2)⟩⟩
 |iter h0 q a b c=>
  obtain ⟨β',e1,e⟩:=h
  exact ⟨β',(hs h0 q β' (by simpa [ObjS.wf] using hw)).2 e1,e⟩
 |niter=>exact h
 |siter s p=>exact h
 |bld0 T=>exact h
 |bld T h0 q n=>
  obtain ⟨β',e1,e⟩:=h
  exact ⟨β',(hs h0 q β' (by simpa [ObjS.wf] using hw)).2 e1,e⟩
 |brow T s=>exact h
 |bag Q=>exact h
theorem blkOk_back {n:Nat} {ρ:Nat→Nat} {g g':G} (hs:Same n ρ g g') {β:Base} {b:Blk} {w:World} (hw:b.wf n=true) (h:(b.ren ρ).Ok g' w β):b.Ok g w β:=by
 cases b with
 |obj o=>exact ⟨h.1,h.2.1,objOk_back hs hw h.2.2⟩
 |_=>trivial
theorem objOk_into {ρ:Nat→Nat} {g g':G} (hs:Into ρ g g') {β:Base} {o:ObjS} {w:World} (h:o.Ok g w β):(o.ren ρ).Ok g' w β:=by
 cases o with
 |map ka ea m ks vs bs ck=>
  obtain ⟨es,e,k⟩:=h
  exact ⟨es,e,k.size,k.kl,(renCols_len ρ).2 k.vl,k.bl,k.nd,k.lt,fun i x hx=>⟨(k.row i x hx).1,(k.row i x hx).2.1,by rw [elemS_ren];exact Rv.into hs _ _ (k.row i x hx).2.2⟩⟩
 |iter h0 q a b c=>
  obtain ⟨β',e1,e⟩:=h
  exact ⟨β',hs h0 q β' e1,e⟩
 |niter=>exact h
 |siter s p=>exact h
 |bld0 T=>exact h
 |bld T h0 q n=>
  obtain ⟨β',e1,e⟩:=h
  exact ⟨β',hs h0 q β' e1,e⟩
 |brow T s=>exact h
 |bag Q=>exact h
theorem blkOk_into {ρ:Nat→Nat} {g g':G} (hs:Into ρ g g') {β:Base} {b:Blk} {w:World} (h:b.Ok g w β):(b.ren ρ).Ok g' w β:=by
 cases b with
 |obj o=>exact ⟨h.1,h.2.1,objOk_into hs h.2.2⟩
 |_=>trivial
theorem blkAt_back {n:Nat} {ρ:Nat→Nat} {g g':G} (hs:Same n ρ g g') {β:Base} {ro ro':Bool} {b:Blk} {w:World} (hw:b.wf n=true) (hro:ro=false→ro'=false) (h:BlkAt g' β ro' (b.ren ρ) w):BlkAt g β ro b w:=by
 refine ⟨h.lt,by rw [h.es,Blk.ren_es],(Blk.ren_len ρ b).1 h.len,fun i hi=>h.cap i ((Blk.ren_has ρ b i).2 hi),?_,fun i j v hi=>h.one i j v ((Blk.ren_has ρ b i).2 hi),fun hr=>h.rw (hro hr),blkOk_back hs hw h.obj⟩
 intro i j sv hi hj
 obtain ⟨v,h1,h2⟩:=h.cell i j (SV.ren ρ sv) ((Blk.ren_has ρ b i).2 hi) (by rw [Blk.ren_at,hj];rfl)
 exact ⟨v,h1,(Rv.ren hs sv v (Blk.wf_at hw hj)).2 h2⟩
theorem blkAt_into {ρ:Nat→Nat} {g g':G} (hs:Into ρ g g') {β:Base} {ro:Bool} {b:Blk} {w:World} (h:BlkAt g β ro b w):BlkAt g' β ro (b.ren ρ) w:=by
 refine ⟨h.lt,by rw [h.es,Blk.ren_es],(Blk.ren_len ρ b).2 h.len,fun i hi=>h.cap i ((Blk.ren_has ρ b i).1 hi),?_,fun i j v hi=>h.one i j v ((Blk.ren_has ρ b i).1 hi),h.rw,blkOk_into hs h.obj⟩
 intro i j sv hi hj
 rw [Blk.ren_at] at hj
 cases hb:b.at i j with
 |none=>rw [hb] at hj;cases hj
 |some s=>
  rw [hb] at hj
  simp only [Option.map_some,Option.some.injEq] at hj
  subst hj
  obtain ⟨v,h1,h2⟩:=h.cell i j s ((Blk.ren_has ρ b i).1 hi) hb
  exact ⟨v,h1,Rv.into hs s v h2⟩
theorem HB.ren_is {ρ:Nat→Nat} {hb:HB} {q:Nat} {b:Blk}:(hb.ren ρ).is q b↔∃b0,hb.is q b0∧b=b0.ren ρ:=by
 cases hb with
 |one r b'=>
  simp only [HB.ren,HB.is];constructor
  ·rintro ⟨rfl,rfl⟩;exact ⟨_,⟨rfl,rfl⟩,rfl⟩
  ·rintro ⟨_,⟨rfl,rfl⟩,rfl⟩;exact ⟨rfl,rfl⟩
 |fam r dom f=>
  simp only [HB.ren,HB.is];constructor
  ·rintro ⟨h,rfl⟩;exact ⟨_,⟨h,rfl⟩,rfl⟩
  ·rintro ⟨_,⟨h,rfl⟩,rfl⟩;exact ⟨h,rfl⟩
theorem HB.ren_ro (ρ:Nat→Nat) (hb:HB):(hb.ren ρ).ro=hb.ro:=by cases hb<;>rfl
theorem HB.fits_is {hb hb':HB} (h:hb.fits hb') {q:Nat} {b:Blk} (hi:hb.is q b):hb'.is q b∧(hb.ro=false→hb'.ro=false):=by
 cases hb<;>cases hb'<;>simp only [HB.fits] at h
 ·obtain ⟨h1,rfl⟩:=h
  exact ⟨hi,fun e=>by simp only [HB.ro] at e⊢;rw [e] at h1;simpa using h1⟩
 ·obtain ⟨h1,rfl,rfl⟩:=h
  exact ⟨hi,fun e=>by simp only [HB.ro] at e⊢;rw [e] at h1;simpa using h1⟩
theorem hmatch_ent {ρ:Nat→Nat} {Hc:Heap}:∀(H:Heap),hmatch ρ H Hc→∀h q ro b,Ent H h q ro b→∃ro',Ent Hc (ρ h) q ro' (b.ren ρ)∧(ro=false→ro'=false)
 | [],_,h,q,ro,b,he=>by obtain ⟨hb,e,_⟩:=he;simp [hget] at e
 |(k,some hb)::r,hm,h,q,ro,b,he=>by
  simp only [hmatch] at hm
  rcases ent_cons.1 he with ⟨rfl,hb',e1,e2,e3⟩|⟨_,he⟩
  ·cases e1
   have h1:=hm.1
   unfold fitsAt at h1
   split at h1
   ·rename_i hc hhc
    obtain ⟨k1,k2⟩:=HB.fits_is h1 (HB.ren_is.2 ⟨b,e2,rfl⟩)
    exact ⟨hc.ro,⟨hc,hhc,k1,rfl⟩,fun e=>k2 (by rw [HB.ren_ro,e3,e])⟩
   ·exact h1.elim
  ·exact hmatch_ent r hm.2 h q ro b he
 |(k,none)::r,hm,h,q,ro,b,he=>by simp only [hmatch] at hm
theorem heapWf_ent {n:Nat}:∀(H:Heap),heapWf n H→∀h q ro b,Ent H h q ro b→h<n∧b.wf n=true
 | [],_,h,q,ro,b,he=>by obtain ⟨hb,e,_⟩:=he;simp [hget] at e
 |(k,some hb)::r,hm,h,q,ro,b,he=>by
  simp only [heapWf] at hm
  rcases ent_cons.1 he with ⟨rfl,hb',e1,e2,e3⟩|⟨_,he⟩
  ·cases e1
   refine ⟨by simpa using hm.1,?_⟩
   cases hb with
   |one r' b'=>simp only [HB.is] at e2;rw [e2.2];exact hm.2.1
   |fam r' dom f=>simp only [HB.is] at e2;rw [e2.2];exact hm.2.1 q e2.1
  ·exact heapWf_ent r hm.2.2 h q ro b he
 |(k,none)::r,hm,h,q,ro,b,he=>by simp only [heapWf] at hm
theorem renH_ent {ρ:Nat→Nat} {X:Heap}:∀(H:Heap) (h q:Nat) (ro:Bool) (b:Blk),Ent (renH ρ H++X) h q ro b→(∃k b0,ρ k=h∧Ent H k q ro b0∧b=b0.ren ρ)∨Ent X h q ro b:=by
 intro H
 induction H with
 |nil=>intro h q ro b he;exact .inr he
 |cons p r ih=>
  intro h q ro b he
  obtain ⟨k,o⟩:=p
  have up:∀(he':Ent (renH ρ r++X) h q ro b),ρ k≠h→(∃k' b0,ρ k'=h∧Ent ((k,o)::r) k' q ro b0∧b=b0.ren ρ)∨Ent X h q ro b:=by
   intro he' hne
   rcases ih h q ro b he' with ⟨k',b0,e1,e2,e3⟩|hx
   ·exact .inl ⟨k',b0,e1,ent_cons.2 (.inr ⟨fun e=>hne (by rw [e];exact e1),e2⟩),e3⟩
   ·exact .inr hx
  cases o with
  |none=>
   simp only [renH,List.cons_append] at he
   rcases ent_cons.1 he with ⟨_,hb,e1,_⟩|⟨hne,he'⟩
   ·cases e1
   ·exact up he' hne
  |some hb=>
   simp only [renH,List.cons_append] at he
   rcases ent_cons.1 he with ⟨e,hb',e1,e2,e3⟩|⟨hne,he'⟩
   ·cases e1
    obtain ⟨b0,k1,k2⟩:=HB.ren_is.1 e2
    exact .inl ⟨k,b0,e,ent_cons.2 (.inl ⟨rfl,hb,rfl,k1,by rw [←e3,HB.ren_ro]⟩),k2⟩
   ·exact up he' hne
theorem lost_ent {ρ:Nat→Nat} {X:Heap}:∀(H:Heap) (h q:Nat) (ro:Bool) (b:Blk),Ent (lost ρ H++X) h q ro b→Ent X h q ro b∧∀k hb,(k,some hb)∈H→hb.ro=false→ρ k≠h:=by
 intro H
 induction H with
 |nil=>intro h q ro b he;exact ⟨he,by simp⟩
 |cons p r ih=>
  intro h q ro b he
  obtain ⟨k,o⟩:=p
  cases o with
  |none=>
   simp only [lost] at he
   obtain ⟨h1,h2⟩:=ih h q ro b he
   exact ⟨h1,fun k' hb hm hr=>by rcases List.mem_cons.1 hm with e|hm;cases e;exact h2 k' hb hm hr⟩
  |some hb=>
   simp only [lost] at he
   cases hr:hb.ro with
   |true=>
    rw [hr] at he
    obtain ⟨h1,h2⟩:=ih h q ro b he
    refine ⟨h1,fun k' hb' hm hr'=> ?_⟩
    rcases List.mem_cons.1 hm with e|hm
    ·cases e;rw [hr] at hr';cases hr'
    ·exact h2 k' hb' hm hr'
   |false=>
    rw [hr] at he
    simp only [cond_false,List.cons_append] at he
    rcases ent_cons.1 he with ⟨_,hb',e1,_⟩|⟨hne,he'⟩
    ·cases e1
    ·obtain ⟨h1,h2⟩:=ih h q ro b he'
     refine ⟨h1,fun k' hb' hm hr'=> ?_⟩
     rcases List.mem_cons.1 hm with e|hm
     ·cases e;exact hne
     ·exact h2 k' hb' hm hr'
theorem ent_mem:∀(H:Heap) (h q:Nat) (ro:Bool) (b:Blk),Ent H h q ro b→∃hb,(h,some hb)∈H∧hb.ro=ro:=by
 intro H
 induction H with
 |nil=>intro h q ro b he;obtain ⟨hb,e,_⟩:=he;simp [hget] at e
 |cons p r ih=>
  intro h q ro b he
  obtain ⟨k,o⟩:=p
  rcases ent_cons.1 he with ⟨rfl,hb',e1,e2,e3⟩|⟨_,he⟩
  ·subst e1;exact ⟨hb',by simp,e3⟩
  ·obtain ⟨hb,h1,h2⟩:=ih h q ro b he
   exact ⟨hb,by simp [h1],h2⟩
end Go.Sy
