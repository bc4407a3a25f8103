/- A contract of single blocks at members of families: an object that is one of many. No program in sight. -/
import Derived.Test.YtlankgapiecloaaGreatDoorYArg
namespace Go.Sy
open Go.RowKit
set_option linter.unusedVariables false
mutual
def SV.mem (μ:Nat→Nat):SV→SV
 | .ptr h q i j=> .ptr h (q+μ h) i j
 | .sl h q i n=> .sl h (q+μ h) i n
 | .map h q=> .map h (q+μ h)
 | .fn f l=> .fn f (SV.mems μ l)
 | .iface t v=> .iface t (SV.mem μ v)
 | .agg l=> .agg (SV.mems μ l)
 | .tup l=> .tup (SV.mems μ l)
 | .bool b=> .bool b
 | .int k n=> .int k n
 | .str s=> .str s
 | .nptr=> .nptr
 | .nsl=> .nsl
 | .zsl=> .zsl
 | .nmap=> .nmap
 | .nif=> .nif
 | .arr n l=> .arr n l
 | .raw v=> .raw v
 | .unk=> .unk
def SV.mems (μ:Nat→Nat):List SV→List SV
 | []=> []
 |s::r=>SV.mem μ s::SV.mems μ r
end
def BCol.mem (μ:Nat→Nat):BCol→BCol
 | .sc c=> .sc c
 | .svs l=> .svs (SV.mems μ l)
 | .own h ns=> .own h ns
 | .arrs n k r=> .arrs n k r
 | .ptrs h n=> .ptrs h n
def memCols (μ:Nat→Nat):List BCol→List BCol
 | []=> []
 |c::l=>c.mem μ::memCols μ l
def ObjS.mem (μ:Nat→Nat):ObjS→ObjS
 | .map ka ea n ks vs bs ck=> .map ka ea n ks (memCols μ vs) bs ck
 | .iter h q a b c=> .iter h (q+μ h) a b c
 | .niter=> .niter
 | .siter s p=> .siter s p
 | .bld0 T=> .bld0 T
 | .bld T h q n=> .bld T h (q+μ h) n
 | .brow T s=> .brow T s
 | .bag Q=> .bag Q
def Blk.mem (μ:Nat→Nat):Blk→Blk
 | .cells l=> .cells (SV.mems μ l)
 | .cols n l=> .cols n (memCols μ l)
 | .obj o=> .obj (o.mem μ)
def BCol.mok (μ:Nat→Nat):BCol→Bool
 | .own h _=>Nat.beq (μ h) 0
 | .ptrs h _=>Nat.beq (μ h) 0
 |_=>true
def colsMok (μ:Nat→Nat):List BCol→Bool
 | []=>true
 |c::l=>c.mok μ&&colsMok μ l
def Blk.mok (μ:Nat→Nat):Blk→Bool
 | .cells _=>true
 | .cols _ l=>colsMok μ l
 | .obj (.map _ _ _ _ vs _ _)=>colsMok μ vs
 | .obj _=>true
def Sm (μ:Nat→Nat) (g g':G):Prop:=∀h q,g h q=g' h (q+μ h)
mutual
theorem Rv.mem {μ:Nat→Nat} {g g':G} (hs:Sm μ g g'):∀(sv:SV) (v:Value),Rv g sv v↔Rv g' (SV.mem μ sv) v
 | .bool _,_=>by simp only [SV.mem,Rv]
 | .int _ _,_=>by simp only [SV.mem,Rv]
 | .str _,_=>by simp only [SV.mem,Rv]
 | .ptr h q i j,v=>by simp only [SV.mem,Rv,hs h q]
 | .nptr,_=>by simp only [SV.mem,Rv]
 | .sl h q i m,v=>by simp only [SV.mem,Rv,hs h q]
 | .nsl,_=>by simp only [SV.mem,Rv]
 | .zsl,_=>by simp only [SV.mem,Rv]
 | .map h q,v=>by simp only [SV.mem,Rv,hs h q]
 | .nmap,_=>by simp only [SV.mem,Rv]
 | .fn f l,v=>by
   simp only [SV.mem,Rv]
   constructor
   ·rintro ⟨vs,e,k⟩;exact ⟨vs,e,(Rvs.mem hs l _).1 k⟩
   ·rintro ⟨vs,e,k⟩;exact ⟨vs,e,(Rvs.mem hs l _).2 k⟩
 | .iface t s,v=>by
   simp only [SV.mem,Rv]
   constructor
   ·rintro ⟨u,e,k⟩;exact ⟨u,e,(Rv.mem hs s _).1 k⟩
   ·rintro ⟨u,e,k⟩;exact ⟨u,e,(Rv.mem hs s _).2 k⟩
 | .nif,_=>by simp only [SV.mem,Rv]
 | .agg l,v=>by
   simp only [SV.mem,Rv]
   constructor
   ·rintro ⟨vs,e,k⟩;exact ⟨vs,e,(Rvs.mem hs l _).1 k⟩
   ·rintro ⟨vs,e,k⟩;exact ⟨vs,e,(Rvs.mem hs l _).2 k⟩
 | .arr _ _,_=>by simp only [SV.mem,Rv]
 | .tup l,v=>by
   simp only [SV.mem,Rv]
   constructor
   ·rintro ⟨vs,e,k⟩;exact ⟨vs,e,(Rvs.mem hs l _).1 k⟩
   ·rintro ⟨vs,e,k⟩;exact ⟨vs,e,(Rvs.mem hs l _).2 k⟩
 | .raw _,_=>by simp only [SV.mem,Rv]
 | .unk,_=>by simp only [SV.mem,Rv]
theorem Rvs.mem {μ:Nat→Nat} {g g':G} (hs:Sm μ g g'):∀(l:List SV) (vs:List Value),Rvs g l vs↔Rvs g' (SV.mems μ l) vs
 | [],_=>by simp only [SV.mems,Rvs]
 |s::l,vs=>by
  simp only [SV.mems,Rvs]
  constructor
  ·rintro ⟨v,vs',e,h1,h2⟩;exact ⟨v,vs',e,(Rv.mem hs s v).1 h1,(Rvs.mem hs l vs').1 h2⟩
  ·rintro ⟨v,vs',e,h1,h2⟩;exact ⟨v,vs',e,(Rv.mem hs s v).2 h1,(Rvs.mem hs l vs').2 h2⟩
end
theorem mems_eq (μ:Nat→Nat):∀l:List SV,SV.mems μ l=l.map (SV.mem μ)
 | []=>rfl
 |s::l=>by simp [SV.mems,mems_eq μ l]
theorem memCols_eq (μ:Nat→Nat):∀l:List BCol,memCols μ l=l.map (BCol.mem μ)
 | []=>rfl
 |s::l=>by simp [memCols,memCols_eq μ l]
theorem colsMok_mem {μ:Nat→Nat}:∀{l:List BCol} {c:BCol},colsMok μ l=true→c∈l→c.mok μ=true
 | [],s,_,h=>by cases h
 |x::l,s,hw,h=>by
  simp only [colsMok,Bool.and_eq_true] at hw
  rcases List.mem_cons.1 h with rfl|h
  ·exact hw.1
  ·exact colsMok_mem hw.2 h
theorem BCol.mem_at (μ:Nat→Nat) (c:BCol) (i:Nat) (h:c.mok μ=true):(c.mem μ).at i=SV.mem μ (c.at i):=by
 cases c with
 |sc c=>cases c<;>rfl
 |svs l=>
  simp only [BCol.mem,BCol.at,mems_eq,List.getD,List.getElem?_map]
  cases l[i]?<;>rfl
 |own hh ns=>
  have e:μ hh=0:=by simpa [BCol.mok] using h
  simp only [BCol.mem,BCol.at,SV.mem,e,Nat.add_zero]
 |arrs n k r=>rfl
 |ptrs hh m=>
  have e:μ hh=0:=by simpa [BCol.mok] using h
  simp only [BCol.mem,BCol.at,SV.mem,e,Nat.add_zero]
theorem Blk.mem_at (μ:Nat→Nat) (b:Blk) (i j:Nat) (h:b.mok μ=true):(b.mem μ).at i j=(b.at i j).map (SV.mem μ):=by
 cases b with
 |cells l=>simp only [Blk.mem,Blk.at,mems_eq,nth_eq,List.getElem?_map]
 |cols n l=>
  simp only [Blk.mem,Blk.at,memCols_eq,nth_eq,List.getElem?_map]
  cases hc:l[j]? with
  |none=>rfl
  |some c=>simp [BCol.mem_at μ c i (colsMok_mem h (List.mem_of_getElem? hc))]
 |obj o=>rfl
theorem Blk.mem_has (μ:Nat→Nat) (b:Blk) (i:Nat):(b.mem μ).has i↔b.has i:=by cases b<;>exact Iff.rfl
theorem Blk.mem_es (μ:Nat→Nat) (b:Blk):(b.mem μ).es=b.es:=by
 cases b<;>simp [Blk.mem,Blk.es,mems_eq,memCols_eq]
theorem memCols_len (μ:Nat→Nat) {l:List BCol} {n:Nat}:(∀c∈memCols μ l,c.len=n)↔∀c∈l,c.len=n:=by
 have:∀c:BCol,(c.mem μ).len=c.len:=by intro c;cases c<;>simp [BCol.mem,BCol.len,mems_eq]
 simp [memCols_eq,this]
theorem Blk.mem_len (μ:Nat→Nat) (b:Blk):(b.mem μ).lenOk↔b.lenOk:=by
 cases b with
 |cells l=>exact Iff.rfl
 |cols n l=>exact memCols_len μ
 |obj o=>exact Iff.rfl
theorem bcolsAt_mem (μ:Nat→Nat):∀(l:List BCol) (i:Nat),colsMok μ l=true→bcolsAt (memCols μ l) i=SV.mems μ (bcolsAt l i)
 | [],_,_=>rfl
 |c::l,i,h=>by
  simp only [colsMok,Bool.and_eq_true] at h
  simp only [memCols,bcolsAt,SV.mems,BCol.mem_at μ c i h.1,bcolsAt_mem μ l i h.2]
theorem elemS_mem (μ:Nat→Nat) (ea:Bool) (l:List BCol) (i:Nat) (h:colsMok μ l=true):elemS ea (memCols μ l) i=SV.mem μ (elemS ea l i):=by
 cases ea with
 |true=>simp only [elemS,SV.mem,bcolsAt_mem μ l i h]
 |false=>
  match l,h with
  | [],_=>rfl
  | [c],h=>simp only [memCols,elemS];exact BCol.mem_at μ c i (colsMok_mem h (List.mem_singleton.2 rfl))
  |_::_::_,_=>rfl
theorem blkOk_mem {μ:Nat→Nat} {g g':G} (hs:Sm μ g g') {β:Base} {b:Blk} {w:World} (hm:b.mok μ=true):b.Ok g w β↔(b.mem μ).Ok g' w β:=by
 cases b with
 |cells l=>exact Iff.rfl
 |cols n l=>exact Iff.rfl
 |obj o=>
  cases o with
  |map ka ea m ks vs bs ck=>
   have hm':colsMok μ vs=true:=hm
   constructor
   ·rintro ⟨c1,c2,es,e,k⟩
    exact ⟨c1,c2,es,e,k.size,k.kl,(memCols_len μ).2 k.vl,k.bl,k.nd,k.lt,fun i x hx=>⟨(k.row i x hx).1,(k.row i x hx).2.1,by rw [elemS_mem μ ea vs i hm'];exact (Rv.mem hs _ _).1 (k.row i x hx).2.2⟩⟩
   ·rintro ⟨c1,c2,es,e,k⟩
    exact ⟨c1,c2,es,e,k.size,k.kl,(memCols_len μ).1 k.vl,k.bl,k.nd,k.lt,fun i x hx=>⟨(k.row i x hx).1,(k.row i x hx).2.1,(Rv.mem hs _ _).2 (by have:=(k.row i x hx).2.2;rwa [elemS_mem μ ea vs i hm'] at this)⟩⟩
  |iter h q bs ck sn=>
   constructor
   ·rintro ⟨c1,c2,β',e1,e⟩
    exact ⟨c1,c2,β',by rw [←hs];exact e1,e⟩
   ·rintro ⟨c1,c2,β',e1,e⟩
    exact ⟨c1,c2,β',by rw [hs];exact e1,e⟩
  |niter=>exact Iff.rfl
  |siter s p=>exact Iff.rfl
  |bld0 T=>exact Iff.rfl
  |bld T h q n=>
   constructor
   ·rintro ⟨c1,c2,β',e1,e⟩
    exact ⟨c1,c2,β',by rw [←hs];exact e1,e⟩
   ·rintro ⟨c1,c2,β',e1,e⟩
    exact ⟨c1,c2,β',by rw [hs];exact e1,e⟩
  |brow T s=>exact Iff.rfl
  |bag Q=>exact Iff.rfl
theorem blkAt_mem {μ:Nat→Nat} {g g':G} (hs:Sm μ g g') {β:Base} {ro:Bool} {b:Blk} {w:World} (hm:b.mok μ=true):BlkAt g β ro b w↔BlkAt g' β ro (b.mem μ) w:=by
 constructor
 ·intro h
  refine ⟨h.lt,by rw [h.es,Blk.mem_es],(Blk.mem_len μ b).2 h.len,fun i hi=>h.cap i ((Blk.mem_has μ b i).1 hi),?_,fun i j v hi=>h.one i j v ((Blk.mem_has μ b i).1 hi),h.rw,(blkOk_mem hs hm).1 h.obj⟩
  intro i j sv hi hj
  rw [Blk.mem_at μ b i j hm] at hj
  cases hb:b.at i j with
  |none=>rw [hb] at hj;cases hj
  |some s=>
   rw [hb] at hj
   simp only [Option.map_some,Option.some.injEq] at hj
   subst hj
   obtain ⟨v,h1,h2⟩:=h.cell i j s ((Blk.mem_has μ b i).1 hi) hb
   exact ⟨v,h1,(Rv.mem hs s v).1 h2⟩
 ·intro h
  refine ⟨h.lt,by rw [h.es,Blk.mem_es],(Blk.mem_len μ b).1 h.len,fun i hi=>h.cap i ((Blk.mem_has μ b i).2 hi),?_,fun i j v hi=>h.one i j v ((Blk.mem_has μ b i).2 hi),h.rw,(blkOk_mem hs hm).2 h.obj⟩
  intro i j sv hi hj
  obtain ⟨v,h1,h2⟩:=h.cell i j (SV.mem μ sv) ((Blk.mem_has μ b i).2 hi) (by rw [Blk.mem_at μ b i j hm,hj];rfl)
  exact ⟨v,h1,(Rv.mem hs sv v).2 h2⟩
theorem fc_mem {P:Program} {n:Nat} {f:FuncId} {args:List SV} {H H1:Heap} {post post1:SV→Heap→Nat→Prop} (μ:Nat→Nat) (h0:μ 0=0) (hn:∀h,n≤h→μ h=0)
  (hin:∀h q ro b,Ent H h q ro b→b.mok μ=true∧Ent H1 h (q+μ h) ro (b.mem μ))
  (hout:∀sv H' n',post sv H' n'→∃H1',post1 (sv.mem μ) H1' n'∧allRw H1'∧∀h q1 b1,Ent H1' h q1 false b1→(∃q b,q1=q+μ h∧b1=b.mem μ∧b.mok μ=true∧Ent H' h q false b)∨(h<n∧Ent H1 h q1 false b1∧∀q ro b,q1=q+μ h→¬Ent H h q ro b))
  (h:FC P n f args H post):FC P n f (SV.mems μ args) H1 post1:=by
 have key:∀(g':G) (w:World) (vals:List Value),g'.glob→g'.upto n→Holds g' H1 w→Rvs g' (SV.mems μ args) vals→
   ∃g:G,g.glob∧g.upto n∧Holds g H w∧Rvs g args vals∧∀v w',Out g w n H post v w'→Out g' w n H1 post1 v w':=by
  intro g' w vals hg hu hH hv
  have hs:Sm μ (fun h q=>g' h (q+μ h)) g':=fun h q=>rfl
  refine ⟨fun h q=>g' h (q+μ h),fun q=>by dsimp only;rw [h0,Nat.add_zero];exact hg q,fun h q hh=>hu h _ hh,⟨?_,?_⟩,(Rvs.mem hs args vals).2 hv,?_⟩
  ·intro h q ro b he
   obtain ⟨hm,h1⟩:=hin h q ro b he
   obtain ⟨β,hb,hB⟩:=hH.blk _ _ _ _ h1
   exact ⟨β,hb,(blkAt_mem hs hm).2 hB⟩
  ·intro h q h' q' b ro' b' β β' hne he he' hb hb' hc hc'
   refine hH.sep h (q+μ h) h' (q'+μ h') _ ro' _ β β' (fun e=>hne ⟨e.1,?_⟩) (hin _ _ _ _ he).2 (hin _ _ _ _ he').2 hb hb' hc hc'
   have e1:=e.1
   subst e1
   omega
  ·rintro v w' ⟨sv,H',n',g1,hp,hnn,hu',hk,hv',hH',hrw,hfr,hown⟩
   obtain ⟨H1',p1,p2,p3⟩:=hout sv H' n' hp
   have hkk:∀h q,h<n→g1 h q=g' h (q+μ h):=fun h q hh=>hk h q hh
   let g1':G:=fun h q=>if h<n then g' h q else g1 h q
   have hs1:Sm μ g1 g1':=by
    intro h q
    by_cases hh:h<n
    ·simp only [g1',hh,if_true];exact hkk h q hh
    ·simp only [g1',hh,if_false];rw [hn h (by omega),Nat.add_zero]
   have hle:G.le g' g1':=by
    intro h q β e
    by_cases hh:h<n
    ·simp only [g1',hh,if_true];exact e
    ·rw [hu h q (by omega)] at e;cases e
   have hW:∀k,Wset (fun h q=>g' h (q+μ h)) H k→Wset g' H1 k:=by
    rintro k ⟨h,q,b,β,he,hb,hc,e⟩
    exact ⟨h,q+μ h,_,β,(hin _ _ _ _ he).2,hb,hc,e⟩
   have apart:∀h q1 ro1 b1 β,Ent H1 h q1 ro1 b1→(∀q ro b,q1=q+μ h→¬Ent H h q ro b)→g' h q1=some β→0<β.cap→¬Wset (fun h q=>g' h (q+μ h)) H β.blk:=by
    rintro h q1 ro1 b1 β he hno hb hc ⟨h2,q2,b2,β2,he2,hb2,hc2,e2⟩
    refine hH.sep h2 (q2+μ h2) h q1 _ ro1 b1 β2 β (fun e=> ?_) (hin _ _ _ _ he2).2 he hb2 hb hc2 hc e2
    have e1:=e.1
    subst e1
    exact hno q2 _ b2 e.2.symm he2
   have cls:∀h q1 b1,Ent H1' h q1 false b1→(∃q b β,q1=q+μ h∧b1=b.mem μ∧b.mok μ=true∧Ent H' h q false b∧g1 h q=some β∧g1' h q1=some β∧BlkAt g1 β false b w')∨(∃β,h<n∧Ent H1 h q1 false b1∧g' h q1=some β∧g1' h q1=some β∧BlkAt g' β false b1 w∧(0<β.cap→¬Wset (fun h q=>g' h (q+μ h)) H β.blk)):=by
    intro h q1 b1 he
    rcases p3 h q1 b1 he with ⟨q,b,e1,e2,e3,e4⟩|⟨e1,e2,e3⟩
    ·obtain ⟨β,hb,hB⟩:=hH'.blk _ _ _ _ e4
     exact .inl ⟨q,b,β,e1,e2,e3,e4,hb,by rw [e1,←hs1];exact hb,hB⟩
    ·obtain ⟨β,hb,hB⟩:=hH.blk _ _ _ _ e2
     exact .inr ⟨β,e1,e2,hb,hle _ _ _ hb,hB,fun hc=>apart h q1 false b1 β e2 e3 hb hc⟩
   refine ⟨sv.mem μ,H1',n',g1',p1,hnn,?_,?_,(Rv.mem hs1 sv v).1 hv',⟨?_,?_⟩,p2,?_,?_⟩
   ·intro h q hh
    simp only [g1']
    rw [if_neg (by omega)];exact hu' h q hh
   ·intro h q hh
    simp only [g1',hh,if_true]
   ·intro h q1 ro b1 he
    have:=p2 _ _ _ _ he
    subst this
    rcases cls h q1 b1 he with ⟨q,b,β,e1,e2,e3,e4,e5,e6,e7⟩|⟨β,e1,e2,e3,e4,e5,e6⟩
    ·exact ⟨β,e6,by rw [e2];exact (blkAt_mem hs1 e3).1 e7⟩
    ·exact ⟨β,e4,blkAt_mono e5 hle hfr.size (fun hc=>hfr.block _ (e5.lt hc) (e6 hc))⟩
   ·intro h q h' q' b ro' b' β β' hne he he' hb hb' hc hc'
    have:=p2 _ _ _ _ he'
    subst this
    rcases cls h q b he with ⟨q0,b0,β0,e1,e2,e3,e4,e5,e6,e7⟩|⟨β0,e1,e2,e3,e4,e5,e6⟩
    ·rw [hb] at e6;cases e6
     rcases cls h' q' b' he' with ⟨q2,b2,β2,k1,k2,k3,k4,k5,k6,k7⟩|⟨β2,k1,k2,k3,k4,k5,k6⟩
     ·rw [hb'] at k6;cases k6
      refine hH'.sep h q0 h' q2 b0 false b2 β β' (fun e=>hne ⟨e.1,?_⟩) e4 k4 e5 k5 hc hc'
      rw [e1,k1,e.2,e.1]
     ·rw [hb'] at k4;cases k4
      rcases hown h q0 b0 β e4 e5 hc with ho|ho
      ·intro e;rw [e] at ho;exact k6 hc' ho
      ·have:=k5.lt hc';omega
    ·rw [hb] at e4;cases e4
     rcases cls h' q' b' he' with ⟨q2,b2,β2,k1,k2,k3,k4,k5,k6,k7⟩|⟨β2,k1,k2,k3,k4,k5,k6⟩
     ·rw [hb'] at k6;cases k6
      rcases hown h' q2 b2 β' k4 k5 hc' with ho|ho
      ·intro e;rw [←e] at ho;exact e6 hc ho
      ·have:=e5.lt hc;omega
     ·rw [hb'] at k4;cases k4
      exact hH.sep h q h' q' b false b' β β' hne e2 k2 e3 k3 hc hc'
   ·exact ⟨hfr.os,hfr.tape,hfr.output,hfr.size,fun k hk1 hk2=>hfr.block k hk1 (fun hq=>hk2 (hW k hq))⟩
   ·intro h q b β he hb hc
    rcases cls h q b he with ⟨q0,b0,β0,e1,e2,e3,e4,e5,e6,e7⟩|⟨β0,e1,e2,e3,e4,e5,e6⟩
    ·rw [hb] at e6;cases e6
     rcases hown h q0 b0 β e4 e5 hc with ho|ho
     ·exact .inl (hW _ ho)
     ·exact .inr ho
    ·rw [hb] at e4;cases e4
     exact .inl ⟨h,q,b,β,e2,e3,hc,rfl⟩
 rcases h with ⟨hb,h⟩|h
 ·refine .inl ⟨hb,fun g w vals h1 h2 h3 h4=> ?_⟩
  obtain ⟨g1,k1,k2,k3,k4,k5⟩:=key g w vals h1 h2 h3 h4
  refine (h g1 w vals k1 k2 k3 k4).mono ?_
  rintro e w' ⟨v,rfl,ho⟩
  exact ⟨v,rfl,k5 v w' ho⟩
 ·refine .inr (fun g w vals h1 h2 h3 h4=> ?_)
  obtain ⟨g1,k1,k2,k3,k4,k5⟩:=key g w vals h1 h2 h3 h4
  obtain ⟨v,w',hr,ho⟩:=h g1 w vals k1 k2 k3 k4
  exact ⟨v,w',hr,k5 v w' ho⟩
structure FamAt where
 q:Nat
 dom:Nat→Prop
 f:Nat→Blk
abbrev Fams:=List (Nat×FamAt)
def fmu (L:Fams) (h:Nat):Nat:=match aget L h with|some a=>a.q|none=>0
def famHB (L:Fams) (h:Nat):HB→HB
 | .one ro b=>match aget L h with|some a=> .fam ro a.dom a.f|none=> .one ro (b.mem (fmu L))
 | .fam ro dom f=> .fam ro dom (fun x=>(f x).mem (fmu L))
def famH (L:Fams):Heap→Heap
 | []=> []
 |(h,some hb)::r=>(h,some (famHB L h hb))::famH L r
 |(h,none)::r=>(h,none)::famH L r
def outHB (L:Fams) (h:Nat):HB→HB
 | .one ro b=>match aget L h with|some a=> .fam ro a.dom (fun x=>if x=a.q then b.mem (fmu L) else a.f x)|none=> .one ro (b.mem (fmu L))
 | .fam ro dom f=> .fam ro dom (fun x=>(f x).mem (fmu L))
def famOut (L:Fams):Heap→Heap
 | []=> []
 |(h,some hb)::r=>(h,some (outHB L h hb))::famOut L r
 |(h,none)::r=>(h,none)::famOut L r
def famsOk (L:Fams) (H H':Heap) (n:Nat):Fams→Prop
 | []=>True
 |(h,a)::r=>(0<h∧h<n∧∃ro b,hget H h=some (.one ro b)∧a.dom a.q∧a.f a.q=b.mem (fmu L)∧(hget H' h=none∨(ro=false∧∃b1,hget H' h=some (.one false b1))))∧famsOk L H H' n r
def HB.mok (μ:Nat→Nat):HB→Prop
 | .one _ b=>b.mok μ=true
 | .fam _ dom f=>∀q,dom q→(f q).mok μ=true
def heapMok (μ:Nat→Nat):Heap→Prop
 | []=>True
 |(_,some hb)::r=>hb.mok μ∧heapMok μ r
 |(_,none)::r=>heapMok μ r
theorem hget_famH (L:Fams) (h:Nat):∀H:Heap,hget (famH L H) h=(hget H h).map (famHB L h)
 | []=>rfl
 |(k,some hb)::r=>by
  simp only [famH,hget_cons]
  by_cases e:k=h
  ·rw [if_pos e,if_pos e,e];rfl
  ·rw [if_neg e,if_neg e];exact hget_famH L h r
 |(k,none)::r=>by
  simp only [famH,hget_cons]
  by_cases e:k=h
  ·rw [if_pos e,if_pos e];rfl
  ·rw [if_neg e,if_neg e];exact hget_famH L h r
theorem hget_famOut (L:Fams) (h:Nat):∀H:Heap,hget (famOut L H) h=(hget H h).map (outHB L h)
 | []=>rfl
 |(k,some hb)::r=>by
  simp only [famOut,hget_cons]
  by_cases e:k=h
  ·rw [if_pos e,if_pos e,e];rfl
  ·rw [if_neg e,if_neg e];exact hget_famOut L h r
 |(k,none)::r=>by
  simp only [famOut,hget_cons]
  by_cases e:k=h
  ·rw [if_pos e,if_pos e];rfl
  ·rw [if_neg e,if_neg e];exact hget_famOut L h r
theorem heapMok_get {μ:Nat→Nat} {h:Nat} {hb:HB}:∀{H:Heap},heapMok μ H→hget H h=some hb→hb.mok μ
 | [],_,e=>by cases e
 |(k,some x)::r,hm,e=>by
  simp only [heapMok] at hm
  rw [hget_cons] at e
  split at e
  ·cases e;exact hm.1
  ·exact heapMok_get hm.2 e
 |(k,none)::r,hm,e=>by
  simp only [heapMok] at hm
  rw [hget_cons] at e
  split at e
  ·cases e
  ·exact heapMok_get hm e
theorem famsOk_get {L0:Fams} {H H':Heap} {n h:Nat} {a:FamAt}:∀{L:Fams},famsOk L0 H H' n L→aget L h=some a→0<h∧h<n∧∃ro b,hget H h=some (.one ro b)∧a.dom a.q∧a.f a.q=b.mem (fmu L0)∧(hget H' h=none∨(ro=false∧∃b1,hget H' h=some (.one false b1)))
 | [],_,e=>by cases e
 |(k,x)::r,hm,e=>by
  simp only [famsOk] at hm
  rw [aget_cons] at e
  split at e
  ·rename_i q;subst q;cases e;exact hm.1
  ·exact famsOk_get hm.2 e
theorem fc_fam {P:Program} {n:Nat} {f:FuncId} {args:List SV} {H H':Heap} {r:SV} {n':Nat} (L:Fams) (hL:famsOk L H H' n L) (hm:heapMok (fmu L) H) (hm':heapMok (fmu L) H') (hrw:allRw H') (h:FC P n f args H (isOut r H' n')):
  FC P n f (SV.mems (fmu L) args) (famH L H) (isOut (r.mem (fmu L)) (famOut L H') n'):=by
 have hno:∀{x:Nat},aget L x=none→fmu L x=0:=fun {x} e=>by unfold fmu;rw [e]
 have hyes:∀{x:Nat} {a:FamAt},aget L x=some a→fmu L x=a.q:=fun {x a} e=>by unfold fmu;rw [e]
 refine fc_mem (fmu L) ?_ ?_ ?_ ?_ h
 ·cases e:aget L 0 with
  |none=>exact hno e
  |some a=>exact absurd (famsOk_get hL e).1 (Nat.lt_irrefl _)
 ·intro x hx
  cases e:aget L x with
  |none=>exact hno e
  |some a=>have:=(famsOk_get hL e).2.1;omega
 ·rintro x q ro b ⟨hb,e1,e2,e3⟩
  have hmo:=heapMok_get hm e1
  cases hb with
  |one r0 b0=>
   simp only [HB.is] at e2
   obtain ⟨rfl,rfl⟩:=e2
   refine ⟨hmo,?_⟩
   cases e:aget L x with
   |none=>
    rw [hno e]
    refine ⟨.one r0 (b.mem (fmu L)),?_,⟨rfl,rfl⟩,e3⟩
    rw [hget_famH,e1]
    simp only [Option.map_some,famHB,e]
   |some a=>
    obtain ⟨_,_,ro1,b1,k1,k2,k3,_⟩:=famsOk_get hL e
    rw [e1] at k1
    cases k1
    rw [hyes e,Nat.zero_add]
    refine ⟨.fam r0 a.dom a.f,?_,⟨k2,k3.symm⟩,e3⟩
    rw [hget_famH,e1]
    simp only [Option.map_some,famHB,e]
  |fam r0 dom F=>
   simp only [HB.is] at e2
   obtain ⟨h1,rfl⟩:=e2
   refine ⟨hmo q h1,?_⟩
   cases e:aget L x with
   |none=>
    rw [hno e]
    refine ⟨.fam r0 dom (fun y=>(F y).mem (fmu L)),?_,⟨h1,rfl⟩,e3⟩
    rw [hget_famH,e1]
    simp only [Option.map_some,famHB]
   |some a=>
    obtain ⟨_,_,ro1,b1,k1,_⟩:=famsOk_get hL e
    rw [e1] at k1
    cases k1
 ·rintro sv Hx nx ⟨rfl,rfl,rfl⟩
  refine ⟨famOut L Hx,⟨rfl,rfl,rfl⟩,?_,?_⟩
  ·rintro x q ro b ⟨hb,e1,e2,e3⟩
   rw [hget_famOut] at e1
   cases e:hget Hx x with
   |none=>rw [e] at e1;cases e1
   |some hb0=>
    rw [e] at e1
    simp only [Option.map_some,Option.some.injEq] at e1
    subst e1
    cases hb0 with
    |one r0 b0=>
     have:=hrw x 0 r0 b0 ⟨_,e,⟨rfl,rfl⟩,rfl⟩
     subst this
     rw [←e3]
     simp only [outHB]
     split<;>rfl
    |fam r0 dom F=>
     simp only [outHB,HB.is] at e2
     have:=hrw x q r0 (F q) ⟨_,e,⟨e2.1,rfl⟩,rfl⟩
     subst this
     rw [←e3];rfl
  ·rintro x q1 b1 ⟨hb,e1,e2,e3⟩
   rw [hget_famOut] at e1
   cases e:hget Hx x with
   |none=>rw [e] at e1;cases e1
   |some hb0=>
    rw [e] at e1
    simp only [Option.map_some,Option.some.injEq] at e1
    subst e1
    have hmo:=heapMok_get hm' e
    cases hb0 with
    |one r0 b0=>
     have:=hrw x 0 r0 b0 ⟨_,e,⟨rfl,rfl⟩,rfl⟩
     subst this
     cases ea:aget L x with
     |none=>
      simp only [outHB,ea,HB.is] at e2
      exact .inl ⟨0,b0,by rw [hno ea];exact e2.1,e2.2,hmo,⟨_,e,⟨rfl,rfl⟩,rfl⟩⟩
     |some a=>
      simp only [outHB,ea,HB.is] at e2
      obtain ⟨hx0,hxn,ro1,bb,k1,k2,k3,k4⟩:=famsOk_get hL ea
      have hro:ro1=false:=by
       rcases k4 with k4|k4
       ·rw [e] at k4;cases k4
       ·exact k4.1
      subst hro
      by_cases hq:q1=a.q
      ·refine .inl ⟨0,b0,by rw [hyes ea,Nat.zero_add];exact hq,?_,hmo,⟨_,e,⟨rfl,rfl⟩,rfl⟩⟩
       rw [e2.2,if_pos hq]
      ·refine .inr ⟨hxn,⟨.fam false a.dom a.f,?_,⟨e2.1,?_⟩,rfl⟩,?_⟩
       ·rw [hget_famH,k1]
        simp only [Option.map_some,famHB,ea]
       ·rw [e2.2,if_neg hq]
       ·rintro q ro b hqe ⟨hb2,f1,f2,_⟩
        rw [k1] at f1
        cases f1
        simp only [HB.is] at f2
        rw [hyes ea,f2.1,Nat.zero_add] at hqe
        exact hq hqe
    |fam r0 dom F=>
     simp only [outHB,HB.is] at e2
     have:=hrw x q1 r0 (F q1) ⟨_,e,⟨e2.1,rfl⟩,rfl⟩
     subst this
     cases ea:aget L x with
     |none=>exact .inl ⟨q1,F q1,by rw [hno ea];rfl,e2.2,hmo q1 e2.1,⟨_,e,⟨e2.1,rfl⟩,rfl⟩⟩
     |some a=>
      obtain ⟨_,_,ro1,bb,_,_,_,k4⟩:=famsOk_get hL ea
      rcases k4 with k4|⟨_,b2,k4⟩
      ·rw [e] at k4;cases k4
      ·rw [e] at k4;cases k4
end Go.Sy
