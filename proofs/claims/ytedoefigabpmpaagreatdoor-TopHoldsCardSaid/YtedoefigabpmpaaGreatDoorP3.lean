/- Several texts in one: YSort YKeys YCalls YNil YArg YMem YPlain YGrp YFam YTop YLaw YLaid. -/
import Derived.Test.YtedoefigabpmpaaGreatDoorP2
import Derived.Sort.KeysCollected
import Derived.Sort.Grow
import Derived.Shelf.SlIter.Nil
import Derived.Shelf.SortM.Plain
import Derived.Shelf.SortM.SortNone
import Derived.Deep.Slices
import Derived.OpenShut
import Derived.ChangeOld
import Derived.ChangeBears2
import Derived.MakeChecks
import Derived.LaidLaws
set_option linter.unusedVariables false
set_option linter.unusedSimpArgs false
namespace Go.Sy
abbrev x0I:=@Nat.not_lt_zero
abbrev y0f:=@List.mem_cons_of_mem
abbrev z0K:=@List.nodup_cons
end Go.Sy
namespace Go.Sy
open Go.RowKit
section
variable {P:Program}
end
end Go.Sy
namespace Go.Sy
open Go.RowKit Go.Maps Go.Sort Go.Shelf Go.Proofs
section
variable {P:Program} {ρ:Ren}
end
end Go.Sy
namespace Go.Sy
open Go.RowKit
theorem o0C {P:Program} {f:FuncId} {fn:Func} (h:P.funcs[f]? =some fn) (hb:fn.body.isSome=true) (hn:(fn.name=="runtime.NumGoroutine")=false):e0g P f:=by
 obtain ⟨c,hc⟩:=y0O.1 hb;exact ⟨fn,c,h,hc,hn⟩
theorem j0w {P:Program} {f:FuncId} {args:List SV} {vals:List Value} {r:SV} {v:Value} (hbd:e0g P f) (hv:∀g vs,Rvs g args vs->vs=vals) (hr:∀g,Rv g r v) (hc:∀w,Calls P f vals.toArray w (fun e w'=>e= .returned v/\Below w.heap.size w w')):b0C P f args r:=by
 refine Or.inl ⟨hbd,fun g w vs hg hu hH hvs=> ?_⟩;rw [hv g vs hvs];refine (hc w).mono ?_;rintro e w' ⟨rfl,hb⟩;refine ⟨v,rfl,r,[],1,g,⟨rfl,rfl,rfl⟩,h0Z _,hu,fun _ _ _=>rfl,hr g,⟨?_,?_⟩,a0c,⟨hb.os,hb.tape,hb.output,hb.size,fun k hk _=>hb.block k hk⟩,?_⟩
 .intro h q ro b he;obtain ⟨hb,e,_⟩:=he;simp [a0t] at e
 .intro h q h' q' b ro' b' β β' _ he;obtain ⟨hb,e,_⟩:=he;simp [a0t] at e
 .intro h q b β he;obtain ⟨hb,e,_⟩:=he;simp [a0t] at e
end Go.Sy
namespace Go.Sy
open Go.RowKit
end Go.Sy
namespace Go.Sy
open Go.RowKit
end Go.Sy
namespace Go.Sy
open Go.RowKit
mutual
def SV.mem (μ:Nat->Nat):SV->SV
 | .ptr h q i j=> .ptr h (q+μ h) i j
 | .sl h q i n=> .sl h (q+μ h) i n
 | .map h q=> .map h (q+μ h)
 | .fn f l=> .fn f (SV.mems μ l)
 | .iface t v=> .iface t (SV.mem μ v)
 | .agg l=> .agg (SV.mems μ l)
 | .tup l=> .tup (SV.mems μ l)
 | .bool b=> .bool b
 | .int k n=> .int k n
 | .str s=> .str s
 | .nptr=> .nptr
 | .nsl=> .nsl
 | .zsl=> .zsl
 | .nmap=> .nmap
 | .nif=> .nif
 | .arr n l=> .arr n l
 | .raw v=> .raw v
 | .unk=> .unk
def SV.mems (μ:Nat->Nat):List SV->List SV
 | []=> []
 |s::r=>SV.mem μ s::SV.mems μ r
end
def BCol.mem (μ:Nat->Nat):BCol->BCol
 | .sc c=> .sc c
 | .svs l=> .svs (SV.mems μ l)
 | .own h ns=> .own h ns
 | .arrs n k r=> .arrs n k r
 | .ptrs h n=> .ptrs h n
def c0S (μ:Nat->Nat):List BCol->List BCol
 | []=> []
 |c::l=>c.mem μ::c0S μ l
def ObjS.mem (μ:Nat->Nat):ObjS->ObjS
 | .map ka ea n ks vs bs ck=> .map ka ea n ks (c0S μ vs) bs ck
 | .iter h q a b c=> .iter h (q+μ h) a b c
 | .niter=> .niter
 | .siter s p=> .siter s p
 | .bld0 T=> .bld0 T
 | .bld T h q n=> .bld T h (q+μ h) n
 | .brow T s=> .brow T s
 | .bag Q=> .bag Q
def Blk.mem (μ:Nat->Nat):Blk->Blk
 | .cells l=> .cells (SV.mems μ l)
 | .cols n l=> .cols n (c0S μ l)
 | .obj o=> .obj (o.mem μ)
def BCol.mok (μ:Nat->Nat):BCol->Bool
 | .own h _=>Nat.beq (μ h) 0
 | .ptrs h _=>Nat.beq (μ h) 0
 |_=>true
def d0k (μ:Nat->Nat):List BCol->Bool
 | []=>true
 |c::l=>c.mok μ&&d0k μ l
def Blk.mok (μ:Nat->Nat):Blk->Bool
 | .cells _=>true
 | .cols _ l=>d0k μ l
 | .obj (.map _ _ _ _ vs _ _)=>d0k μ vs
 | .obj _=>true
def Sm (μ:Nat->Nat) (g g':G):Prop:=∀h q,g h q=g' h (q+μ h)
mutual
theorem Rv.mem {μ:Nat->Nat} {g g':G} (hs:Sm μ g g'):∀(sv:SV) (v:Value),Rv g sv v↔Rv g' (SV.mem μ sv) v
 | .bool _,_=>by simp only [SV.mem,Rv]
 | .int _ _,_=>by simp only [SV.mem,Rv]
 | .str _,_=>by simp only [SV.mem,Rv]
 | .ptr h q i j,v=>by simp only [SV.mem,Rv,hs h q]
 | .nptr,_=>by simp only [SV.mem,Rv]
 | .sl h q i m,v=>by simp only [SV.mem,Rv,hs h q]
 | .nsl,_=>by simp only [SV.mem,Rv]
 | .zsl,_=>by simp only [SV.mem,Rv]
 | .map h q,v=>by simp only [SV.mem,Rv,hs h q]
 | .nmap,_=>by simp only [SV.mem,Rv]
 | .fn f l,v=>by
   simp only [SV.mem,Rv];constructor
   .rintro ⟨vs,e,k⟩;exact ⟨vs,e,(Rvs.mem hs l _).1 k⟩
   .rintro ⟨vs,e,k⟩;exact ⟨vs,e,(Rvs.mem hs l _).2 k⟩
 | .iface t s,v=>by
   simp only [SV.mem,Rv];constructor
   .rintro ⟨u,e,k⟩;exact ⟨u,e,(Rv.mem hs s _).1 k⟩
   .rintro ⟨u,e,k⟩;exact ⟨u,e,(Rv.mem hs s _).2 k⟩
 | .nif,_=>by simp only [SV.mem,Rv]
 | .agg l,v=>by
   simp only [SV.mem,Rv];constructor
   .rintro ⟨vs,e,k⟩;exact ⟨vs,e,(Rvs.mem hs l _).1 k⟩
   .rintro ⟨vs,e,k⟩;exact ⟨vs,e,(Rvs.mem hs l _).2 k⟩
 | .arr _ _,_=>by simp only [SV.mem,Rv]
 | .tup l,v=>by
   simp only [SV.mem,Rv];constructor
   .rintro ⟨vs,e,k⟩;exact ⟨vs,e,(Rvs.mem hs l _).1 k⟩
   .rintro ⟨vs,e,k⟩;exact ⟨vs,e,(Rvs.mem hs l _).2 k⟩
 | .raw _,_=>by simp only [SV.mem,Rv]
 | .unk,_=>by simp only [SV.mem,Rv]
theorem Rvs.mem {μ:Nat->Nat} {g g':G} (hs:Sm μ g g'):∀(l:List SV) (vs:List Value),Rvs g l vs↔Rvs g' (SV.mems μ l) vs
 | [],_=>by simp only [SV.mems,Rvs]
 |s::l,vs=>by
  simp only [SV.mems,Rvs];constructor
  .rintro ⟨v,vs',e,h1,h2⟩;exact ⟨v,vs',e,(Rv.mem hs s v).1 h1,(Rvs.mem hs l vs').1 h2⟩
  .rintro ⟨v,vs',e,h1,h2⟩;exact ⟨v,vs',e,(Rv.mem hs s v).2 h1,(Rvs.mem hs l vs').2 h2⟩
end
theorem h0q (μ:Nat->Nat):∀l:List SV,SV.mems μ l=l.map (SV.mem μ)
 | []=>rfl
 |s::l=>by simp [SV.mems,h0q μ l]
theorem d0T (μ:Nat->Nat):∀l:List BCol,c0S μ l=l.map (BCol.mem μ)
 | []=>rfl
 |s::l=>by simp [c0S,d0T μ l]
theorem e0A {μ:Nat->Nat}:∀{l:List BCol} {c:BCol},d0k μ l=true->c∈l->c.mok μ=true
 | [],s,_,h=>by cases h
 |x::l,s,hw,h=>by
  simp only [d0k,e0z] at hw;rcases j0x.1 h with rfl|h
  .exact hw.1
  .exact e0A hw.2 h
theorem BCol.mem_at (μ:Nat->Nat) (c:BCol) (i:Nat) (h:c.mok μ=true):(c.mem μ).at i=SV.mem μ (c.at i):=by
 cases c with
 |sc c=>cases c<;>rfl
 |svs l=>
  simp only [BCol.mem,BCol.at,h0q,List.getD,m0i];cases l[i]?<;>rfl
 |own hh ns=>
  have e:μ hh=0:=by simpa [BCol.mok] using h
  simp only [BCol.mem,BCol.at,SV.mem,e,s0d]
 |arrs n k r=>rfl
 |ptrs hh m=>
  have e:μ hh=0:=by simpa [BCol.mok] using h
  simp only [BCol.mem,BCol.at,SV.mem,e,s0d]
theorem Blk.mem_at (μ:Nat->Nat) (b:Blk) (i j:Nat) (h:b.mok μ=true):(b.mem μ).at i j=(b.at i j).map (SV.mem μ):=by
 cases b with
 |cells l=>simp only [Blk.mem,Blk.at,h0q,a0R,m0i]
 |cols n l=>
  simp only [Blk.mem,Blk.at,d0T,a0R,m0i];cases hc:l[j]? with
  |none=>rfl
  |some c=>simp [BCol.mem_at μ c i (e0A h (u0u hc))]
 |obj o=>rfl
theorem Blk.mem_has (μ:Nat->Nat) (b:Blk) (i:Nat):(b.mem μ).has i↔b.has i:=by cases b<;>exact Iff.rfl
theorem Blk.mem_es (μ:Nat->Nat) (b:Blk):(b.mem μ).es=b.es:=by
 cases b<;>simp [Blk.mem,Blk.es,h0q,d0T]
theorem e0B (μ:Nat->Nat) {l:List BCol} {n:Nat}:(∀c∈c0S μ l,c.len=n)↔∀c∈l,c.len=n:=by
 have:∀c:BCol,(c.mem μ).len=c.len:=by intro c;cases c<;>simp [BCol.mem,BCol.len,h0q]
 simp [d0T,this]
theorem Blk.mem_len (μ:Nat->Nat) (b:Blk):(b.mem μ).lenOk↔b.lenOk:=by
 cases b with
 |cells l=>exact Iff.rfl
 |cols n l=>exact e0B μ
 |obj o=>exact Iff.rfl
theorem h0r (μ:Nat->Nat):∀(l:List BCol) (i:Nat),d0k μ l=true->a0o (c0S μ l) i=SV.mems μ (a0o l i)
 | [],_,_=>rfl
 |c::l,i,h=>by
  simp only [d0k,e0z] at h;simp only [c0S,a0o,SV.mems,BCol.mem_at μ c i h.1,h0r μ l i h.2]
theorem k0Z (μ:Nat->Nat) (ea:Bool) (l:List BCol) (i:Nat) (h:d0k μ l=true):a0Q ea (c0S μ l) i=SV.mem μ (a0Q ea l i):=by
 cases ea with
 |true=>simp only [a0Q,SV.mem,h0r μ l i h]
 |false=>
  match l,h with
  | [],_=>rfl
  | [c],h=>simp only [c0S,a0Q];exact BCol.mem_at μ c i (e0A h (p0T.2 rfl))
  |_::_::_,_=>rfl
theorem l0a {μ:Nat->Nat} {g g':G} (hs:Sm μ g g') {β:Base} {b:Blk} {w:World} (hm:b.mok μ=true):b.Ok g w β↔(b.mem μ).Ok g' w β:=by
 cases b with
 |cells l=>exact Iff.rfl
 |cols n l=>exact Iff.rfl
 |obj o=>
  cases o with
  |map ka ea m ks vs bs ck=>
   have hm':d0k μ vs=true:=hm;constructor
   .rintro ⟨c1,c2,es,e,k⟩;exact ⟨c1,c2,es,e,k.size,k.kl,(e0B μ).2 k.vl,k.bl,k.nd,k.lt,fun i x hx=>⟨(k.row i x hx).1,(k.row i x hx).2.1,by rw [k0Z μ ea vs i hm'];exact (Rv.mem hs _ _).1 (k.row i x hx).2.2⟩⟩
   .rintro ⟨c1,c2,es,e,k⟩;exact ⟨c1,c2,es,e,k.size,k.kl,(e0B μ).1 k.vl,k.bl,k.nd,k.lt,fun i x hx=>⟨(k.row i x hx).1,(k.row i x hx).2.1,(Rv.mem hs _ _).2 (by have:=(k.row i x hx).2.2;rwa [k0Z μ ea vs i hm'] at this)⟩⟩
  |iter h q bs ck sn=>
   constructor
   .rintro ⟨c1,c2,β',e1,e⟩;exact ⟨c1,c2,β',by rw [<-hs];exact e1,e⟩
   .rintro ⟨c1,c2,β',e1,e⟩;exact ⟨c1,c2,β',by rw [hs];exact e1,e⟩
  |niter=>exact Iff.rfl
  |siter s p=>exact Iff.rfl
  |bld0 T=>exact Iff.rfl
  |bld T h q n=>
   constructor
   .rintro ⟨c1,c2,β',e1,e⟩;exact ⟨c1,c2,β',by rw [<-hs];exact e1,e⟩
   .rintro ⟨c1,c2,β',e1,e⟩;exact ⟨c1,c2,β',by rw [hs];exact e1,e⟩
  |brow T s=>exact Iff.rfl
  |bag Q=>exact Iff.rfl
theorem l0b {μ:Nat->Nat} {g g':G} (hs:Sm μ g g') {β:Base} {ro:Bool} {b:Blk} {w:World} (hm:b.mok μ=true):BlkAt g β ro b w↔BlkAt g' β ro (b.mem μ) w:=by
 constructor
 .intro h;refine ⟨h.lt,by rw [h.es,Blk.mem_es],(Blk.mem_len μ b).2 h.len,fun i hi=>h.cap i ((Blk.mem_has μ b i).1 hi),?_,fun i j v hi=>h.one i j v ((Blk.mem_has μ b i).1 hi),h.rw,(l0a hs hm).1 h.obj⟩;intro i j sv hi hj;rw [Blk.mem_at μ b i j hm] at hj;cases hb:b.at i j with
  |none=>rw [hb] at hj;cases hj
  |some s=>
   rw [hb] at hj;simp only [l0C,Option.some.injEq] at hj;subst hj;obtain ⟨v,h1,h2⟩:=h.cell i j s ((Blk.mem_has μ b i).1 hi) hb;exact ⟨v,h1,(Rv.mem hs s v).1 h2⟩
 .intro h;refine ⟨h.lt,by rw [h.es,Blk.mem_es],(Blk.mem_len μ b).1 h.len,fun i hi=>h.cap i ((Blk.mem_has μ b i).2 hi),?_,fun i j v hi=>h.one i j v ((Blk.mem_has μ b i).2 hi),h.rw,(l0a hs hm).2 h.obj⟩;intro i j sv hi hj;obtain ⟨v,h1,h2⟩:=h.cell i j (SV.mem μ sv) ((Blk.mem_has μ b i).2 hi) (by rw [Blk.mem_at μ b i j hm,hj];rfl);exact ⟨v,h1,(Rv.mem hs sv v).2 h2⟩
theorem w0n {P:Program} {n:Nat} {f:FuncId} {args:List SV} {H H1:a0g} {post post1:SV->a0g->Nat->Prop} (μ:Nat->Nat) (h0:μ 0=0) (hn:∀h,n<=h->μ h=0)
  (hin:∀h q ro b,Ent H h q ro b->b.mok μ=true/\Ent H1 h (q+μ h) ro (b.mem μ))
  (hout:∀sv H' n',post sv H' n'->∃H1',post1 (sv.mem μ) H1' n'/\e0r H1'/\∀h q1 b1,Ent H1' h q1 false b1->(∃q b,q1=q+μ h/\b1=b.mem μ/\b.mok μ=true/\Ent H' h q false b)\/(h<n/\Ent H1 h q1 false b1/\∀q ro b,q1=q+μ h->¬Ent H h q ro b))
  (h:FC P n f args H post):FC P n f (SV.mems μ args) H1 post1:=by
 have key:∀(g':G) (w:World) (vals:List Value),g'.glob->g'.upto n->Holds g' H1 w->Rvs g' (SV.mems μ args) vals->
   ∃g:G,g.glob/\g.upto n/\Holds g H w/\Rvs g args vals/\∀v w',Out g w n H post v w'->Out g' w n H1 post1 v w':=by
  intro g' w vals hg hu hH hv;have hs:Sm μ (fun h q=>g' h (q+μ h)) g':=fun h q=>rfl
  refine ⟨fun h q=>g' h (q+μ h),fun q=>by dsimp only;rw [h0,s0d];exact hg q,fun h q hh=>hu h _ hh,⟨?_,?_⟩,(Rvs.mem hs args vals).2 hv,?_⟩
  .intro h q ro b he;obtain ⟨hm,h1⟩:=hin h q ro b he;obtain ⟨β,hb,hB⟩:=hH.blk _ _ _ _ h1;exact ⟨β,hb,(l0b hs hm).2 hB⟩
  .intro h q h' q' b ro' b' β β' hne he he' hb hb' hc hc';refine hH.sep h (q+μ h) h' (q'+μ h') _ ro' _ β β' (fun e=>hne ⟨e.1,?_⟩) (hin _ _ _ _ he).2 (hin _ _ _ _ he').2 hb hb' hc hc';have e1:=e.1;subst e1;omega
  .rintro v w' ⟨sv,H',n',g1,hp,hnn,hu',hk,hv',hH',hrw,hfr,hown⟩;obtain ⟨H1',p1,p2,p3⟩:=hout sv H' n' hp;have hkk:∀h q,h<n->g1 h q=g' h (q+μ h):=fun h q hh=>hk h q hh
   let g1':G:=fun h q=>if h<n then g' h q else g1 h q
   have hs1:Sm μ g1 g1':=by
    intro h q;by_cases hh:h<n
    .simp only [g1',hh,if_true];exact hkk h q hh
    .simp only [g1',hh,if_false];rw [hn h (by omega),s0d]
   have hle:G.le g' g1':=by
    intro h q β e;by_cases hh:h<n
    .simp only [g1',hh,if_true];exact e
    .rw [hu h q (by omega)] at e;cases e
   have hW:∀k,i0a (fun h q=>g' h (q+μ h)) H k->i0a g' H1 k:=by
    rintro k ⟨h,q,b,β,he,hb,hc,e⟩;exact ⟨h,q+μ h,_,β,(hin _ _ _ _ he).2,hb,hc,e⟩
   have apart:∀h q1 ro1 b1 β,Ent H1 h q1 ro1 b1->(∀q ro b,q1=q+μ h->¬Ent H h q ro b)->g' h q1=some β->0<β.cap->¬i0a (fun h q=>g' h (q+μ h)) H β.blk:=by
    rintro h q1 ro1 b1 β he hno hb hc ⟨h2,q2,b2,β2,he2,hb2,hc2,e2⟩;refine hH.sep h2 (q2+μ h2) h q1 _ ro1 b1 β2 β (fun e=> ?_) (hin _ _ _ _ he2).2 he hb2 hb hc2 hc e2;have e1:=e.1;subst e1;exact hno q2 _ b2 e.2.symm he2
   have cls:∀h q1 b1,Ent H1' h q1 false b1->(∃q b β,q1=q+μ h/\b1=b.mem μ/\b.mok μ=true/\Ent H' h q false b/\g1 h q=some β/\g1' h q1=some β/\BlkAt g1 β false b w')\/(∃β,h<n/\Ent H1 h q1 false b1/\g' h q1=some β/\g1' h q1=some β/\BlkAt g' β false b1 w/\(0<β.cap->¬i0a (fun h q=>g' h (q+μ h)) H β.blk)):=by
    intro h q1 b1 he;rcases p3 h q1 b1 he with ⟨q,b,e1,e2,e3,e4⟩|⟨e1,e2,e3⟩
    .obtain ⟨β,hb,hB⟩:=hH'.blk _ _ _ _ e4;exact .inl ⟨q,b,β,e1,e2,e3,e4,hb,by rw [e1,<-hs1];exact hb,hB⟩
    .obtain ⟨β,hb,hB⟩:=hH.blk _ _ _ _ e2;exact .inr ⟨β,e1,e2,hb,hle _ _ _ hb,hB,fun hc=>apart h q1 false b1 β e2 e3 hb hc⟩
   refine ⟨sv.mem μ,H1',n',g1',p1,hnn,?_,?_,(Rv.mem hs1 sv v).1 hv',⟨?_,?_⟩,p2,?_,?_⟩
   .intro h q hh;simp only [g1'];rw [if_neg (by omega)];exact hu' h q hh
   .intro h q hh;simp only [g1',hh,if_true]
   .intro h q1 ro b1 he;have:=p2 _ _ _ _ he;subst this;rcases cls h q1 b1 he with ⟨q,b,β,e1,e2,e3,e4,e5,e6,e7⟩|⟨β,e1,e2,e3,e4,e5,e6⟩
    .exact ⟨β,e6,by rw [e2];exact (l0b hs1 e3).1 e7⟩
    .exact ⟨β,e4,b0j e5 hle hfr.size (fun hc=>hfr.block _ (e5.lt hc) (e6 hc))⟩
   .intro h q h' q' b ro' b' β β' hne he he' hb hb' hc hc';have:=p2 _ _ _ _ he';subst this;rcases cls h q b he with ⟨q0,b0,β0,e1,e2,e3,e4,e5,e6,e7⟩|⟨β0,e1,e2,e3,e4,e5,e6⟩
    .rw [hb] at e6;cases e6;rcases cls h' q' b' he' with ⟨q2,b2,β2,k1,k2,k3,k4,k5,k6,k7⟩|⟨β2,k1,k2,k3,k4,k5,k6⟩
     .rw [hb'] at k6;cases k6;refine hH'.sep h q0 h' q2 b0 false b2 β β' (fun e=>hne ⟨e.1,?_⟩) e4 k4 e5 k5 hc hc';rw [e1,k1,e.2,e.1]
     .rw [hb'] at k4;cases k4;rcases hown h q0 b0 β e4 e5 hc with ho|ho
      .intro e;rw [e] at ho;exact k6 hc' ho
      .have:=k5.lt hc';omega
    .rw [hb] at e4;cases e4;rcases cls h' q' b' he' with ⟨q2,b2,β2,k1,k2,k3,k4,k5,k6,k7⟩|⟨β2,k1,k2,k3,k4,k5,k6⟩
     .rw [hb'] at k6;cases k6;rcases hown h' q2 b2 β' k4 k5 hc' with ho|ho
      .intro e;rw [<-e] at ho;exact e6 hc ho
      .have:=e5.lt hc;omega
     .rw [hb'] at k4;cases k4;exact hH.sep h q h' q' b false b' β β' hne e2 k2 e3 k3 hc hc'
   .exact ⟨hfr.os,hfr.tape,hfr.output,hfr.size,fun k hk1 hk2=>hfr.block k hk1 (fun hq=>hk2 (hW k hq))⟩
   .intro h q b β he hb hc;rcases cls h q b he with ⟨q0,b0,β0,e1,e2,e3,e4,e5,e6,e7⟩|⟨β0,e1,e2,e3,e4,e5,e6⟩
    .rw [hb] at e6;cases e6;rcases hown h q0 b0 β e4 e5 hc with ho|ho
     .exact .inl (hW _ ho)
     .exact .inr ho
    .rw [hb] at e4;cases e4;exact .inl ⟨h,q,b,β,e2,e3,hc,rfl⟩
 rcases h with ⟨hb,h⟩|h
 .refine .inl ⟨hb,fun g w vals h1 h2 h3 h4=> ?_⟩;obtain ⟨g1,k1,k2,k3,k4,k5⟩:=key g w vals h1 h2 h3 h4;refine (h g1 w vals k1 k2 k3 k4).mono ?_;rintro e w' ⟨v,rfl,ho⟩;exact ⟨v,rfl,k5 v w' ho⟩
 .refine .inr (fun g w vals h1 h2 h3 h4=> ?_);obtain ⟨g1,k1,k2,k3,k4,k5⟩:=key g w vals h1 h2 h3 h4;obtain ⟨v,w',hr,ho⟩:=h g1 w vals k1 k2 k3 k4;exact ⟨v,w',hr,k5 v w' ho⟩
structure FamAt where
 q:Nat
 dom:Nat->Prop
 f:Nat->Blk
abbrev p0b:=List (Nat×FamAt)
def fmu (L:p0b) (h:Nat):Nat:=match a0B L h with|some a=>a.q|none=>0
def o0D (L:p0b) (h:Nat):HB->HB
 | .one ro b=>match a0B L h with|some a=> .fam ro a.dom a.f|none=> .one ro (b.mem (fmu L))
 | .fam ro dom f=> .fam ro dom (fun x=>(f x).mem (fmu L))
def v0H (L:p0b):a0g->a0g
 | []=> []
 |(h,some hb)::r=>(h,some (o0D L h hb))::v0H L r
 |(h,none)::r=>(h,none)::v0H L r
def m0g (L:p0b) (h:Nat):HB->HB
 | .one ro b=>match a0B L h with|some a=> .fam ro a.dom (fun x=>if x=a.q then b.mem (fmu L) else a.f x)|none=> .one ro (b.mem (fmu L))
 | .fam ro dom f=> .fam ro dom (fun x=>(f x).mem (fmu L))
def h0s (L:p0b):a0g->a0g
 | []=> []
 |(h,some hb)::r=>(h,some (m0g L h hb))::h0s L r
 |(h,none)::r=>(h,none)::h0s L r
def n0s (L:p0b) (H H':a0g) (n:Nat):p0b->Prop
 | []=>True
 |(h,a)::r=>(0<h/\h<n/\∃ro b,a0t H h=some (.one ro b)/\a.dom a.q/\a.f a.q=b.mem (fmu L)/\(a0t H' h=none\/(ro=false/\∃b1,a0t H' h=some (.one false b1))))/\n0s L H H' n r
def HB.mok (μ:Nat->Nat):HB->Prop
 | .one _ b=>b.mok μ=true
 | .fam _ dom f=>∀q,dom q->(f q).mok μ=true
def e0C (μ:Nat->Nat):a0g->Prop
 | []=>True
 |(_,some hb)::r=>hb.mok μ/\e0C μ r
 |(_,none)::r=>e0C μ r
theorem d0c (L:p0b) (h:Nat):∀H:a0g,a0t (v0H L H) h=(a0t H h).map (o0D L h)
 | []=>rfl
 |(k,some hb)::r=>by
  simp only [v0H,a0O];by_cases e:k=h
  .rw [if_pos e,if_pos e,e];rfl
  .rw [if_neg e,if_neg e];exact d0c L h r
 |(k,none)::r=>by
  simp only [v0H,a0O];by_cases e:k=h
  .rw [if_pos e,if_pos e];rfl
  .rw [if_neg e,if_neg e];exact d0c L h r
theorem d0l (L:p0b) (h:Nat):∀H:a0g,a0t (h0s L H) h=(a0t H h).map (m0g L h)
 | []=>rfl
 |(k,some hb)::r=>by
  simp only [h0s,a0O];by_cases e:k=h
  .rw [if_pos e,if_pos e,e];rfl
  .rw [if_neg e,if_neg e];exact d0l L h r
 |(k,none)::r=>by
  simp only [h0s,a0O];by_cases e:k=h
  .rw [if_pos e,if_pos e];rfl
  .rw [if_neg e,if_neg e];exact d0l L h r
theorem d0m {μ:Nat->Nat} {h:Nat} {hb:HB}:∀{H:a0g},e0C μ H->a0t H h=some hb->hb.mok μ
 | [],_,e=>by cases e
 |(k,some x)::r,hm,e=>by
  simp only [e0C] at hm;rw [a0O] at e;split at e
  .cases e;exact hm.1
  .exact d0m hm.2 e
 |(k,none)::r,hm,e=>by
  simp only [e0C] at hm;rw [a0O] at e;split at e
  .cases e
  .exact d0m hm e
theorem c0a {L0:p0b} {H H':a0g} {n h:Nat} {a:FamAt}:∀{L:p0b},n0s L0 H H' n L->a0B L h=some a->0<h/\h<n/\∃ro b,a0t H h=some (.one ro b)/\a.dom a.q/\a.f a.q=b.mem (fmu L0)/\(a0t H' h=none\/(ro=false/\∃b1,a0t H' h=some (.one false b1)))
 | [],_,e=>by cases e
 |(k,x)::r,hm,e=>by
  simp only [n0s] at hm;rw [b0p] at e;split at e
  .rename_i q;subst q;cases e;exact hm.1
  .exact c0a hm.2 e
theorem w0o {P:Program} {n:Nat} {f:FuncId} {args:List SV} {H H':a0g} {r:SV} {n':Nat} (L:p0b) (hL:n0s L H H' n L) (hm:e0C (fmu L) H) (hm':e0C (fmu L) H') (hrw:e0r H') (h:FC P n f args H (a0h r H' n')):
  FC P n f (SV.mems (fmu L) args) (v0H L H) (a0h (r.mem (fmu L)) (h0s L H') n'):=by
 have hno:∀{x:Nat},a0B L x=none->fmu L x=0:=fun {x} e=>by unfold fmu;rw [e]
 have hyes:∀{x:Nat} {a:FamAt},a0B L x=some a->fmu L x=a.q:=fun {x a} e=>by unfold fmu;rw [e]
 refine w0n (fmu L) ?_ ?_ ?_ ?_ h
 .cases e:a0B L 0 with
  |none=>exact hno e
  |some a=>exact absurd (c0a hL e).1 (z0T _)
 .intro x hx;cases e:a0B L x with
  |none=>exact hno e
  |some a=>have:=(c0a hL e).2.1;omega
 .rintro x q ro b ⟨hb,e1,e2,e3⟩;have hmo:=d0m hm e1;cases hb with
  |one r0 b0=>
   simp only [HB.is] at e2;obtain ⟨rfl,rfl⟩:=e2;refine ⟨hmo,?_⟩;cases e:a0B L x with
   |none=>
    rw [hno e];refine ⟨.one r0 (b.mem (fmu L)),?_,⟨rfl,rfl⟩,e3⟩;rw [d0c,e1];simp only [l0C,o0D,e]
   |some a=>
    obtain ⟨_,_,ro1,b1,k1,k2,k3,_⟩:=c0a hL e;rw [e1] at k1;cases k1;rw [hyes e,p0Z];refine ⟨.fam r0 a.dom a.f,?_,⟨k2,k3.symm⟩,e3⟩;rw [d0c,e1];simp only [l0C,o0D,e]
  |fam r0 dom F=>
   simp only [HB.is] at e2;obtain ⟨h1,rfl⟩:=e2;refine ⟨hmo q h1,?_⟩;cases e:a0B L x with
   |none=>
    rw [hno e];refine ⟨.fam r0 dom (fun y=>(F y).mem (fmu L)),?_,⟨h1,rfl⟩,e3⟩;rw [d0c,e1];simp only [l0C,o0D]
   |some a=>
    obtain ⟨_,_,ro1,b1,k1,_⟩:=c0a hL e;rw [e1] at k1;cases k1
 .rintro sv Hx nx ⟨rfl,rfl,rfl⟩;refine ⟨h0s L Hx,⟨rfl,rfl,rfl⟩,?_,?_⟩
  .rintro x q ro b ⟨hb,e1,e2,e3⟩;rw [d0l] at e1;cases e:a0t Hx x with
   |none=>rw [e] at e1;cases e1
   |some hb0=>
    rw [e] at e1;simp only [l0C,Option.some.injEq] at e1;subst e1;cases hb0 with
    |one r0 b0=>
     have:=hrw x 0 r0 b0 ⟨_,e,⟨rfl,rfl⟩,rfl⟩;subst this;rw [<-e3];simp only [m0g];split<;>rfl
    |fam r0 dom F=>
     simp only [m0g,HB.is] at e2;have:=hrw x q r0 (F q) ⟨_,e,⟨e2.1,rfl⟩,rfl⟩;subst this;rw [<-e3];rfl
  .rintro x q1 b1 ⟨hb,e1,e2,e3⟩;rw [d0l] at e1;cases e:a0t Hx x with
   |none=>rw [e] at e1;cases e1
   |some hb0=>
    rw [e] at e1;simp only [l0C,Option.some.injEq] at e1;subst e1;have hmo:=d0m hm' e;cases hb0 with
    |one r0 b0=>
     have:=hrw x 0 r0 b0 ⟨_,e,⟨rfl,rfl⟩,rfl⟩;subst this;cases ea:a0B L x with
     |none=>
      simp only [m0g,ea,HB.is] at e2;exact .inl ⟨0,b0,by rw [hno ea];exact e2.1,e2.2,hmo,⟨_,e,⟨rfl,rfl⟩,rfl⟩⟩
     |some a=>
      simp only [m0g,ea,HB.is] at e2;obtain ⟨hx0,hxn,ro1,bb,k1,k2,k3,k4⟩:=c0a hL ea;have hro:ro1=false:=by
       rcases k4 with k4|k4
       .rw [e] at k4;cases k4
       .exact k4.1
      subst hro;by_cases hq:q1=a.q
      .refine .inl ⟨0,b0,by rw [hyes ea,p0Z];exact hq,?_,hmo,⟨_,e,⟨rfl,rfl⟩,rfl⟩⟩;rw [e2.2,if_pos hq]
      .refine .inr ⟨hxn,⟨.fam false a.dom a.f,?_,⟨e2.1,?_⟩,rfl⟩,?_⟩
       .rw [d0c,k1];simp only [l0C,o0D,ea]
       .rw [e2.2,if_neg hq]
       .rintro q ro b hqe ⟨hb2,f1,f2,_⟩;rw [k1] at f1;cases f1;simp only [HB.is] at f2;rw [hyes ea,f2.1,p0Z] at hqe;exact hq hqe
    |fam r0 dom F=>
     simp only [m0g,HB.is] at e2;have:=hrw x q1 r0 (F q1) ⟨_,e,⟨e2.1,rfl⟩,rfl⟩;subst this;cases ea:a0B L x with
     |none=>exact .inl ⟨q1,F q1,by rw [hno ea];rfl,e2.2,hmo q1 e2.1,⟨_,e,⟨e2.1,rfl⟩,rfl⟩⟩
     |some a=>
      obtain ⟨_,_,ro1,bb,_,_,_,k4⟩:=c0a hL ea;rcases k4 with k4|⟨_,b2,k4⟩
      .rw [e] at k4;cases k4
      .rw [e] at k4;cases k4
end Go.Sy
namespace Go.Sy
open Go.RowKit
theorem c0F:∀(n:Nat) (sn:List Nat),sn.Nodup->(∀i∈sn,i<n)->sn.length<=n
 |0,sn,_,h=>by cases sn with|nil=>simp|cons x r=>exact absurd (h x (by simp)) (by omega)
 |n+1,sn,hd,h=>by
  by_cases hm:n∈sn
  .have:=c0F n (sn.erase n) (hd.erase n) (fun i hi=>by
    have h1:=h i (List.mem_of_mem_erase hi);have h2:i≠n:=fun e=>by subst e;exact (hd.not_mem_erase) hi
    omega)
   rw [List.length_erase_of_mem hm] at this;omega
  .have:=c0F n sn hd (fun i hi=>by
    have h1:=h i hi;have h2:i≠n:=fun e=>by subst e;exact hm hi
    omega)
   omega
theorem f0l {n i:Nat} {sn:List Nat} (hd:sn.Nodup) (h:∀i∈sn,i<n) (hi:i<n) (hn:¬i∈sn):sn.length<n:=by
 have:=c0F n (i::sn) (z0K.2 ⟨hn,hd⟩) (fun x hx=>by rcases j0x.1 hx with rfl|hx;exact hi;exact h x hx);simp only [s0a] at this;omega
theorem i0G {n:Nat} {sn:List Nat} (hd:sn.Nodup) (hl:∀i∈sn,i<n) (ha:∀i,i<n->i∈sn):sn.Perm (List.range n):=by
 refine (List.perm_ext_iff_of_nodup hd List.nodup_range).2 fun i=> ?_
 rw [w0s];exact ⟨hl i,ha i⟩
theorem e0k {α:Type} (l:List α) (d:α):(List.range l.length).map (fun i=>l.getD i d)=l:=by
 refine z0n (by simp) ?_;intro i h1 h2;simp [List.getD,h2]
def e0D:Code->List Code
 | .seq a b=>e0D a++e0D b
 | .cond _ a b=>e0D a++e0D b
 | .block _ c=>e0D c
 | .loop c=>c::e0D c
 |_=> []
def lpc (f:Func) (k:Nat):Code:=match f.body with|some c=>(e0D c).getD k .skip|none=> .skip
def lpK {α:Type} (n0:Nat) (st:α->VS) (inv:α->Prop) (μ:α->Nat) (K:Exit->VS->Prop) (x:α):Exit->VS->Prop:=fun e v'=>match e with| .normal=>∃y l u,inv y/\μ y<μ x/\upK u v' (fun v=>Weak n0 l v (st y))|e=>K e v'
theorem j0y {α:Type} {n0:Nat} {body:VS->(Exit->VS->Prop)->Prop} {vs:VS} {K:Exit->VS->Prop} (st:α->VS) (inv:α->Prop) (μ:α->Nat) (x0:α) (l0:List Nat) (u0:List Up) (hw:upK u0 vs (fun v=>Weak n0 l0 v (st x0))) (hi:inv x0)
  (hr:∀x,inv x->body (st x) (lpK n0 st inv μ K x)):a0H n0 body vs K:=⟨α,st,inv,μ,x0,l0,u0,hw,hi,hr⟩
end Go.Sy
namespace Go.Sy
open Go.RowKit
theorem j0z {n:Nat} {R:Nat->Nat->Option (Nat×Nat)} (s:SV):SLe n R s s:=fun g g1 v hle _ h=>Rv.mono hle s v h
theorem p0W {n:Nat} {R:Nat->Nat->Option (Nat×Nat)} {h q h' q' i k:Nat} (hn:n<=h') (e:R h' q'=some (h,q)):SLe n R (.sl h q i k) (.sl h' q' i k):=by
 intro g g1 v hle hR hv;simp only [Rv] at hv⊢;obtain ⟨a,c,e1,e2,e3⟩:=hv;refine ⟨a,c,e1,e2,?_⟩;rcases e3 with e3|⟨β,e3,e4⟩
 .exact .inl e3
 .exact .inr ⟨β,hR h' q' _ hn e β e3,e4⟩
theorem m0h {h q:Nat} {ro:Bool} {b:Blk}:¬Ent [] h q ro b:=fun ⟨hb,e,_⟩=>by simp [a0t] at e
end Go.Sy
namespace Go.Sy
open Go.RowKit
theorem q0a {n:Nat} {R:Nat->Nat->Option (Nat×Nat)} {h q h' q' i j:Nat} (hn:n<=h') (e:R h' q'=some (h,q)):SLe n R (.ptr h q i j) (.ptr h' q' i j):=by
 intro g g1 v hle hR hv;simp only [Rv] at hv⊢;obtain ⟨β,e1,e2⟩:=hv;exact ⟨β,hR h' q' _ hn e β e1,e2⟩
def v0I (n:Nat) (R:Nat->Nat->Option (Nat×Nat)):List SV->List SV->Prop
 | [],[]=>True
 |a::l,b::m=>SLe n R a b/\v0I n R l m
 |_,_=>False
theorem n0t {n:Nat} {R:Nat->Nat->Option (Nat×Nat)} {ka:Bool} {m:Nat} {ks:List Col} {c c':BCol} {bs:List Nat} {ck:Nat} (hl:c'.len=m) (h:∀i,i<m->SLe n R (c.at i) (c'.at i)):BLe n R (.obj (.map ka false m ks [c] bs ck)) (.obj (.map ka false m ks [c'] bs ck)):=
 .inr ⟨rfl,rfl,rfl,rfl,rfl,rfl,fun _ c2 h2=>by rw [p0T] at h2;subst h2;exact hl,fun i hi=>h i hi⟩
def w0r (n:Nat) (R:Nat->Nat->Option (Nat×Nat)) (m:Nat):List BCol->List BCol->Prop
 | [],[]=>True
 |c::l,d::r=>((c.len=m->d.len=m)/\∀i,i<m->SLe n R (c.at i) (d.at i))/\w0r n R m l r
 |_,_=>False
theorem h0v {n m:Nat} {R:Nat->Nat->Option (Nat×Nat)}:∀{l r:List BCol},w0r n R m l r->r.length=l.length/\((∀c∈l,c.len=m)->∀c∈r,c.len=m)/\∀i j d,i<m->nth r j=some d->∃c,nth l j=some c/\SLe n R (c.at i) (d.at i)
 | [],[],_=>⟨rfl,fun _ c h=>(by cases h),fun i j d _ h=>by simp [nth] at h⟩
 |a::l,b::r,h=>by
  obtain ⟨h1,h2,h3⟩:=h0v h.2;refine ⟨by rw [s0a,s0a,h1],fun hl c hc=> ?_,fun i j d hi hd=> ?_⟩
  .rcases j0x.1 hc with rfl|hc
   .exact h.1.1 (hl a (List.mem_cons_self))
   .exact h2 (fun c hc=>hl c (y0f _ hc)) c hc
  .cases j with
   |zero=>simp only [nth,Option.some.injEq] at hd;subst hd;exact ⟨a,rfl,h.1.2 i hi⟩
   |succ j=>simp only [nth] at hd⊢;exact h3 i j d hi hd
 | [],_::_,h=>h.elim
 |_::_,[],h=>h.elim
theorem s0c {n m:Nat} {R:Nat->Nat->Option (Nat×Nat)} {l r:List BCol} (h:w0r n R m l r):BLe n R (.cols m l) (.cols m r):=
 .inr ⟨h0Z _,(h0v h).1,(h0v h).2.1,(h0v h).2.2⟩
theorem q0b {n m:Nat} {R:Nat->Nat->Option (Nat×Nat)} (c:BCol):(c.len=m->c.len=m)/\∀i,i<m->SLe n R (c.at i) (c.at i):=⟨id,fun i _=>j0z _⟩
theorem n0u {n m h nb h':Nat} {R:Nat->Nat->Option (Nat×Nat)} (hn:n<=h') (h1:∀q,q<m->R h' q=some (h,q)) (h2:R h' m=some (nb,0)):∀i,i<m+1->SLe n R ((BCol.svs (d0w h m++ [.ptr nb 0 0 0])).at i) ((BCol.ptrs h' (m+1)).at i):=by
 intro i hi;by_cases e:i<m
 .have e1:(BCol.svs (d0w h m++ [.ptr nb 0 0 0])).at i= .ptr h i 0 0:=by
   show (d0w h m++ [SV.ptr nb 0 0 0]).getD i .unk=_;rw [List.getD,m0j (by rw [b0d];exact e)];exact d0x e
  rw [e1];exact q0a hn (h1 i e)
 .have ei:i=m:=by omega
  subst ei;have e1:(BCol.svs (d0w h i++ [.ptr nb 0 0 0])).at i= .ptr nb 0 0 0:=by
   show (d0w h i++ [SV.ptr nb 0 0 0]).getD i .unk=_;rw [List.getD,m0f (by rw [b0d];exact h0Z _),b0d,x0N];rfl
  rw [e1];exact q0a hn h2
theorem s0e {h m:Nat} {v:SV}:b0w m v (d0w h m)=d0w h m++ [v]:=by
 unfold b0w;rw [if_neg (by rw [b0d];omega)]
theorem q0c {H:a0g} {n th:Nat} {tb0 tb:Blk} (hth:th<n) (ht:a0t H th=some (.one false tb0)) (hle:BLe n (fun _ _=>none) tb0 tb):Relab H n (fun _ _=>none) (fun _=>0) [(th,some (.one false tb))] [] 0:=by
 have key:∀{h q:Nat} {ro:Bool} {b:Blk},Ent [(th,some (HB.one false tb))] h q ro b->h=th/\q=0/\ro=false/\b=tb:=by
  intro h q ro b he;rcases a0v.1 he with ⟨rfl,hb2,e1,e2,e3⟩|⟨_,he⟩
  .cases e1;exact ⟨rfl,e2.1,e3.symm,e2.2⟩
  .exact (m0h he).elim
 refine ⟨fun h q p _ e=>(by cases e),fun h q ro b he=>(key he).2.2.1,?_,fun h q p _ e=>(by cases e),?_⟩
 .intro h q b' he;obtain ⟨rfl,rfl,_,rfl⟩:=key he;exact .inl ⟨h,0,tb0,.inl ⟨hth,rfl,rfl⟩,⟨_,ht,⟨rfl,rfl⟩,rfl⟩,hle⟩
 .intro h q h' q' h0 q0 _ _ h1 h2;rcases h1 with ⟨_,rfl,rfl⟩|⟨_,e⟩
  .rcases h2 with ⟨_,e1,e2⟩|⟨_,e⟩
   .exact ⟨e1,e2⟩
   .cases e
  .cases e
structure GD where
 old:Nat
 nw:Nat
 f:Nat->Blk
def gdR (n m:Nat) (D:List GD) (h q:Nat):Option (Nat×Nat):=if n<=h/\q<=m then (match nth D (h-n) with|some d=>if q<m then some (d.old,q) else some (d.nw,0)|none=>none) else none
def gdN (n m:Nat):Nat->List GD->a0g
 |_,[]=> []
 |i,d::r=>(n+i,some (.fam false (fun x=>x<m) d.f))::gdN n m (i+1) r
def gdr:List GD->List Nat
 | []=> []
 |d::r=>d.old::d.nw::gdr r
theorem h0w:∀{D:List GD} {i:Nat} {d:GD},nth D i=some d->d.old∈gdr D/\d.nw∈gdr D
 | [],i,d,h=>by simp [nth] at h
 |x::D,0,d,h=>by simp only [nth,Option.some.injEq] at h;subst h;simp [gdr]
 |x::D,i+1,d,h=>by
  have:=h0w (D:=D) (i:=i) h;simp [gdr,this]
theorem j0A {n m:Nat}:∀{D:List GD} {i h q:Nat} {ro:Bool} {b:Blk},Ent (gdN n m i D) h q ro b->∃j d,h=n+(i+j)/\nth D j=some d/\q<m/\ro=false/\b=d.f q
 | [],i,h,q,ro,b,he=>(m0h he).elim
 |x::D,i,h,q,ro,b,he=>by
  simp only [gdN] at he;rcases a0v.1 he with ⟨rfl,hb2,e1,e2,e3⟩|⟨_,he⟩
  .cases e1;exact ⟨0,x,by omega,rfl,e2.1,e3.symm,e2.2⟩
  .obtain ⟨j,d,h1,h2,h3⟩:=j0A he;exact ⟨j+1,d,by omega,h2,h3⟩
theorem j0B {n m:Nat}:∀{D:List GD} {i x:Nat},x∈a0p (gdN n m i D)->n<=x
 | [],i,x,h=>by simp [gdN,a0p] at h
 |d::D,i,x,h=>by
  simp only [gdN,a0p,j0x] at h;rcases h with h|h
  .omega
  .exact j0B h
theorem q0d {α:Type}:∀{l:List α} {i:Nat} {x:α},nth l i=some x->i<l.length
 | [],i,x,h=>by simp [nth] at h
 |y::l,0,x,h=>by simp
 |y::l,i+1,x,h=>by have:=q0d (l:=l) (i:=i) h;simp;exact this
theorem c0f {n m:Nat} {D:List GD} {h q:Nat} {p:Nat×Nat} (e:gdR n m D h q=some p):n<=h/\q<=m/\∃d,nth D (h-n)=some d/\((q<m/\p=(d.old,q))\/(q=m/\p=(d.nw,0))):=by
 unfold gdR at e;split at e
 .rename_i c;split at e
  .rename_i d hd;refine ⟨c.1,c.2,d,hd,?_⟩;split at e
   .rename_i w;simp only [Option.some.injEq] at e;exact .inl ⟨w,e.symm⟩
   .rename_i w;simp only [Option.some.injEq] at e;exact .inr ⟨by omega,e.symm⟩
  .cases e
 .cases e
theorem j0C {n m i q:Nat} {D:List GD} {d:GD} (hd:nth D i=some d) (hq:q<m):gdR n m D (n+i) q=some (d.old,q):=by
 unfold gdR;rw [if_pos ⟨by omega,by omega⟩,Nat.add_sub_cancel_left,hd];exact if_pos hq
theorem j0D {n m i:Nat} {D:List GD} {d:GD} (hd:nth D i=some d):gdR n m D (n+i) m=some (d.nw,0):=by
 unfold gdR;rw [if_pos ⟨by omega,by omega⟩,Nat.add_sub_cancel_left,hd];exact if_neg (z0T _)
def n0v (D:List GD):Bool:=i0g (gdr D)
theorem n0w:∀{l:List Nat} {x:Nat},p0m l x=true↔x∈l
 | [],x=>by simp [p0m]
 |y::l,x=>by
  simp only [p0m,u0A,n0w (l:=l),j0x];constructor
  .rintro (h|h)
   .exact .inl (d0I h).symm
   .exact .inr h
  .rintro (h|h)
   .subst h;exact .inl (by simp)
   .exact .inr h
theorem j0E:∀{l:List Nat},i0g l=true->l.Nodup
 | [],_=>z0N
 |x::l,h=>by
  simp only [i0g,e0z,n0r] at h;exact z0K.2 ⟨fun q=>(by have:=n0w.2 q;rw [h.1] at this;cases this),j0E h.2⟩
theorem l0c:∀{D:List GD},(gdr D).Nodup->∀{i j:Nat} {d e:GD},nth D i=some d->nth D j=some e->(d.old=e.old->i=j)/\(d.nw=e.nw->i=j)/\d.old≠e.nw
 | [],_,i,j,d,e,h,_=>by simp [nth] at h
 |x::D,hn,i,j,d,e,h1,h2=>by
  simp only [gdr] at hn;obtain ⟨n1,n2⟩:=z0K.1 hn;obtain ⟨n3,n4⟩:=z0K.1 n2;cases i with
  |zero=>
   simp only [nth,Option.some.injEq] at h1;subst h1;cases j with
   |zero=>
    simp only [nth,Option.some.injEq] at h2;subst h2;exact ⟨fun _=>rfl,fun _=>rfl,fun q=>n1 (by rw [q];simp)⟩
   |succ j=>
    have m:=h0w (D:=D) (i:=j) h2;refine ⟨fun q=>absurd (y0f _ (by rw [q];exact m.1)) n1,fun q=>absurd (by rw [q];exact m.2) n3,fun q=>n1 (y0f _ (by rw [q];exact m.2))⟩
  |succ i=>
   have m:=h0w (D:=D) (i:=i) h1;cases j with
   |zero=>
    simp only [nth,Option.some.injEq] at h2;subst h2;refine ⟨fun q=>absurd (y0f _ (by rw [<-q];exact m.1)) n1,fun q=>absurd (by rw [<-q];exact m.2) n3,fun q=>n3 (by rw [<-q];exact m.1)⟩
   |succ j=>
    obtain ⟨a,b,c⟩:=l0c (D:=D) n4 (i:=i) (j:=j) h1 h2;exact ⟨fun q=>by rw [a q],fun q=>by rw [b q],c⟩
end Go.Sy
namespace Go.Sy
open Go.RowKit
structure TD where
 h:Nat
 b0:Blk
 b:Blk
def tdN (U:a0g):List TD->a0g
 | []=>U
 |t::r=>(t.h,some (.one false t.b))::tdN U r
def y0l (H:a0g) (n:Nat) (R:Nat->Nat->Option (Nat×Nat)):List TD->Prop
 | []=>True
 |t::r=>(t.h<n/\a0t H t.h=some (.one false t.b0)/\BLe n R t.b0 t.b)/\y0l H n R r
theorem n0x {H:a0g} {n:Nat} {R:Nat->Nat->Option (Nat×Nat)}:∀{T:List TD} {t:TD},y0l H n R T->t∈T->t.h<n/\a0t H t.h=some (.one false t.b0)/\BLe n R t.b0 t.b
 |x::T,t,h,ht=>by
  rcases j0x.1 ht with rfl|ht
  .exact h.1
  .exact n0x h.2 ht
theorem q0e {U:a0g}:∀{T:List TD} {h q:Nat} {ro:Bool} {b:Blk},Ent (tdN U T) h q ro b->(∃t,t∈T/\h=t.h/\q=0/\ro=false/\b=t.b)\/Ent U h q ro b
 | [],h,q,ro,b,he=> .inr he
 |x::T,h,q,ro,b,he=>by
  rcases a0v.1 he with ⟨rfl,hb2,e1,e2,e3⟩|⟨_,he⟩
  .cases e1;exact .inl ⟨x,List.mem_cons_self,rfl,e2.1,e3.symm,e2.2⟩
  .rcases q0e he with ⟨t,h1,h2⟩|h1
   .exact .inl ⟨t,y0f _ h1,h2⟩
   .exact .inr h1
theorem n0y {U:a0g}:∀{T:List TD} {x:Nat},x∈a0p (tdN U T)->(∃t,t∈T/\x=t.h)\/x∈a0p U
 | [],x,h=> .inr h
 |y::T,x,h=>by
  simp only [tdN,a0p,j0x] at h;rcases h with rfl|h
  .exact .inl ⟨y,List.mem_cons_self,rfl⟩
  .rcases n0y h with ⟨t,h1,h2⟩|h1
   .exact .inl ⟨t,y0f _ h1,h2⟩
   .exact .inr h1
def u0B (H:a0g) (n m:Nat) (T:List TD) (R:Nat->Nat->Option (Nat×Nat)):List GD->Prop
 | []=>True
 |d::r=>((∀t∈T,d.old≠t.h/\d.nw≠t.h)/\(0<m->∃dom f,a0t H d.old=some (.fam false dom f)/\(∀q,q<m->dom q/\BLe n R (f q) (d.f q)))/\∃b,a0t H d.nw=some (.one false b)/\BLe n R b (d.f m))/\u0B H n m T R r
theorem j0F {H:a0g} {n m:Nat} {T:List TD} {R:Nat->Nat->Option (Nat×Nat)}:∀{D:List GD} {i:Nat} {d:GD},u0B H n m T R D->nth D i=some d->(∀t∈T,d.old≠t.h/\d.nw≠t.h)/\(0<m->∃dom f,a0t H d.old=some (.fam false dom f)/\(∀q,q<m->dom q/\BLe n R (f q) (d.f q)))/\∃b,a0t H d.nw=some (.one false b)/\BLe n R b (d.f m)
 | [],i,d,_,e=>by simp [nth] at e
 |x::D,0,d,h,e=>by simp only [nth,Option.some.injEq] at e;subst e;exact h.1
 |x::D,i+1,d,h,e=>j0F (D:=D) (i:=i) h.2 e
theorem i0H {H:a0g} {n m:Nat} (T:List TD) (D:List GD) (hT:y0l H n (gdR n m D) T) (hD:u0B H n m T (gdR n m D) D) (hdist:n0v D=true):
  Relab H n (gdR n m D) (fun _=>0) (tdN (gdN n (m+1) 0 D) T) (gdr D) D.length:=by
 have hnd:=j0E hdist;have key:∀{h q:Nat} {ro:Bool} {b:Blk},Ent (tdN (gdN n (m+1) 0 D) T) h q ro b->(∃t,t∈T/\h=t.h/\q=0/\ro=false/\b=t.b)\/∃j d,h=n+j/\nth D j=some d/\q<m+1/\ro=false/\b=d.f q:=by
  intro h q ro b he;rcases q0e he with h1|he
  .exact .inl h1
  .obtain ⟨j,d,h1,h2⟩:=j0A he;exact .inr ⟨j,d,by omega,h2⟩
 refine ⟨?_,?_,?_,?_,?_⟩
 .intro h q p h1 h2;obtain ⟨_,_,d,h3,_⟩:=c0f h2;have:=q0d h3;omega
 .intro h q ro b he;rcases key he with ⟨_,_,_,_,e,_⟩|⟨_,_,_,_,_,e,_⟩<;>exact e
 .intro h q b' he;rcases key he with ⟨t,ht,rfl,rfl,_,rfl⟩|⟨j,d,rfl,hd,hq,_,rfl⟩
  .obtain ⟨g1,g2,g3⟩:=n0x hT ht;exact .inl ⟨t.h,0,t.b0,.inl ⟨g1,rfl,rfl⟩,⟨_,g2,⟨rfl,rfl⟩,rfl⟩,g3⟩
  .obtain ⟨_,g0,b,g3,g4⟩:=j0F hD hd;by_cases e:q<m
   .obtain ⟨dom,f,g1,g2⟩:=g0 (by omega);exact .inl ⟨d.old,q,f q,.inr ⟨by omega,j0C hd e⟩,⟨_,g1,⟨(g2 q e).1,rfl⟩,rfl⟩,(g2 q e).2⟩
   .have eq:q=m:=by omega
    subst eq;exact .inl ⟨d.nw,0,b,.inr ⟨by omega,j0D hd⟩,⟨_,g3,⟨rfl,rfl⟩,rfl⟩,g4⟩
 .intro h q p h1 h2;obtain ⟨_,_,d,h3,h4⟩:=c0f h2;have:=h0w h3;rcases h4 with ⟨_,rfl⟩|⟨_,rfl⟩
  .exact this.1
  .exact this.2
 .intro h q h' q' h0 q0 hk hk' h1 h2;have no:∀{x y:Nat},n<=x->gdR n m D x y=some (h0,q0)->∀t∈T,h0≠t.h:=by
   intro x y hx e t ht;obtain ⟨_,_,d,h3,h4⟩:=c0f e;obtain ⟨g1,_⟩:=j0F hD h3;rcases h4 with ⟨_,h4⟩|⟨_,h4⟩
   .cases h4;exact (g1 t ht).1
   .cases h4;exact (g1 t ht).2
  have kk:∀{x:Nat},x∈a0p (tdN (gdN n (m+1) 0 D) T)->(∃t,t∈T/\x=t.h)\/n<=x:=fun hx=>(n0y hx).imp id j0B
  rcases h1 with ⟨a1,rfl,rfl⟩|⟨a1,a2⟩
  .rcases h2 with ⟨b1,e1,e2⟩|⟨b1,b2⟩
   .exact ⟨e1,e2⟩
   .exfalso;rcases kk hk with ⟨t,ht,e⟩|e
    .exact no b1 b2 t ht e
    .omega
  .rcases h2 with ⟨b1,rfl,rfl⟩|⟨b1,b2⟩
   .exfalso;rcases kk hk' with ⟨t,ht,e⟩|e
    .exact no a1 a2 t ht e
    .omega
   .obtain ⟨_,_,d,h3,h4⟩:=c0f a2;obtain ⟨_,_,d',h3',h4'⟩:=c0f b2;obtain ⟨i1,i2,i3⟩:=l0c hnd h3 h3';obtain ⟨_,_,i4⟩:=l0c hnd h3' h3;rcases h4 with ⟨w,h4⟩|⟨w,h4⟩<;>rcases h4' with ⟨w',h4'⟩|⟨w',h4'⟩
    .cases h4;simp only [Prod.mk.injEq] at h4';have:=i1 h4'.1;exact ⟨by omega,h4'.2⟩
    .cases h4;simp only [Prod.mk.injEq] at h4';exact absurd h4'.1 i3
    .cases h4;simp only [Prod.mk.injEq] at h4';exact absurd h4'.1.symm i4
    .cases h4;simp only [Prod.mk.injEq] at h4';have:=i2 h4'.1;exact ⟨by omega,by omega⟩
theorem q0f {n:Nat} {R:Nat->Nat->Option (Nat×Nat)} {g g1:G} (hle:G.le g g1) (hR:∀h q p,n<=h->R h q=some p->∀β,g p.1 p.2=some β->g1 h q=some β):∀{l r:List SV} {vs:List Value},v0I n R l r->Rvs g l vs->Rvs g1 r vs
 | [],[],vs,_,h=>h
 |a::l,b::r,vs,hs,h=>by
  simp only [Rvs] at h⊢;obtain ⟨v,vs',e,h1,h2⟩:=h;exact ⟨v,vs',e,hs.1 g g1 v hle hR h1,q0f hle hR hs.2 h2⟩
 | [],_::_,_,h,_=>h.elim
 |_::_,[],_,h,_=>h.elim
theorem u0C {n:Nat} {R:Nat->Nat->Option (Nat×Nat)} {l r:List SV} (h:v0I n R l r):SLe n R (.agg l) (.agg r):=by
 intro g g1 v hle hR hv;simp only [Rv] at hv⊢;obtain ⟨vs,e,h2⟩:=hv;exact ⟨vs,e,q0f hle hR h h2⟩
theorem n0z {n m i:Nat} {R:Nat->Nat->Option (Nat×Nat)} (hi:i<m):∀{l r:List BCol},w0r n R m l r->v0I n R (a0o l i) (a0o r i)
 | [],[],_=>trivial
 |_::_,_::_,h=>⟨h.1.2 i hi,n0z hi h.2⟩
 | [],_::_,h=>h.elim
 |_::_,[],h=>h.elim
theorem s0f {n:Nat} {R:Nat->Nat->Option (Nat×Nat)} {ka:Bool} {m:Nat} {ks:List Col} {l r:List BCol} {bs:List Nat} {ck:Nat} (h:w0r n R m l r):BLe n R (.obj (.map ka true m ks l bs ck)) (.obj (.map ka true m ks r bs ck)):=
 .inr ⟨rfl,rfl,rfl,rfl,rfl,rfl,(h0v h).2.1,fun i hi=>u0C (n0z hi h)⟩
theorem u0D {n m h nb h' k:Nat} {ns:List Nat} {R:Nat->Nat->Option (Nat×Nat)} (hl:ns.length=m) (hn:n<=h') (h1:∀q,q<m->R h' q=some (h,q)) (h2:R h' m=some (nb,0)):∀i,i<m+1->SLe n R ((BCol.svs (g0s h ns++ [.sl nb 0 0 k])).at i) ((BCol.own h' (ns++ [k])).at i):=by
 intro i hi;by_cases e:i<m
 .have e1:(BCol.svs (g0s h ns++ [.sl nb 0 0 k])).at i= .sl h i 0 (ns.getD i 0):=by
   show (g0s h ns++ [SV.sl nb 0 0 k]).getD i .unk=_;rw [List.getD,m0j (by rw [b0c];omega)];exact c0O (by omega)
  have e2:(BCol.own h' (ns++ [k])).at i= .sl h' i 0 (ns.getD i 0):=by
   show SV.sl h' i 0 ((ns++ [k]).getD i 0)=_;rw [List.getD,m0j (by omega)];rfl
  rw [e1,e2];exact p0W hn (h1 i e)
 .have ei:i=m:=by omega
  subst ei;have e1:(BCol.svs (g0s h ns++ [.sl nb 0 0 k])).at i= .sl nb 0 0 k:=by
   show (g0s h ns++ [SV.sl nb 0 0 k]).getD i .unk=_;rw [List.getD,m0f (by rw [b0c];omega),b0c,hl,x0N];rfl
  have e2:(BCol.own h' (ns++ [k])).at i= .sl h' i 0 k:=by
   show SV.sl h' i 0 ((ns++ [k]).getD i 0)=_;rw [List.getD,m0f (by omega),hl,x0N];rfl
  rw [e1,e2];exact p0W hn h2
end Go.Sy
namespace Go.Sy
open Go.RowKit Go.ChangeShapes Go.WideShapes Go.Deep
inductive CK where
 |int (k:IntKind)
 |bool
 |str
def d0u:CK->Value->Prop
 | .int k,v=>∃n,v= .int k n/\(Lit.int k n).wf=true
 | .bool,v=>∃b,v= .bool b
 | .str,v=>∃s,v= .string s/\s.size<=maxLen
def AllOk:List CK->List Value->Prop
 | [],vs=>vs= []
 |c::cs,vs=>∃v r,vs=v::r/\d0u c v/\AllOk cs r
theorem AllOk.length:∀(ks:List CK) (vs:List Value),AllOk ks vs->vs.length=ks.length
 | [],vs,h=>by simp only [AllOk] at h;simp [h]
 |c::cs,vs,h=>by simp only [AllOk] at h;obtain ⟨v,r,rfl,_,h⟩:=h;simp [AllOk.length cs r h]
theorem AllOk.append:∀(a b:List CK) (vs:List Value),AllOk a (vs.take a.length)->AllOk b (vs.drop a.length)->AllOk (a++b) vs
 | [],b,vs,_,h=>by simpa using h
 |c::a,b,vs,h1,h2=>by
  cases vs with
  |nil=>simp only [s0a,List.take_nil,AllOk] at h1;obtain ⟨v,r,e,_⟩:=h1;cases e
  |cons v vs=>
   simp only [s0a,List.take_succ_cons,AllOk] at h1;obtain ⟨v',r,e,hc,hr⟩:=h1;simp only [List.cons.injEq] at e;obtain ⟨rfl,rfl⟩:=e;simp only [p0Y,AllOk];exact ⟨v,vs,rfl,hc,AllOk.append a b vs hr (by simpa using h2)⟩
mutual
def g0r (P:Program):Nat->TypeId->Option (List CK)
 |0,_=>none
 |n+1,t=>match P.underlying t with
  |some .bool=>some [.bool]
  |some (.int k)=>some [.int k]
  |some .string=>some [.str]
  |some (.struct fs)=>match e0p P n 0 fs.toList with
   |some ks=>bif Nat.beq (P.cellsOf t) ks.length then some ks else none
   |none=>none
  |_=>none
def e0p (P:Program):Nat->Nat->List Field->Option (List CK)
 |0,_,_=>none
 |_+1,_,[]=>some []
 |n+1,o,f::r=>bif Nat.beq f.offset o then (match g0r P n f.type with
  |some a=>bif Nat.beq (P.cellsOf f.type) a.length then (match e0p P n (o+a.length) r with|some b=>some (a++b)|none=>none) else none
  |none=>none) else none
end
section
variable {H:Type} {enc:TypeId×Value->H} {P:Program} {w:World} {base:Nat} {spare:Nat->Bool} {held:Bool}
theorem h0Y:∀m:Nat,(∀(t:TypeId) (ks:List CK) (fuel:Nat) (cs:List Value) (x:DataW H×List MemPlace),g0r P m t=some ks->DataW.trod enc P w base spare held fuel t cs=some x->AllOk ks cs)/\
  (∀(o:Nat) (fs:List Field) (ks:List CK) (cs:List Value) (n:Nat),e0p P m o fs=some ks->cs.length=o+ks.length->(∀f∈fs,∃y,DataW.trod enc P w base spare held n f.type ((cs.drop f.offset).take (P.cellsOf f.type))=some y)->AllOk ks (cs.drop o)):=by
 intro m;induction m with
 |zero=>exact ⟨fun t ks fuel cs x h=>by simp [g0r] at h,fun o fs ks cs n h=>by simp [e0p] at h⟩
 |succ m ih=>
  refine ⟨?_,?_⟩
  .intro t ks fuel cs x h ht;simp only [g0r] at h;split at h
   .rename_i hu;simp only [Option.some.injEq] at h;subst h;obtain ⟨b,rfl,_⟩:=DataW.trod_bool hu ht;simp only [AllOk,d0u];exact ⟨_,_,rfl,⟨b,rfl⟩,rfl⟩
   .rename_i k hu;simp only [Option.some.injEq] at h;subst h;obtain ⟨n,rfl,_,hw⟩:=DataW.trod_int hu ht;simp only [AllOk,d0u];exact ⟨_,_,rfl,⟨n,rfl,hw⟩,rfl⟩
   .rename_i hu;simp only [Option.some.injEq] at h;subst h;obtain ⟨s,rfl,_,hw⟩:=DataW.trod_string hu ht;simp only [AllOk,d0u];exact ⟨_,_,rfl,⟨s,rfl,hw⟩,rfl⟩
   .rename_i fs hu;split at h
    .rename_i ks' hks;cases hb:Nat.beq (P.cellsOf t) ks'.length with
     |false=>rw [hb] at h;simp at h
     |true=>
      rw [hb] at h;simp only [cond_true,Option.some.injEq] at h;subst h;obtain ⟨xs,n,_,_,hlen,hxl,hf⟩:=DataW.trod_struct hu ht;have:=ih.2 0 fs.toList ks' cs n hks (by rw [hlen,d0I hb];simp) (by
       intro f hf';obtain ⟨i,hi,rfl⟩:=y0h hf';have hi':i<fs.size:=by simpa using hi
       have h1:=hf i fs[i] (by simp [hi']);have h2:xs[i]? =some (xs[i]'(by omega)):=f0N (by omega);refine ⟨xs[i]'(by omega),?_⟩;have:fs.toList[i]=fs[i]:=by simp
       rw [this,h1,h2])
      simpa using this
    .cases h
   .cases h
  .intro o fs ks cs n h hlen hall;cases fs with
   |nil=>
    simp only [e0p,Option.some.injEq] at h;subst h;simp only [AllOk];exact List.drop_eq_nil_of_le (by simp at hlen;omega)
   |cons f r=>
    simp only [e0p] at h;cases ho:Nat.beq f.offset o with
    |false=>rw [ho] at h;simp at h
    |true=>
     rw [ho] at h;simp only [cond_true] at h;split at h
     .rename_i a ha;cases hb:Nat.beq (P.cellsOf f.type) a.length with
      |false=>rw [hb] at h;simp at h
      |true=>
       rw [hb] at h;simp only [cond_true] at h;split at h
       .rename_i b hbb;simp only [Option.some.injEq] at h;subst h;have eo:=d0I ho;have ea:=d0I hb;obtain ⟨y,hy⟩:=hall f (by simp);have h1:=ih.1 f.type a n _ y ha hy;rw [eo,ea] at h1;refine AllOk.append a b (cs.drop o) h1 ?_;rw [z0y];exact ih.2 (o+a.length) r b cs n hbb (by simp at hlen;omega) (fun f' hf'=>hall f' (by simp [hf']))
       .cases h
     .cases h
theorem h0N {m:Nat} {t:TypeId} {ks:List CK} {fuel:Nat} {cs:List Value} {x:DataW H×List MemPlace} (h:g0r P m t=some ks) (ht:DataW.trod enc P w base spare held fuel t cs=some x):AllOk ks cs:=(h0Y m).1 t ks fuel cs x h ht
def t0P:Value->Int| .int _ n=>n|_=>0
def t0Q:Value->ByteArray| .string s=>s|_=>⟨#[]⟩
def r0e:Value->Bool| .bool b=>b|_=>false
def x0z:CK->Col->Nat->Prop
 | .int k,c,n=>∃l,c= .ints k l/\l.length=n/\∀x∈l,(Lit.int k x).wf=true
 | .bool,c,n=>∃l,c= .bools l/\l.length=n
 | .str,c,n=>∃l,c= .strs l/\l.length=n/\∀x∈l,x.size<=maxLen
def d0e:List CK->List Col->Nat->Prop
 | [],l,_=>l= []
 |c::cs,l,n=>∃x r,l=x::r/\x0z c x n/\d0e cs r n
def i0Q (n:Nat) (v:Nat->Value):CK->Col
 | .int k=> .ints k ((List.range n).map fun i=>t0P (v i))
 | .bool=> .bools ((List.range n).map fun i=>r0e (v i))
 | .str=> .strs ((List.range n).map fun i=>t0Q (v i))
def a0V (n:Nat) (v:Nat->Nat->Value):Nat->List CK->List Col
 |_,[]=> []
 |j,c::cs=>i0Q n (fun i=>v i j) c::a0V n v (j+1) cs
theorem c0T {α:Type} (n:Nat) (f:Nat->α) (d:α) (i:Nat) (h:i<n):((List.range n).map f).getD i d=f i:=by
 simp [List.getD,h]
theorem l0D {n:Nat} {v:Nat->Value} {c:CK} {g:G} {i:Nat} (hi:i<n) (h:d0u c (v i)):Rv g ((i0Q n v c).at i) (v i):=by
 cases c with
 |int k=>obtain ⟨m,e,_⟩:=h;simp only [i0Q,Col.at,c0T n _ _ i hi,e,t0P,Rv]
 |bool=>obtain ⟨b,e⟩:=h;simp only [i0Q,Col.at,c0T n _ _ i hi,e,r0e,Rv]
 |str=>obtain ⟨s,e,_⟩:=h;simp only [i0Q,Col.at,c0T n _ _ i hi,e,t0Q,Rv]
theorem e0I (n:Nat) (v:Nat->Nat->Value):∀(cs:List CK) (j k:Nat),nth (a0V n v j cs) k=(nth cs k).map (fun c=>i0Q n (fun i=>v i (j+k)) c)
 | [],j,k=>by simp [a0V,nth]
 |c::cs,j,0=>by simp [a0V,nth]
 |c::cs,j,k+1=>by
  simp only [a0V,nth];rw [e0I n v cs (j+1) k,show j+1+k=j+(k+1) from by omega]
theorem e0d (n:Nat) (v:Nat->Nat->Value):∀(cs:List CK) (j:Nat),(∀i,i<n->∀k c,nth cs k=some c->d0u c (v i (j+k)))->d0e cs (a0V n v j cs) n
 | [],j,_=>by simp [a0V,d0e]
 |c::cs,j,h=>by
  simp only [a0V,d0e];refine ⟨_,_,rfl,?_,e0d n v cs (j+1) (fun i hi k c' hc=>by rw [show j+1+k=j+(k+1) from by omega];exact h i hi (k+1) c' hc)⟩;have h0:∀i,i<n->d0u c (v i j):=fun i hi=>h i hi 0 c rfl
  cases c with
  |int k=>
   refine ⟨_,rfl,by simp,?_⟩;intro x hx;simp only [x0M,w0s] at hx;obtain ⟨i,hi,rfl⟩:=hx;obtain ⟨m,e,hw⟩:=h0 i hi;rw [e];exact hw
  |bool=>exact ⟨_,rfl,by simp⟩
  |str=>
   refine ⟨_,rfl,by simp,?_⟩;intro x hx;simp only [x0M,w0s] at hx;obtain ⟨i,hi,rfl⟩:=hx;obtain ⟨m,e,hw⟩:=h0 i hi;rw [e];exact hw
theorem AllOk.nth:∀(ks:List CK) (vs:List Value) (j:Nat) (c:CK),AllOk ks vs->Sy.nth ks j=some c->∃v,vs[j]? =some v/\d0u c v
 | [],vs,j,c,_,h=>by simp [Sy.nth] at h
 |k::ks,vs,j,c,h,hj=>by
  simp only [AllOk] at h;obtain ⟨v,r,rfl,h1,h2⟩:=h;cases j with
  |zero=>simp [Sy.nth] at hj;subst hj;exact ⟨v,by simp,h1⟩
  |succ j=>simp only [Sy.nth] at hj;obtain ⟨u,h3,h4⟩:=AllOk.nth ks r j c h2 hj;exact ⟨u,by simpa using h3,h4⟩
theorem i0R {c:CK} {v:Value} (h:d0u c v):v.oneCell'=true:=by
 cases c with
 |int k=>obtain ⟨n,rfl,_⟩:=h;rfl
 |bool=>obtain ⟨b,rfl⟩:=h;rfl
 |str=>obtain ⟨b,rfl,_⟩:=h;rfl
theorem e0e:∀(ks:List CK) (cols:List Col) (n:Nat),d0e ks cols n->cols.length=ks.length/\∀c∈cols,c.len=n
 | [],cols,n,h=>by simp only [d0e] at h;subst h;simp
 |k::ks,cols,n,h=>by
  simp only [d0e] at h;obtain ⟨x,r,rfl,h1,h2⟩:=h;obtain ⟨i1,i2⟩:=e0e ks r n h2;refine ⟨by simp [i1],?_⟩;intro c hc;rcases j0x.1 hc with rfl|hc
  .cases k with
   |int k=>obtain ⟨l,rfl,e,_⟩:=h1;exact e
   |bool=>obtain ⟨l,rfl,e⟩:=h1;exact e
   |str=>obtain ⟨l,rfl,e,_⟩:=h1;exact e
  .exact i2 c hc
theorem s0P {t e:TypeId} {m fuel:Nat} {v:Value} {ks:List CK} {x:DataW H×List MemPlace} (ht:P.underlying t=some (.slice e)) (hk:g0r P m e=some ks) (hlen:P.cellsOf e=ks.length) (h0:0<ks.length)
  (h:DataW.trod enc P w base (fun _=>true) held fuel t [v]=some x):
  ∃(n:Nat) (β:Base) (cols:List Col),n<=maxLen/\d0e ks cols n/\(∀(g:G) (h:Nat),g h 0=some β->Rv g (.sl h 0 0 n) v)/\(∀g:G,BlkAt g β true (.cols n (a0W cols)) w):=by
 have dead:∀a,v= .slice a 0 0->∃(n:Nat) (β:Base) (cols:List Col),n<=maxLen/\d0e ks cols n/\(∀(g:G) (h:Nat),g h 0=some β->Rv g (.sl h 0 0 n) v)/\(∀g:G,BlkAt g β true (.cols n (a0W cols)) w):=by
  intro a hv;have hok:d0e ks (a0V 0 (fun _ _=>undef) 0 ks) 0:=e0d _ _ _ _ (fun i hi=>absurd hi (x0I _));obtain ⟨l1,l2⟩:=e0e _ _ _ hok;refine ⟨0,⟨0,0,ks.length,0⟩,a0V 0 (fun _ _=>undef) 0 ks,p0V _,hok,?_,?_⟩
  .intro g h _;subst hv;simp only [Rv];exact ⟨a,0,rfl,h0Z _,.inl rfl⟩
  .intro g;refine ⟨fun h=>by simp at h,by simp [Blk.es,(c0A _).1,l1],?_,fun i hi=>by simp only [Blk.has] at hi;omega,fun i j sv hi=>by simp only [Blk.has] at hi;omega,fun i j v hi=>by simp only [Blk.has] at hi;omega,(fun h=>by cases h),trivial⟩;intro c hc;obtain ⟨j,hj⟩:=b0Y hc;rw [(c0A _).2 j] at hj;cases hn:nth (a0V 0 (fun _ _=>undef) 0 ks) j with
   |none=>rw [hn] at hj;cases hj
   |some y=>rw [hn] at hj;cases hj;exact l2 y (a0Z hn)
 rcases open_slice ht h with ⟨hv,_⟩|⟨a,len,cap,mm,nn,D,Pl,hv,_,hl,hm,hmm,hx,hi⟩
 .simp only [List.cons.injEq,and_true] at hv;exact dead none hv
 .simp only [List.cons.injEq,and_true] at hv;simp only [if_true] at hmm;subst hmm;have cell:∀i,i<mm->∀j c,nth ks j=some c->∃u,w.cell? (a.add (i*ks.length+j))=some u/\d0u c u:=by
   intro i him j c hj;obtain ⟨cs',hc,ht'⟩:=hi i him;have hall:=h0N hk ht';obtain ⟨u,hu,hok⟩:=AllOk.nth ks cs' j c hall hj;rw [hlen] at hc;obtain ⟨_,hcl,hat⟩:=World.cells?_some hc;have hjl:=b0D hj;refine ⟨u,?_,hok⟩;rw [<-Go.Deep.add_add,hat j hjl];exact hu
  by_cases hz:mm=0
  .subst hz;have hl0:len=0:=by omega
   subst hl0;exact dead (some a) hv
  .subst hv;obtain ⟨c0,hc0⟩:∃c0,nth ks 0=some c0:=by
    cases ks with
    |nil=>simp at h0
    |cons c r=>exact ⟨c,rfl⟩
   obtain ⟨u0,hu0,_⟩:=cell 0 (by omega) 0 c0 hc0;simp only [Nat.zero_mul,s0d] at hu0;have ha0:a.add 0=a:=by simp [Addr.add]
   rw [ha0] at hu0;have hspot:a.spot=none:=by
    unfold World.cell? at hu0;split at hu0
    .split at hu0
     .cases hu0
     .rename_i hs;simpa using hs
    .cases hu0
   have hblk:a.block<w.heap.size:=by
    unfold World.cell? at hu0;split at hu0
    .rename_i hh;exact (r0V.1 hh).1
    .cases hu0
   let β:Base:=⟨a.block,a.off,ks.length,mm⟩
   have haddr:∀i j,a.add (i*ks.length+j)=β.addr i j:=by
    intro i j;obtain ⟨b,o,s⟩:=a;simp only at hspot;subst hspot;unfold Addr.add Base.addr;split
    .rename_i h;simp only [β];congr 1;omega
    .simp only [β];congr 1;omega
   let val:Nat->Nat->Value:=fun i j=>(w.cell? (β.addr i j)).getD undef
   have hcols:d0e ks (a0V len val 0 ks) len:=by
    refine e0d len val ks 0 (fun i hi' k c hc=> ?_);obtain ⟨u,hu,hok⟩:=cell i (by omega) k c hc;rw [haddr] at hu;simp only [val,p0Z,hu,t0O];exact hok
   obtain ⟨l1,l2⟩:=e0e _ _ _ hcols;obtain ⟨u1,u2⟩:=c0A (a0V len val 0 ks);refine ⟨len,β,a0V len val 0 ks,w0q hl hm,hcols,?_,?_⟩
   .intro g h hg;simp only [Rv];refine ⟨some a,mm,rfl,hl,.inr ⟨β,hg,?_,by simp [β]⟩⟩;have:=haddr 0 0;simp only [Nat.zero_mul,s0d,ha0] at this;rw [this]
   .intro g;refine ⟨fun _=>hblk,by simp [Blk.es,u1,l1,β],?_,fun i hi=>by simp only [Blk.has] at hi;simp only [β];omega,?_,?_,(fun h=>by cases h),trivial⟩
    .intro c hc;obtain ⟨j,hj⟩:=b0Y hc;rw [u2 j] at hj;cases hn:nth (a0V len val 0 ks) j with
     |none=>rw [hn] at hj;cases hj
     |some y=>rw [hn] at hj;cases hj;exact l2 y (a0Z hn)
    .intro i j sv hi' hj;simp only [Blk.has] at hi';simp only [Blk.at,u2 j,e0I] at hj;cases hc:nth ks j with
     |none=>rw [hc] at hj;simp at hj
     |some c=>
      rw [hc] at hj;simp only [l0C,Option.some.injEq,p0Z] at hj;subst hj;obtain ⟨u,hu,hok⟩:=cell i (by omega) j c hc;rw [haddr] at hu;have hval:val i j=u:=by simp only [val,hu,t0O]
      refine ⟨u,hu,?_⟩;rw [<-hval];exact l0D (v:=fun i=>val i j) hi' (by rw [hval];exact hok)
    .intro i j v' hi' hj hv';simp only [Blk.has] at hi';obtain ⟨c,hc⟩:∃c,nth ks j=some c:=⟨ks[j],by rw [a0R];exact f0N hj⟩;obtain ⟨u,hu,hok⟩:=cell i (by omega) j c hc;rw [haddr,hv'] at hu;cases hu;exact i0R hok
theorem s0Q {g:G} {w:World}:∀(Hp:a0g),(∀p∈Hp,∃b β,p.2=some (.one true b)/\g p.1 0=some β/\BlkAt g β true b w)->Holds g Hp w/\∀h q ro b,Ent Hp h q ro b->ro=true:=by
 intro Hp hall;have key:∀h q ro b,Ent Hp h q ro b->ro=true/\∃β,g h q=some β/\BlkAt g β ro b w:=by
  intro h q ro b he;obtain ⟨hb,m1,m2⟩:=f0I Hp h q ro b he;have:∀(L:a0g),(∀p∈L,∃b β,p.2=some (.one true b)/\g p.1 0=some β/\BlkAt g β true b w)->Ent L h q ro b->ro=true/\∃β,g h q=some β/\BlkAt g β ro b w:=by
   intro L;induction L with
   |nil=>intro _ he;obtain ⟨hb,e,_⟩:=he;simp [a0t] at e
   |cons p L ih=>
    intro hL he;obtain ⟨k,o⟩:=p;rcases a0v.1 he with ⟨rfl,hb',e1,e2,e3⟩|⟨_,he⟩
    .obtain ⟨b',β,f1,f2,f3⟩:=hL (k,o) (by simp);simp only at f1 f2;rw [f1] at e1;cases e1;simp only [HB.is] at e2;obtain ⟨rfl,rfl⟩:=e2;simp only [HB.ro] at e3;subst e3;exact ⟨rfl,β,f2,f3⟩
    .exact ih (fun p hp=>hL p (by simp [hp])) he
  exact this Hp hall he
 refine ⟨⟨fun h q ro b he=>(key h q ro b he).2,?_⟩,fun h q ro b he=>(key h q ro b he).1⟩;intro h q h' q' b ro' b' β β' _ he;have:=(key h q false b he).1;cases this
end
end Go.Sy
namespace Go.Sy
open Go.RowKit Go.ChangeShapes Go.WideShapes Go.Deep
mutual
def v0v {H:Type}:DataW H->Option (List Value)
 | .lit l=>some [l.value]
 | .agg ds=>r0f ds
 |_=>none
def r0f {H:Type}:List (DataW H)->Option (List Value)
 | []=>some []
 |d::ds=>match v0v d,r0f ds with
  |some a,some b=>some (a++b)
  |_,_=>none
end
section
variable {H:Type} {enc:TypeId×Value->H} {P:Program} {w:World} {base:Nat} {spare:Nat->Bool} {held:Bool}
theorem m0H (s:ByteArray):(⟨s.data.toList.toArray⟩:ByteArray)=s:=by cases s;simp
theorem k0a:∀m:Nat,(∀(t:TypeId) (ks:List CK) (fuel:Nat) (cs:List Value) (x:DataW H×List MemPlace),g0r P m t=some ks->DataW.trod enc P w base spare held fuel t cs=some x->v0v x.1=some cs)/\
  (∀(o:Nat) (fs:List Field) (ks:List CK) (cs:List Value) (n:Nat) (xs:List (DataW H×List MemPlace)),e0p P m o fs=some ks->cs.length=o+ks.length->xs.length=fs.length->(∀(i:Nat) f,fs[i]? =some f->DataW.trod enc P w base spare held n f.type ((cs.drop f.offset).take (P.cellsOf f.type))=xs[i]?)->r0f (xs.map (·.1))=some (cs.drop o)):=by
 intro m;induction m with
 |zero=>exact ⟨fun t ks fuel cs x h=>by simp [g0r] at h,fun o fs ks cs n xs h=>by simp [e0p] at h⟩
 |succ m ih=>
  refine ⟨?_,?_⟩
  .intro t ks fuel cs x h ht;simp only [g0r] at h;split at h
   .rename_i hu;obtain ⟨b,rfl,rfl⟩:=DataW.trod_bool hu ht;rfl
   .rename_i k hu;obtain ⟨n,rfl,rfl,hw⟩:=DataW.trod_int hu ht;rfl
   .rename_i hu;obtain ⟨s,rfl,rfl,hw⟩:=DataW.trod_string hu ht;simp only [v0v,Lit.value,m0H]
   .rename_i fs hu;split at h
    .rename_i ks' hks;cases hb:Nat.beq (P.cellsOf t) ks'.length with
     |false=>rw [hb] at h;simp at h
     |true=>
      rw [hb] at h;simp only [cond_true,Option.some.injEq] at h;subst h;obtain ⟨xs,n,_,rfl,hlen,hxl,hf⟩:=DataW.trod_struct hu ht;have:=ih.2 0 fs.toList ks' cs n xs hks (by rw [hlen,d0I hb];simp) (by simpa using hxl) (by
       intro i f hf';exact hf i f (by simpa using hf'))
      simpa [v0v] using this
    .cases h
   .cases h
  .intro o fs ks cs n xs h hlen hxl hall;cases fs with
   |nil=>
    simp only [e0p,Option.some.injEq] at h;subst h;cases xs with
    |nil=>
     simp only [z0w,r0f,Option.some.injEq];exact (List.drop_eq_nil_of_le (by simp at hlen;omega)).symm
    |cons x xs=>simp at hxl
   |cons f r=>
    cases xs with
    |nil=>simp at hxl
    |cons x xs=>
     simp only [e0p] at h;cases ho:Nat.beq f.offset o with
     |false=>rw [ho] at h;simp at h
     |true=>
      rw [ho] at h;simp only [cond_true] at h;split at h
      .rename_i a ha;cases hb:Nat.beq (P.cellsOf f.type) a.length with
       |false=>rw [hb] at h;simp at h
       |true=>
        rw [hb] at h;simp only [cond_true] at h;split at h
        .rename_i b hbb;simp only [Option.some.injEq] at h;subst h;have eo:=d0I ho;have ea:=d0I hb;have h0:=hall 0 f rfl;simp only [z0h] at h0;have h1:=ih.1 f.type a n _ x ha h0;have h2:=ih.2 (o+a.length) r b cs n xs hbb (by simp at hlen;omega) (by simpa using hxl) (fun i f' hf'=>by
          have:=hall (i+1) f' (by simpa using hf');simpa using this)
         simp only [u0z,r0f,h1,h2,Option.some.injEq,eo,ea];rw [<-z0y,List.take_append_drop]
        .cases h
      .cases h
theorem s0R {m:Nat} {t:TypeId} {ks:List CK} {fuel:Nat} {cs:List Value} {x:DataW H×List MemPlace} (h:g0r P m t=some ks) (ht:DataW.trod enc P w base spare held fuel t cs=some x):v0v x.1=some cs:=(k0a m).1 t ks fuel cs x h ht
theorem l0E {β:Base} {n:Nat} {ks:List CK} {val:Nat->Nat->Value} (hes:β.es=ks.length) (hcap:n<=β.cap) (hlt:0<β.cap->β.blk<w.heap.size) (cell:∀i,i<n->∀j c,nth ks j=some c->w.cell? (β.addr i j)=some (val i j)/\d0u c (val i j)) (g:G):
  BlkAt g β true (.cols n (a0W (a0V n val 0 ks))) w:=by
 have hcols:d0e ks (a0V n val 0 ks) n:=by
  refine e0d n val ks 0 (fun i hi' k c hc=> ?_);rw [p0Z];exact (cell i hi' k c hc).2
 obtain ⟨l1,l2⟩:=e0e _ _ _ hcols;obtain ⟨u1,u2⟩:=c0A (a0V n val 0 ks);refine ⟨hlt,by simp [Blk.es,u1,l1,hes],?_,fun i hi=>by simp only [Blk.has] at hi;omega,?_,?_,(fun h=>by cases h),trivial⟩
 .intro c hc;obtain ⟨j,hj⟩:=b0Y hc;rw [u2 j] at hj;cases hn:nth (a0V n val 0 ks) j with
  |none=>rw [hn] at hj;cases hj
  |some y=>rw [hn] at hj;cases hj;exact l2 y (a0Z hn)
 .intro i j sv hi' hj;simp only [Blk.has] at hi';simp only [Blk.at,u2 j,e0I] at hj;cases hc:nth ks j with
  |none=>rw [hc] at hj;simp at hj
  |some c=>
   rw [hc] at hj;simp only [l0C,Option.some.injEq,p0Z] at hj;subst hj;obtain ⟨hu,hok⟩:=cell i hi' j c hc;exact ⟨_,hu,l0D (v:=fun i=>val i j) hi' hok⟩
 .intro i j v' hi' hj hv';simp only [Blk.has] at hi';obtain ⟨c,hc⟩:∃c,nth ks j=some c:=⟨ks[j]'(by omega),by rw [a0R];exact f0N (by omega)⟩;obtain ⟨hu,hok⟩:=cell i hi' j c hc;rw [hv'] at hu;cases hu;exact i0R hok
def v0w {H:Type} (ds:List (DataW H)) (i j:Nat):Value:=(((ds[i]?).bind v0v).getD []).getD j undef
theorem c0u {nm:String} {v:Nat} {t e:TypeId} {m fuel n:Nat} {cs:Array Value} {ks:List CK} {ds:List (DataW H)} {p:List MemPlace} {cols:List Col} (hg:P.globalNamed nm=some v) (hv:w.var? P nm=some cs)
  (ht:P.underlying t=some (.array n e)) (hk:g0r P m e=some ks) (hlen:P.cellsOf e=ks.length) (hs:P.cellsOf t=n*ks.length) (h0:0<n*ks.length)
  (h:DataW.trod enc P w base spare held fuel t cs.toList=some (.agg ds,p)) (hc:a0V n (v0w ds) 0 ks=cols) (g:G):BlkAt g ⟨v,0,ks.length,n⟩ true (.cols n (a0W cols)) w:=by
 obtain ⟨xs,m1,_,hx,hl,hxl,hel⟩:=DataW.trod_array ht h;simp only [Prod.mk.injEq,DataW.agg.injEq] at hx;have hcl:cs.size=n*ks.length:=by simpa [hs] using hl
 have hcell:=World.var?_cell (w:=w) hg hv;have hblk:v<w.heap.size:=by
  have:=hcell 0;rw [h0p (by omega)] at this;unfold World.cell? at this;split at this
  .rename_i hh;exact (r0V.1 hh).1
  .cases this
 have key:∀i,i<n->∃y,xs[i]? =some y/\v0v y.1=some ((cs.toList.drop (i*ks.length)).take ks.length)/\AllOk ks ((cs.toList.drop (i*ks.length)).take ks.length):=by
  intro i hi;have h1:=hel i hi;have h2:xs[i]? =some (xs[i]'(by omega)):=f0N (by omega);rw [h2,hlen] at h1;exact ⟨_,h2,s0R hk h1,h0N hk h1⟩
 subst hc;refine l0E rfl (h0Z _) (fun _=>hblk) ?_ g;intro i hi j c hj;obtain ⟨y,e1,e2,e3⟩:=key i hi;obtain ⟨u,hu,hok⟩:=AllOk.nth ks _ j c e3 hj;have hjl:=b0D hj;have hd:v0w ds i j=u:=by
  unfold v0w;rw [hx.1,m0i,e1];simp only [l0C,Option.bind_some,e2,t0O,List.getD,hu]
 rw [hd];refine ⟨?_,hok⟩;have:Base.addr ⟨v,0,ks.length,n⟩ i j=⟨v,i*ks.length+j,none⟩:=by simp [Base.addr]
 rw [this,hcell];rw [w0p,if_pos hjl,z0A] at hu;simpa using hu
theorem s0S {g:G} {Hp:a0g} {l:n0q} (hl:∀q,(a0B l q).isSome=true->∃β,g 0 q=some β/\BlkAt g β true (u0s l q) w) (hall:∀p∈Hp,p.1≠0/\∃b β,p.2=some (.one true b)/\g p.1 0=some β/\BlkAt g β true b w):
  Holds g ((0,some (GB l))::Hp) w/\∀h q ro b,Ent ((0,some (GB l))::Hp) h q ro b->ro=true:=by
 obtain ⟨h1,h2⟩:=s0Q (g:=g) (w:=w) Hp (fun p hp=>(hall p hp).2);have ro:∀h q ro b,Ent ((0,some (GB l))::Hp) h q ro b->ro=true:=by
  intro h q ro b he;rcases a0v.1 he with ⟨rfl,hb,e1,e2,e3⟩|⟨_,he⟩
  .cases e1;exact e3.symm
  .exact h2 h q ro b he
 refine ⟨⟨?_,?_⟩,ro⟩
 .intro h q r b he;rcases a0v.1 he with ⟨rfl,hb,e1,e2,e3⟩|⟨_,he⟩
  .cases e1;obtain ⟨d,rfl⟩:=e2;simp only [GB,HB.ro] at e3;subst e3;exact hl q d
  .exact h1.blk h q r b he
 .intro h q h' q' b ro' b' β β' _ he;have:=ro h q false b he;cases this
end
end Go.Sy
