/- Several texts in one: YCalls YPlain YNil YArg YBag YMem YGrp YFam YOwn YSort YKeys YIdx YLaw YLaid YRen YGath YSrc YMeth YJoin YSize. -/
import Derived.Test.YtpkaeknigknbgaaGreatDoorP2
import Derived.Sort.KeysCollected
import Derived.Sort.Grow
import Derived.Shelf.SlIter.Nil
import Derived.Shelf.SortM.Plain
import Derived.Shelf.SortM.SortNone
import Derived.Deep.Slices
import Derived.OpenShut
import Derived.ChangeOld
import Derived.ChangeBears2
import Derived.MakeChecks
import Derived.LaidLaws
import Derived.Shelf.Strings.OnBuilder
import Derived.SizedLaws
set_option linter.unusedVariables false
set_option linter.unusedSimpArgs false
namespace Go.Sy
abbrev h1E:=@Nat.not_lt_zero
abbrev h1O:=@Nat.le_succ
abbrev h1l:=@List.not_mem_nil
abbrev h1s:=@List.ext_getElem?
abbrev h1t:=@List.nodup_cons
abbrev h1x:=@List.mem_iff_getElem
abbrev i1M:=@Nat.add_sub_cancel_left
abbrev i1X:=@List.mem_cons_of_mem
abbrev i1j:=@List.eq_nil_of_length_eq_zero
abbrev i1o:=@List.take_append_drop
abbrev i1v:=@List.perm_ext_iff_of_nodup
abbrev j1A:=@List.Perm.eq_of_pairwise
abbrev j1D:=@List.pairwise_mergeSort
abbrev j1R:=@List.map_map
abbrev j1a:=@List.mergeSort_perm
end Go.Sy
namespace Go.Sy
open Go.RowKit
theorem f0t {P:Program} {f:FuncId} {fn:Func} (h:P.funcs[f]? =some fn) (hb:fn.body.isSome=true) (hn:(fn.name=="runtime.NumGoroutine")=false):d0M P f:=by
 obtain ⟨c,hc⟩:=h1j.1 hb;exact ⟨fn,c,h,hc,hn⟩
theorem m0B {P:Program} {f:FuncId} {args:List SV} {vals:List Value} {r:SV} {v:Value} (hbd:d0M P f) (hv:∀g vs,Rvs g args vs->vs=vals) (hr:∀g,Rv g r v) (hc:∀w,Calls P f vals.toArray w (fun e w'=>e= .returned v/\Below w.heap.size w w')):a0V P f args r:=by
 refine Or.inl ⟨hbd,fun g w vs hg hu hH hvs=> ?_⟩;rw [hv g vs hvs];refine (hc w).mono ?_;rintro e w' ⟨rfl,hb⟩;refine ⟨v,rfl,r,[],1,g,⟨rfl,rfl,rfl⟩,m0D _,hu,fun _ _ _=>rfl,hr g,⟨?_,?_⟩,a0b,⟨hb.os,hb.tape,hb.output,hb.size,fun k hk _=>hb.block k hk⟩,?_⟩
 .intro h q ro b he;obtain ⟨hb,e,_⟩:=he;simp [a0s] at e
 .intro h q h' q' b ro' b' β β' _ he;obtain ⟨hb,e,_⟩:=he;simp [a0s] at e
 .intro h q b β he;obtain ⟨hb,e,_⟩:=he;simp [a0s] at e
end Go.Sy
namespace Go.Sy
open Go.RowKit
theorem e0O {P:Program} {f:FuncId} {fn:Func} (h:P.funcs[f]? =some fn) (hb:fn.body.isSome=true) (hn:(fn.name=="runtime.NumGoroutine")=false):d0M P f:=by
 obtain ⟨c,hc⟩:=h1j.1 hb;exact ⟨fn,c,h,hc,hn⟩
theorem e0P:∀(n:Nat) (sn:List Nat),sn.Nodup->(∀i∈sn,i<n)->sn.length<=n
 |0,sn,_,h=>by cases sn with|nil=>simp|cons x r=>exact absurd (h x (by simp)) (by omega)
 |n+1,sn,hd,h=>by
  by_cases hm:n∈sn
  .have:=e0P n (sn.erase n) (hd.erase n) (fun i hi=>by
    have h1:=h i (List.mem_of_mem_erase hi);have h2:i≠n:=fun e=>by subst e;exact (hd.not_mem_erase) hi
    omega)
   rw [List.length_erase_of_mem hm] at this;omega
  .have:=e0P n sn hd (fun i hi=>by
    have h1:=h i hi;have h2:i≠n:=fun e=>by subst e;exact hm hi
    omega)
   omega
theorem c0k {n i:Nat} {sn:List Nat} (hd:sn.Nodup) (h:∀i∈sn,i<n) (hi:i<n) (hn:¬i∈sn):sn.length<n:=by
 have:=e0P n (i::sn) (h1t.2 ⟨hn,hd⟩) (fun x hx=>by rcases v0e.1 hx with rfl|hx;exact hi;exact h x hx);simp only [y0x] at this;omega
theorem l0x {n:Nat} {sn:List Nat} (hd:sn.Nodup) (hl:∀i∈sn,i<n) (ha:∀i,i<n->i∈sn):sn.Perm (List.range n):=by
 refine (i1v hd List.nodup_range).2 fun i=> ?_
 rw [i1E];exact ⟨hl i,ha i⟩
theorem f0R {α:Type} (l:List α) (d:α):(List.range l.length).map (fun i=>l.getD i d)=l:=by
 refine i1p (by simp) ?_;intro i h1 h2;simp [List.getD,h2]
def g0e:Code->List Code
 | .seq a b=>g0e a++g0e b
 | .cond _ a b=>g0e a++g0e b
 | .block _ c=>g0e c
 | .loop c=>c::g0e c
 |_=> []
def lpc (f:Func) (k:Nat):Code:=match f.body with|some c=>(g0e c).getD k .skip|none=> .skip
def lpK {α:Type} (n0:Nat) (st:α->VS) (inv:α->Prop) (μ:α->Nat) (K:Exit->VS->Prop) (x:α):Exit->VS->Prop:=fun e v'=>match e with| .normal=>∃y l u,inv y/\μ y<μ x/\upK u v' (fun v=>Weak n0 l v (st y))|e=>K e v'
theorem a0O {α:Type} {n0:Nat} {body:VS->(Exit->VS->Prop)->Prop} {vs:VS} {K:Exit->VS->Prop} (st:α->VS) (inv:α->Prop) (μ:α->Nat) (x0:α) (l0:List Nat) (u0:List Up) (hw:upK u0 vs (fun v=>Weak n0 l0 v (st x0))) (hi:inv x0)
  (hr:∀x,inv x->body (st x) (lpK n0 st inv μ K x)):a0r n0 body vs K:=⟨α,st,inv,μ,x0,l0,u0,hw,hi,hr⟩
end Go.Sy
namespace Go.Sy
open Go.RowKit
theorem u0Z {g:G} {w w':World} {n:Nat} {H:a0h} {cs:List BCol} {v:Value} (hl:h0A cs=true) (h:Out g w n H (fun r H' n'=>a0f .nsl [] n r H' n'\/a0f (.sl n 0 0 0) [(n,some (.one false (.cols 0 cs)))] (n+1) r H' n') v w'):Out g w n H (a0f (.sl n 0 0 0) [(n,some (.one false (.cols 0 cs)))] (n+1)) v w':=by
 obtain ⟨sv,H',n',g',hp,hn,hu,hk,hv,hH,hrw,hfr,hown⟩:=h;rcases hp with ⟨rfl,rfl,rfl⟩|hp
 .have h0:∀q,g' n' q=none:=fun q=>hu n' q (m0D _)
  have ent:∀{h q:Nat} {ro:Bool} {b:Blk},Ent [(n',some (.one false (.cols 0 cs)))] h q ro b->h=n'/\q=0/\ro=false/\b= .cols 0 cs:=by
   rintro h q ro b ⟨hb,e,hi,hr⟩;simp only [a0s] at e;cases hc:Nat.beq n' h with
   |false=>rw [hc] at e;simp at e
   |true=>
    rw [hc] at e;simp only [cond_true,Option.some.injEq] at e;subst e;exact ⟨(j0J hc).symm,hi.1,hr.symm,hi.2⟩
  refine ⟨_,_,_,g'.add n' ⟨0,0,cs.length,0⟩,⟨rfl,rfl,rfl⟩,h1O _,?_,?_,?_,⟨?_,?_⟩,a0c a0b,hfr,?_⟩
  .intro h q hh;have e:h≠n':=by omega
   simp only [G.add];rw [if_neg (fun x=>e x.1)];exact hu h q (by omega)
  .intro h q hh;have e:h≠n':=by omega
   rw [<-hk h q hh];simp only [G.add];rw [if_neg (fun x=>e x.1)]
  .rw [u0y hv];simp only [Rv];exact ⟨none,0,rfl,m0D _,.inl rfl⟩
  .intro h q ro b he;obtain ⟨rfl,rfl,rfl,rfl⟩:=ent he;exact ⟨_,u0Y,fun h=>by simp at h,rfl,h0L cs hl,fun i hi=>by simp only [Blk.has] at hi;omega,fun i j sv hi=>by simp only [Blk.has] at hi;omega,fun i j v hi=>by simp only [Blk.has] at hi;omega,fun _ i j hi=>by simp at hi,trivial⟩
  .intro h q h2 q2 b ro2 b2 β β2 _ he _ hg _ hc;obtain ⟨rfl,rfl,_,_⟩:=ent he;rw [u0Y] at hg;cases hg;simp at hc
  .intro h q b β he hg hc;obtain ⟨rfl,rfl,_,_⟩:=ent he;rw [u0Y] at hg;cases hg;simp at hc
 .exact ⟨sv,H',n',g',hp,hn,hu,hk,hv,hH,hrw,hfr,hown⟩
theorem r0y {P:Program} {n:Nat} {f:FuncId} {args:List SV} {H:a0h} {cs:List BCol} (hl:h0A cs=true) (h:FC P n f args H (fun r H' n'=>a0f .nsl [] n r H' n'\/a0f (.sl n 0 0 0) [(n,some (.one false (.cols 0 cs)))] (n+1) r H' n')):FC P n f args H (a0f (.sl n 0 0 0) [(n,some (.one false (.cols 0 cs)))] (n+1)):=by
 rcases h with ⟨hb,h⟩|h
 .refine .inl ⟨hb,fun g w vals h1 h2 h3 h4=>(h g w vals h1 h2 h3 h4).mono ?_⟩;rintro e w' ⟨v,rfl,ho⟩;exact ⟨v,rfl,u0Z hl ho⟩
 .refine .inr (fun g w vals h1 h2 h3 h4=> ?_);obtain ⟨v,w',hr,ho⟩:=h g w vals h1 h2 h3 h4;exact ⟨v,w',hr,u0Z hl ho⟩
theorem d0R {n0:Nat} {p q:SV->a0h->Nat->Prop} {r:SV} {vs:VS} (h:∀a b c,p a b c->q a b c):a0R n0 p r vs->a0R n0 q r vs:=fun ⟨l,u,r0,H0,n1,a,b⟩=>⟨l,u,r0,H0,n1,a,h _ _ _ b⟩
end Go.Sy
namespace Go.Sy
open Go.RowKit
def m0C (n:Nat):List SV->List SV->Prop
 | [],[]=>True
 |a::l,b::m=>(b=a\/(a= .nsl/\b= .sl n 0 0 0))/\m0C n l m
 |_,_=>False
theorem h0M {g g1:G} {n:Nat} (hle:G.le g g1):∀(l m:List SV) (vs:List Value),m0C n l m->Rvs g l vs->Rvs g1 m vs
 | [],[],vs,_,h=>by simp only [Rvs] at h⊢;exact h
 |a::l,b::m,vs,hn,h=>by
  simp only [Rvs] at h⊢;obtain ⟨v,vs',rfl,h1,h2⟩:=h;refine ⟨v,vs',rfl,?_,h0M hle l m vs' hn.2 h2⟩;rcases hn.1 with rfl|⟨rfl,rfl⟩
  .exact (Rvs.mono hle [b] [v] (by simp only [Rvs];exact ⟨v,[],rfl,h1,rfl⟩))|>fun q=>by
    simp only [Rvs] at q;obtain ⟨v2,_,e,q2,_⟩:=q;obtain ⟨rfl,_⟩:=List.cons.inj e;exact q2
  .simp only [Rv] at h1⊢;exact ⟨none,0,h1,m0D _,.inl rfl⟩
 | [],_::_,_,hn,_=>hn.elim
 |_::_,[],_,hn,_=>hn.elim
theorem r0z {P:Program} {n:Nat} {f:FuncId} {args args1:List SV} {H:a0h} {cs:List BCol} {post:SV->a0h->Nat->Prop} (hl:h0A cs=true) (ha:∀{g g1:G},G.le g g1->∀vs,Rvs g args vs->Rvs g1 args1 vs) (h:FC P (n+1) f args1 ((n,some (.one true (.cols 0 cs)))::H) post):FC P n f args H post:=by
 have key:∀(g:G) (w:World) (vals:List Value),g.glob->g.upto n->Holds g H w->Rvs g args vals->
   ∃g1:G,g1.glob/\g1.upto (n+1)/\Holds g1 ((n,some (.one true (.cols 0 cs)))::H) w/\Rvs g1 args1 vals/\∀v w',Out g1 w (n+1) ((n,some (.one true (.cols 0 cs)))::H) post v w'->Out g w n H post v w':=by
  intro g w vals hg hu hH hv;have hle:G.le g (g.add n ⟨0,0,cs.length,0⟩):=G.le_add _ (hu n 0 (m0D _));have hns:∀h q ro b,Ent H h q ro b->h≠n:=by
   intro h q ro b he e;obtain ⟨β,hb,_⟩:=hH.blk _ _ _ _ he;rw [hu h q (by omega)] at hb;cases hb
  have hsame:∀h q,h≠n->(g.add n ⟨0,0,cs.length,0⟩) h q=g h q:=by
   intro h q hh;simp only [G.add];rw [if_neg (fun x=>hh x.1)]
  have hent:∀h q ro b,Ent ((n,some (.one true (.cols 0 cs)))::H) h q ro b->(n=h/\q=0/\ro=true/\b= .cols 0 cs)\/(h≠n/\Ent H h q ro b):=by
   intro h q ro b he;rcases a0t.1 he with ⟨e,hb,e1,e2,e3⟩|⟨e,he⟩
   .cases e1;simp only [HB.is] at e2;exact .inl ⟨e,e2.1,e3.symm,e2.2⟩
   .exact .inr ⟨fun x=>e x.symm,he⟩
  have hW:∀k,f0M (g.add n ⟨0,0,cs.length,0⟩) ((n,some (.one true (.cols 0 cs)))::H) k->f0M g H k:=by
   rintro k ⟨h,q,b,β,he,hb,hc,e⟩;rcases hent _ _ _ _ he with ⟨_,_,e2,_⟩|⟨hh,he⟩
   .cases e2
   .exact ⟨h,q,b,β,he,by rw [<-hsame h q hh];exact hb,hc,e⟩
  refine ⟨_,?_,?_,⟨?_,?_⟩,ha hle _ hv,?_⟩
  .intro q;obtain ⟨es,cap,e⟩:=hg q;exact ⟨es,cap,hle _ _ _ e⟩
  .intro h q hh;rw [hsame h q (by omega)];exact hu h q (by omega)
  .intro h q ro b he;rcases hent _ _ _ _ he with ⟨rfl,rfl,rfl,rfl⟩|⟨hh,he⟩
   .exact ⟨_,u0Y,fun h=>by simp at h,rfl,h0L cs hl,fun i hi=>by simp only [Blk.has] at hi;omega,fun i j sv hi=>by simp only [Blk.has] at hi;omega,fun i j v hi=>by simp only [Blk.has] at hi;omega,fun _ i j hi=>by simp at hi,trivial⟩
   .obtain ⟨β,hb,hB⟩:=hH.blk _ _ _ _ he;exact ⟨β,hle _ _ _ hb,b0k hB hle (m0D _) (fun _=>rfl)⟩
  .intro h q h2 q2 b ro2 b2 β β2 hne he he2 hb hb2 hc hc2;rcases hent _ _ _ _ he with ⟨_,_,e,_⟩|⟨hh,he⟩
   .cases e
   .rcases hent _ _ _ _ he2 with ⟨rfl,rfl,_,_⟩|⟨hh2,he2⟩
    .rw [u0Y] at hb2;cases hb2;simp at hc2
    .exact hH.sep h q h2 q2 b ro2 b2 β β2 hne he he2 (by rw [<-hsame h q hh];exact hb) (by rw [<-hsame h2 q2 hh2];exact hb2) hc hc2
  .rintro v w' ⟨sv,H',n',g',hp,hn,hu',hk,hv',hH',hrw,hfr,hown⟩;refine ⟨sv,H',n',g',hp,by omega,hu',fun h q hh=> ?_,hv',hH',hrw,?_,?_⟩
   .rw [hk h q (by omega),hsame h q (by omega)]
   .exact ⟨hfr.os,hfr.tape,hfr.output,hfr.size,fun k hk1 hk2=>hfr.block k hk1 (fun hq=>hk2 (hW k hq))⟩
   .intro h q b β he hb hc;rcases hown h q b β he hb hc with hh|hh
    .exact .inl (hW _ hh)
    .exact .inr hh
 rcases h with ⟨hb,h⟩|h
 .refine .inl ⟨hb,fun g w vals h1 h2 h3 h4=> ?_⟩;obtain ⟨g1,k1,k2,k3,k4,k5⟩:=key g w vals h1 h2 h3 h4;refine (h g1 w vals k1 k2 k3 k4).mono ?_;rintro e w' ⟨v,rfl,ho⟩;exact ⟨v,rfl,k5 v w' ho⟩
 .refine .inr (fun g w vals h1 h2 h3 h4=> ?_);obtain ⟨g1,k1,k2,k3,k4,k5⟩:=key g w vals h1 h2 h3 h4;obtain ⟨v,w',hr,ho⟩:=h g1 w vals k1 k2 k3 k4;exact ⟨v,w',hr,k5 v w' ho⟩
theorem v0a {P:Program} {n:Nat} {f:FuncId} {l m:List SV} {H:a0h} {cs:List BCol} {post:SV->a0h->Nat->Prop} (hl:h0A cs=true) (ha:m0C n l m) (h:FC P (n+1) f [.agg m] ((n,some (.one true (.cols 0 cs)))::H) post):FC P n f [.agg l] H post:=
 r0z hl (fun hle vs hv=>by
  simp only [Rvs,Rv] at hv⊢;obtain ⟨v,vs',rfl,⟨ws,rfl,h3⟩,h2⟩:=hv;exact ⟨_,vs',rfl,⟨ws,rfl,h0M hle _ _ _ ha h3⟩,h2⟩) h
theorem e1g {P:Program} {n:Nat} {f:FuncId} {args:List SV} {H H':a0h} {post:SV->a0h->Nat->Prop} (he:∀k,a0s H' k=a0s H k) (h:FC P n f args H post):FC P n f args H' post:=by
 have ent:∀{k q:Nat} {ro:Bool} {b:Blk},Ent H k q ro b↔Ent H' k q ro b:=by intro k q ro b;unfold Ent;rw [he k]
 have hH:∀{g:G} {w:World},Holds g H' w->Holds g H w:=fun hH=>⟨fun k q ro b e=>hH.blk k q ro b (ent.1 e),fun k q k' q' b ro' b' β β' hne e e'=>hH.sep k q k' q' b ro' b' β β' hne (ent.1 e) (ent.1 e')⟩
 have hW:∀{g:G} k,f0M g H k->f0M g H' k:=fun k ⟨h,q,b,β,e,r⟩=>⟨h,q,b,β,ent.1 e,r⟩
 have ho:∀{g:G} {w:World} {v:Value} {w':World},Out g w n H post v w'->Out g w n H' post v w':=by
  rintro g w v w' ⟨sv,H1,n',g',hp,hn,hu',hk,hv',hH',hrw,hfr,hown⟩;refine ⟨sv,H1,n',g',hp,hn,hu',hk,hv',hH',hrw,⟨hfr.os,hfr.tape,hfr.output,hfr.size,fun k hk1 hk2=>hfr.block k hk1 (fun hq=>hk2 (hW k hq))⟩,?_⟩;intro h q b β e hb hc;rcases hown h q b β e hb hc with hh|hh
  .exact .inl (hW _ hh)
  .exact .inr hh
 rcases h with ⟨hb,h⟩|h
 .refine .inl ⟨hb,fun g w vals h1 h2 h3 h4=>(h g w vals h1 h2 (hH h3) h4).mono ?_⟩;rintro e w' ⟨v,rfl,hq⟩;exact ⟨v,rfl,ho hq⟩
 .refine .inr (fun g w vals h1 h2 h3 h4=> ?_);obtain ⟨v,w',hr,hq⟩:=h g w vals h1 h2 (hH h3) h4;exact ⟨v,w',hr,ho hq⟩
end Go.Sy
namespace Go.Sy
open Go.RowKit
abbrev e1h (a c:List ByteArray) (v:List Int) (n:Nat):ObjS:= .map true false n [.strs a,.strs c] [.sc (.ints .i64 v)] (List.range n) n
abbrev x0F:=List ByteArray->List ByteArray->List Int->Prop
theorem e1i {g:G} {w:World} {β:Base} {Q:x0F} (h:(ObjS.bag Q).Ok g w β):∃a c v n,Q a c v/\a.length=n/\c.length=n/\v.length=n/\(e1h a c v n).Ok g w β:=by
 obtain ⟨a,c,v,n,es,hq,e,k1,k2,k3,k4,k5⟩:=h;refine ⟨a,c,v,n,hq,k2,k3,k4,es,e,k1,?_,?_,by simp,List.nodup_range,fun b hb=>by simpa using hb,fun i x hx=> ?_⟩
 .intro y hy;simp only [v0e,h1l,or_false] at hy;rcases hy with rfl|rfl
  .exact k2
  .exact k3
 .intro y hy;simp only [y0E] at hy;subst hy;exact k4
 .obtain ⟨h1,h2,h3⟩:=k5 i x hx;have hi:i<n:=by rw [<-k1];exact (e1G.1 hx).1
  refine ⟨?_,h2,h3⟩;rw [h1,List.getD,h1Q hi];rfl
theorem y0z {g:G} {w:World} {β:Base} {Q:x0F} {a c:List ByteArray} {v:List Int} {n:Nat} (hq:Q a c v) (h:(e1h a c v n).Ok g w β):(ObjS.bag Q).Ok g w β:=by
 obtain ⟨es,e,m⟩:=h;refine ⟨a,c,v,n,es,hq,e,m.size,m.kl (.strs a) (by simp),m.kl (.strs c) (by simp),m.vl (.sc (.ints .i64 v)) (by simp),fun i x hx=> ?_⟩;obtain ⟨h1,h2,h3⟩:=m.row i x hx;have hi:i<n:=by rw [<-m.size];exact (e1G.1 hx).1
 refine ⟨?_,h2,h3⟩;rw [h1,List.getD,h1Q hi];rfl
theorem r0A {g:G} {w:World} {β:Base} {ro:Bool} {Q:x0F} (h:BlkAt g β ro (.obj (.bag Q)) w):∃a c v n,Q a c v/\a.length=n/\c.length=n/\v.length=n/\BlkAt g β ro (.obj (e1h a c v n)) w:=by
 obtain ⟨a,c,v,n,hq,k1,k2,k3,k⟩:=e1i h.obj.2.2;exact ⟨a,c,v,n,hq,k1,k2,k3,h.lt,h.es,trivial,fun i hi=>hi.elim,fun i j sv hi=>hi.elim,fun i j x hi=>hi.elim,h.rw,h.obj.1,h.obj.2.1,k⟩
theorem t0i {g:G} {w:World} {β:Base} {ro:Bool} {Q:x0F} {a c:List ByteArray} {v:List Int} {n:Nat} (hq:Q a c v) (h:BlkAt g β ro (.obj (e1h a c v n)) w):BlkAt g β ro (.obj (.bag Q)) w:=
 ⟨h.lt,h.es,trivial,fun i hi=>hi.elim,fun i j sv hi=>hi.elim,fun i j x hi=>hi.elim,h.rw,h.obj.1,h.obj.2.1,y0z hq h.obj.2.2⟩
theorem c0P {H:a0h} {k:Nat} {ro:Bool} {b b':Blk} {h q:Nat} {r:Bool} {x:Blk} (he:Ent ((k,some (.one ro b))::H) h q r x):(h=k/\q=0/\r=ro/\x=b/\Ent ((k,some (.one ro b'))::H) h q r b')\/(h≠k/\Ent ((k,some (.one ro b'))::H) h q r x):=by
 rcases a0t.1 he with ⟨rfl,hb,e1,e2,e3⟩|⟨hne,he⟩
 .cases e1;exact .inl ⟨rfl,e2.1,e3.symm,e2.2,a0t.2 (.inl ⟨rfl,_,rfl,⟨e2.1,rfl⟩,e3⟩)⟩
 .exact .inr ⟨fun e=>hne e.symm,a0t.2 (.inr ⟨hne,he⟩)⟩
theorem t0j {g:G} {H:a0h} {w:World} {k:Nat} {ro:Bool} {b b':Blk} (hH:Holds g ((k,some (.one ro b))::H) w) (hb:∀β,BlkAt g β ro b w->BlkAt g β ro b' w):Holds g ((k,some (.one ro b'))::H) w:=by
 refine ⟨fun h q r x he=> ?_,fun h q h' q' x r' x' β β' hne he he'=> ?_⟩
 .rcases c0P (b':=b) he with ⟨rfl,rfl,rfl,rfl,he2⟩|⟨_,he2⟩
  .obtain ⟨β,e1,e2⟩:=hH.blk _ _ _ _ he2;exact ⟨β,e1,hb β e2⟩
  .exact hH.blk _ _ _ _ he2
 .have h1:∃y,Ent ((k,some (HB.one ro b))::H) h q false y:=by
   rcases c0P (b':=b) he with ⟨_,_,_,_,he2⟩|⟨_,he2⟩
   .exact ⟨_,he2⟩
   .exact ⟨_,he2⟩
  have h2:∃y,Ent ((k,some (HB.one ro b))::H) h' q' r' y:=by
   rcases c0P (b':=b) he' with ⟨_,_,_,_,he2⟩|⟨_,he2⟩
   .exact ⟨_,he2⟩
   .exact ⟨_,he2⟩
  obtain ⟨y,h1⟩:=h1;obtain ⟨y',h2⟩:=h2;exact hH.sep h q h' q' y r' y' β β' hne h1 h2
theorem v0b {g:G} {H:a0h} {k:Nat} {ro:Bool} {b b':Blk}:f0M g ((k,some (.one ro b))::H)=f0M g ((k,some (.one ro b'))::H):=by
 have key:∀(b b':Blk) x,f0M g ((k,some (.one ro b))::H) x->f0M g ((k,some (.one ro b'))::H) x:=by
  rintro b b' x ⟨h,q,y,β,he,e1,e2,e3⟩;rcases c0P (b':=b') he with ⟨_,_,_,_,he2⟩|⟨_,he2⟩
  .exact ⟨h,q,_,β,he2,e1,e2,e3⟩
  .exact ⟨h,q,_,β,he2,e1,e2,e3⟩
 funext x;exact propext ⟨key b b' x,key b' b x⟩
theorem v0c {g:G} {H:a0h} {k:Nat} {ro:Bool} {b b':Blk} {W:Nat->Prop} {w0:World} (h:u0f g ((k,some (.one ro b))::H) W w0):u0f g ((k,some (.one ro b'))::H) W w0:=by
 intro x q y β he e1 e2;rcases c0P (b':=b) he with ⟨_,_,_,_,he2⟩|⟨_,he2⟩
 .exact h x q _ β he2 e1 e2
 .exact h x q _ β he2 e1 e2
theorem t0k {H:a0h} {k:Nat} {b b':Blk} (h:d0A ((k,some (.one false b))::H)):d0A ((k,some (.one false b'))::H):=by
 intro x q r y he;rcases c0P (b':=b) he with ⟨_,_,_,_,he2⟩|⟨_,he2⟩
 .exact h _ _ _ _ he2
 .exact h _ _ _ _ he2
section
variable {P:Program}
theorem o0f {α:Type} {n:Nat} {f:FuncId} {args:List SV} {H:a0h} {k:Nat} {ro:Bool} {b:Blk} {B:α->Blk} {A:α->Prop} {post post':SV->a0h->Nat->Prop}
  (hopen:∀(g:G) (w:World) (β:Base),BlkAt g β ro b w->∃x,A x/\BlkAt g β ro (B x) w)
  (hout:∀(g:G) (w w':World) (v:Value) (H0:a0h),Out g w n H0 post' v w'->Out g w n H0 post v w')
  (h:∀x,A x->FC P n f args ((k,some (.one ro (B x)))::H) post'):FC P n f args ((k,some (.one ro b))::H) post:=by
 have pick:∀(g:G) (w:World),Holds g ((k,some (.one ro b))::H) w->∃x,A x/\Holds g ((k,some (.one ro (B x)))::H) w:=by
  intro g w hH;obtain ⟨β,e1,e2⟩:=hH.blk k 0 ro b (a0t.2 (.inl ⟨rfl,_,rfl,⟨rfl,rfl⟩,rfl⟩));obtain ⟨x,hx,e3⟩:=hopen g w β e2;refine ⟨x,hx,?_⟩;refine ⟨fun h q r y he=> ?_,?_⟩
  .rcases c0P (b':=b) he with ⟨rfl,rfl,rfl,rfl,he2⟩|⟨_,he2⟩
   .exact ⟨β,e1,e3⟩
   .exact hH.blk _ _ _ _ he2
  .intro h q h' q' y r' y' γ γ' hne he he';have h1:∃y,Ent ((k,some (HB.one ro b))::H) h q false y:=by
    rcases c0P (b':=b) he with ⟨_,_,_,_,he2⟩|⟨_,he2⟩<;>exact ⟨_,he2⟩
   have h2:∃y,Ent ((k,some (HB.one ro b))::H) h' q' r' y:=by
    rcases c0P (b':=b) he' with ⟨_,_,_,_,he2⟩|⟨_,he2⟩<;>exact ⟨_,he2⟩
   obtain ⟨z,h1⟩:=h1;obtain ⟨z',h2⟩:=h2;exact hH.sep h q h' q' z r' z' γ γ' hne h1 h2
 have back:∀(g:G) (w w':World) (v:Value) (x:α),Out g w n ((k,some (.one ro (B x)))::H) post' v w'->Out g w n ((k,some (.one ro b))::H) post v w':=by
  intro g w w' v x ho;obtain ⟨sv,H1,n1,g',h1,h2,h3,h4,h5,h6,h7,h8,h9⟩:=hout g w w' v _ ho;rw [v0b (b':=b)] at h8 h9;exact ⟨sv,H1,n1,g',h1,h2,h3,h4,h5,h6,h7,h8,h9⟩
 by_cases hb:d0M P f
 .left;refine ⟨hb,fun g w vals hg hu hH hv=> ?_⟩;obtain ⟨x,hx,hH'⟩:=pick g w hH;rcases h x hx with h|h
  .exact (h.2 g w vals hg hu hH' hv).mono fun e w' ⟨v,he,ho⟩=>⟨v,he,back g w w' v x ho⟩
  .obtain ⟨v,w',hr,_⟩:=h g w vals hg hu hH' hv;rw [h0G hb] at hr;cases hr
 .right;intro g w vals hg hu hH hv;obtain ⟨x,hx,hH'⟩:=pick g w hH;rcases h x hx with h|h
  .exact absurd h.1 hb
  .obtain ⟨v,w',hr,ho⟩:=h g w vals hg hu hH' hv;exact ⟨v,w',hr,back g w w' v x ho⟩
structure BagX where
 a:List ByteArray
 c:List ByteArray
 v:List Int
 n:Nat
def BagX.ok (Q:x0F) (x:BagX):Prop:=Q x.a x.c x.v/\x.a.length=x.n/\x.c.length=x.n/\x.v.length=x.n
abbrev BagX.blk (x:BagX):Blk:= .obj (e1h x.a x.c x.v x.n)
theorem p0H {n:Nat} {g:G} {w w':World} {v:Value} {H0:a0h} {Q':x0F} {k' n':Nat} {r:SV} {H2:a0h} (ho:Out g w n H0 (fun sv H1 n1=>∃x:BagX,Q' x.a x.c x.v/\a0f r ((k',some (.one false x.blk))::H2) n' sv H1 n1) v w'):Out g w n H0 (a0f r ((k',some (.one false (.obj (.bag Q'))))::H2) n') v w':=by
 obtain ⟨sv,H1,n1,g',⟨x,hq,rfl,rfl,rfl⟩,h2,h3,h4,h5,h6,h7,h8,h9⟩:=ho;exact ⟨_,_,_,g',⟨rfl,rfl,rfl⟩,h2,h3,h4,h5,t0j h6 (fun β hb=>t0i hq hb),t0k h7,h8,v0c h9⟩
theorem e1j {n:Nat} {f:FuncId} {args:List SV} {H:a0h} {k:Nat} {ro:Bool} {Q Q':x0F} {k' n':Nat} {r:SV} {H2:a0h}
  (h:∀x:BagX,x.ok Q->FC P n f args ((k,some (.one ro x.blk))::H) (fun sv H1 n1=>∃x':BagX,Q' x'.a x'.c x'.v/\a0f r ((k',some (.one false x'.blk))::H2) n' sv H1 n1)):
  FC P n f args ((k,some (.one ro (.obj (.bag Q))))::H) (a0f r ((k',some (.one false (.obj (.bag Q'))))::H2) n'):=
 o0f (A:=BagX.ok Q) (B:=BagX.blk) (fun g w β hb=>by
  obtain ⟨a,c,v,m,hq,k1,k2,k3,k4⟩:=r0A hb;exact ⟨⟨a,c,v,m⟩,⟨hq,k1,k2,k3⟩,k4⟩) (fun g w w' v H0 ho=>p0H ho) h
theorem v0d {n:Nat} {f:FuncId} {args:List SV} {H:a0h} {k:Nat} {ro:Bool} {Q:x0F} {post:SV->a0h->Nat->Prop} (h:∀x:BagX,x.ok Q->FC P n f args ((k,some (.one ro x.blk))::H) post):
  FC P n f args ((k,some (.one ro (.obj (.bag Q))))::H) post:=
 o0f (A:=BagX.ok Q) (B:=BagX.blk) (fun g w β hb=>by
  obtain ⟨a,c,v,m,hq,k1,k2,k3,k4⟩:=r0A hb;exact ⟨⟨a,c,v,m⟩,⟨hq,k1,k2,k3⟩,k4⟩) (fun g w w' v H0 ho=>ho) h
theorem t0l {n:Nat} {f:FuncId} {args:List SV} {H:a0h} {Q':x0F} {k' n':Nat} {r:SV} {H2:a0h} {x:BagX} (hq:Q' x.a x.c x.v) (h:FC P n f args H (a0f r ((k',some (.one false x.blk))::H2) n')):FC P n f args H (a0f r ((k',some (.one false (.obj (.bag Q'))))::H2) n'):=by
 rcases h with ⟨hb,h⟩|h
 .exact .inl ⟨hb,fun g w vals hg hu hH hv=>(h g w vals hg hu hH hv).mono fun e w' ⟨v,he,ho⟩=>⟨v,he,p0H (by obtain ⟨sv,H1,n1,g',h1,h2⟩:=ho;exact ⟨sv,H1,n1,g',⟨x,hq,h1⟩,h2⟩)⟩⟩
 .exact .inr fun g w vals hg hu hH hv=>by
   obtain ⟨v,w',hr,ho⟩:=h g w vals hg hu hH hv;exact ⟨v,w',hr,p0H (by obtain ⟨sv,H1,n1,g',h1,h2⟩:=ho;exact ⟨sv,H1,n1,g',⟨x,hq,h1⟩,h2⟩)⟩
end
end Go.Sy
namespace Go.Sy
open Go.RowKit
mutual
def SV.mem (μ:Nat->Nat):SV->SV
 | .ptr h q i j=> .ptr h (q+μ h) i j
 | .sl h q i n=> .sl h (q+μ h) i n
 | .map h q=> .map h (q+μ h)
 | .fn f l=> .fn f (SV.mems μ l)
 | .iface t v=> .iface t (SV.mem μ v)
 | .agg l=> .agg (SV.mems μ l)
 | .tup l=> .tup (SV.mems μ l)
 | .bool b=> .bool b
 | .int k n=> .int k n
 | .str s=> .str s
 | .nptr=> .nptr
 | .nsl=> .nsl
 | .zsl=> .zsl
 | .nmap=> .nmap
 | .nif=> .nif
 | .arr n l=> .arr n l
 | .raw v=> .raw v
 | .unk=> .unk
def SV.mems (μ:Nat->Nat):List SV->List SV
 | []=> []
 |s::r=>SV.mem μ s::SV.mems μ r
end
def BCol.mem (μ:Nat->Nat):BCol->BCol
 | .sc c=> .sc c
 | .svs l=> .svs (SV.mems μ l)
 | .own h ns=> .own h ns
 | .arrs n k r=> .arrs n k r
 | .ptrs h n=> .ptrs h n
def d0C (μ:Nat->Nat):List BCol->List BCol
 | []=> []
 |c::l=>c.mem μ::d0C μ l
def ObjS.mem (μ:Nat->Nat):ObjS->ObjS
 | .map ka ea n ks vs bs ck=> .map ka ea n ks (d0C μ vs) bs ck
 | .iter h q a b c=> .iter h (q+μ h) a b c
 | .niter=> .niter
 | .siter s p=> .siter s p
 | .bld0 T=> .bld0 T
 | .bld T h q n=> .bld T h (q+μ h) n
 | .brow T s=> .brow T s
 | .bag Q=> .bag Q
def Blk.mem (μ:Nat->Nat):Blk->Blk
 | .cells l=> .cells (SV.mems μ l)
 | .cols n l=> .cols n (d0C μ l)
 | .obj o=> .obj (o.mem μ)
def BCol.mok (μ:Nat->Nat):BCol->Bool
 | .own h _=>Nat.beq (μ h) 0
 | .ptrs h _=>Nat.beq (μ h) 0
 |_=>true
def e0g (μ:Nat->Nat):List BCol->Bool
 | []=>true
 |c::l=>c.mok μ&&e0g μ l
def Blk.mok (μ:Nat->Nat):Blk->Bool
 | .cells _=>true
 | .cols _ l=>e0g μ l
 | .obj (.map _ _ _ _ vs _ _)=>e0g μ vs
 | .obj _=>true
def Sm (μ:Nat->Nat) (g g':G):Prop:=∀h q,g h q=g' h (q+μ h)
mutual
theorem Rv.mem {μ:Nat->Nat} {g g':G} (hs:Sm μ g g'):∀(sv:SV) (v:Value),Rv g sv v↔Rv g' (SV.mem μ sv) v
 | .bool _,_=>by simp only [SV.mem,Rv]
 | .int _ _,_=>by simp only [SV.mem,Rv]
 | .str _,_=>by simp only [SV.mem,Rv]
 | .ptr h q i j,v=>by simp only [SV.mem,Rv,hs h q]
 | .nptr,_=>by simp only [SV.mem,Rv]
 | .sl h q i m,v=>by simp only [SV.mem,Rv,hs h q]
 | .nsl,_=>by simp only [SV.mem,Rv]
 | .zsl,_=>by simp only [SV.mem,Rv]
 | .map h q,v=>by simp only [SV.mem,Rv,hs h q]
 | .nmap,_=>by simp only [SV.mem,Rv]
 | .fn f l,v=>by
   simp only [SV.mem,Rv];constructor
   .rintro ⟨vs,e,k⟩;exact ⟨vs,e,(Rvs.mem hs l _).1 k⟩
   .rintro ⟨vs,e,k⟩;exact ⟨vs,e,(Rvs.mem hs l _).2 k⟩
 | .iface t s,v=>by
   simp only [SV.mem,Rv];constructor
   .rintro ⟨u,e,k⟩;exact ⟨u,e,(Rv.mem hs s _).1 k⟩
   .rintro ⟨u,e,k⟩;exact ⟨u,e,(Rv.mem hs s _).2 k⟩
 | .nif,_=>by simp only [SV.mem,Rv]
 | .agg l,v=>by
   simp only [SV.mem,Rv];constructor
   .rintro ⟨vs,e,k⟩;exact ⟨vs,e,(Rvs.mem hs l _).1 k⟩
   .rintro ⟨vs,e,k⟩;exact ⟨vs,e,(Rvs.mem hs l _).2 k⟩
 | .arr _ _,_=>by simp only [SV.mem,Rv]
 | .tup l,v=>by
   simp only [SV.mem,Rv];constructor
   .rintro ⟨vs,e,k⟩;exact ⟨vs,e,(Rvs.mem hs l _).1 k⟩
   .rintro ⟨vs,e,k⟩;exact ⟨vs,e,(Rvs.mem hs l _).2 k⟩
 | .raw _,_=>by simp only [SV.mem,Rv]
 | .unk,_=>by simp only [SV.mem,Rv]
theorem Rvs.mem {μ:Nat->Nat} {g g':G} (hs:Sm μ g g'):∀(l:List SV) (vs:List Value),Rvs g l vs↔Rvs g' (SV.mems μ l) vs
 | [],_=>by simp only [SV.mems,Rvs]
 |s::l,vs=>by
  simp only [SV.mems,Rvs];constructor
  .rintro ⟨v,vs',e,h1,h2⟩;exact ⟨v,vs',e,(Rv.mem hs s v).1 h1,(Rvs.mem hs l vs').1 h2⟩
  .rintro ⟨v,vs',e,h1,h2⟩;exact ⟨v,vs',e,(Rv.mem hs s v).2 h1,(Rvs.mem hs l vs').2 h2⟩
end
theorem j0D (μ:Nat->Nat):∀l:List SV,SV.mems μ l=l.map (SV.mem μ)
 | []=>rfl
 |s::l=>by simp [SV.mems,j0D μ l]
theorem f0u (μ:Nat->Nat):∀l:List BCol,d0C μ l=l.map (BCol.mem μ)
 | []=>rfl
 |s::l=>by simp [d0C,f0u μ l]
theorem g0f {μ:Nat->Nat}:∀{l:List BCol} {c:BCol},e0g μ l=true->c∈l->c.mok μ=true
 | [],s,_,h=>by cases h
 |x::l,s,hw,h=>by
  simp only [e0g,k0P] at hw;rcases v0e.1 h with rfl|h
  .exact hw.1
  .exact g0f hw.2 h
theorem BCol.mem_at (μ:Nat->Nat) (c:BCol) (i:Nat) (h:c.mok μ=true):(c.mem μ).at i=SV.mem μ (c.at i):=by
 cases c with
 |sc c=>cases c<;>rfl
 |svs l=>
  simp only [BCol.mem,BCol.at,j0D,List.getD,v0g];cases l[i]?<;>rfl
 |own hh ns=>
  have e:μ hh=0:=by simpa [BCol.mok] using h
  simp only [BCol.mem,BCol.at,SV.mem,e,e1f]
 |arrs n k r=>rfl
 |ptrs hh m=>
  have e:μ hh=0:=by simpa [BCol.mok] using h
  simp only [BCol.mem,BCol.at,SV.mem,e,e1f]
theorem Blk.mem_at (μ:Nat->Nat) (b:Blk) (i j:Nat) (h:b.mok μ=true):(b.mem μ).at i j=(b.at i j).map (SV.mem μ):=by
 cases b with
 |cells l=>simp only [Blk.mem,Blk.at,j0D,b0a,v0g]
 |cols n l=>
  simp only [Blk.mem,Blk.at,f0u,b0a,v0g];cases hc:l[j]? with
  |none=>rfl
  |some c=>simp [BCol.mem_at μ c i (g0f h (h1U hc))]
 |obj o=>rfl
theorem Blk.mem_has (μ:Nat->Nat) (b:Blk) (i:Nat):(b.mem μ).has i↔b.has i:=by cases b<;>exact Iff.rfl
theorem Blk.mem_es (μ:Nat->Nat) (b:Blk):(b.mem μ).es=b.es:=by
 cases b<;>simp [Blk.mem,Blk.es,j0D,f0u]
theorem g0g (μ:Nat->Nat) {l:List BCol} {n:Nat}:(∀c∈d0C μ l,c.len=n)↔∀c∈l,c.len=n:=by
 have:∀c:BCol,(c.mem μ).len=c.len:=by intro c;cases c<;>simp [BCol.mem,BCol.len,j0D]
 simp [f0u,this]
theorem Blk.mem_len (μ:Nat->Nat) (b:Blk):(b.mem μ).lenOk↔b.lenOk:=by
 cases b with
 |cells l=>exact Iff.rfl
 |cols n l=>exact g0g μ
 |obj o=>exact Iff.rfl
theorem j0E (μ:Nat->Nat):∀(l:List BCol) (i:Nat),e0g μ l=true->a0w (d0C μ l) i=SV.mems μ (a0w l i)
 | [],_,_=>rfl
 |c::l,i,h=>by
  simp only [e0g,k0P] at h;simp only [d0C,a0w,SV.mems,BCol.mem_at μ c i h.1,j0E μ l i h.2]
theorem o0g (μ:Nat->Nat) (ea:Bool) (l:List BCol) (i:Nat) (h:e0g μ l=true):a0X ea (d0C μ l) i=SV.mem μ (a0X ea l i):=by
 cases ea with
 |true=>simp only [a0X,SV.mem,j0E μ l i h]
 |false=>
  match l,h with
  | [],_=>rfl
  | [c],h=>simp only [d0C,a0X];exact BCol.mem_at μ c i (g0f h (y0E.2 rfl))
  |_::_::_,_=>rfl
theorem o0h {μ:Nat->Nat} {g g':G} (hs:Sm μ g g') {β:Base} {b:Blk} {w:World} (hm:b.mok μ=true):b.Ok g w β↔(b.mem μ).Ok g' w β:=by
 cases b with
 |cells l=>exact Iff.rfl
 |cols n l=>exact Iff.rfl
 |obj o=>
  cases o with
  |map ka ea m ks vs bs ck=>
   have hm':e0g μ vs=true:=hm;constructor
   .rintro ⟨c1,c2,es,e,k⟩;exact ⟨c1,c2,es,e,k.size,k.kl,(g0g μ).2 k.vl,k.bl,k.nd,k.lt,fun i x hx=>⟨(k.row i x hx).1,(k.row i x hx).2.1,by rw [o0g μ ea vs i hm'];exact (Rv.mem hs _ _).1 (k.row i x hx).2.2⟩⟩
   .rintro ⟨c1,c2,es,e,k⟩;exact ⟨c1,c2,es,e,k.size,k.kl,(g0g μ).1 k.vl,k.bl,k.nd,k.lt,fun i x hx=>⟨(k.row i x hx).1,(k.row i x hx).2.1,(Rv.mem hs _ _).2 (by have:=(k.row i x hx).2.2;rwa [o0g μ ea vs i hm'] at this)⟩⟩
  |iter h q bs ck sn=>
   constructor
   .rintro ⟨c1,c2,β',e1,e⟩;exact ⟨c1,c2,β',by rw [<-hs];exact e1,e⟩
   .rintro ⟨c1,c2,β',e1,e⟩;exact ⟨c1,c2,β',by rw [hs];exact e1,e⟩
  |niter=>exact Iff.rfl
  |siter s p=>exact Iff.rfl
  |bld0 T=>exact Iff.rfl
  |bld T h q n=>
   constructor
   .rintro ⟨c1,c2,β',e1,e⟩;exact ⟨c1,c2,β',by rw [<-hs];exact e1,e⟩
   .rintro ⟨c1,c2,β',e1,e⟩;exact ⟨c1,c2,β',by rw [hs];exact e1,e⟩
  |brow T s=>exact Iff.rfl
  |bag Q=>exact Iff.rfl
theorem o0i {μ:Nat->Nat} {g g':G} (hs:Sm μ g g') {β:Base} {ro:Bool} {b:Blk} {w:World} (hm:b.mok μ=true):BlkAt g β ro b w↔BlkAt g' β ro (b.mem μ) w:=by
 constructor
 .intro h;refine ⟨h.lt,by rw [h.es,Blk.mem_es],(Blk.mem_len μ b).2 h.len,fun i hi=>h.cap i ((Blk.mem_has μ b i).1 hi),?_,fun i j v hi=>h.one i j v ((Blk.mem_has μ b i).1 hi),h.rw,(o0h hs hm).1 h.obj⟩;intro i j sv hi hj;rw [Blk.mem_at μ b i j hm] at hj;cases hb:b.at i j with
  |none=>rw [hb] at hj;cases hj
  |some s=>
   rw [hb] at hj;simp only [a1R,Option.some.injEq] at hj;subst hj;obtain ⟨v,h1,h2⟩:=h.cell i j s ((Blk.mem_has μ b i).1 hi) hb;exact ⟨v,h1,(Rv.mem hs s v).1 h2⟩
 .intro h;refine ⟨h.lt,by rw [h.es,Blk.mem_es],(Blk.mem_len μ b).1 h.len,fun i hi=>h.cap i ((Blk.mem_has μ b i).2 hi),?_,fun i j v hi=>h.one i j v ((Blk.mem_has μ b i).2 hi),h.rw,(o0h hs hm).2 h.obj⟩;intro i j sv hi hj;obtain ⟨v,h1,h2⟩:=h.cell i j (SV.mem μ sv) ((Blk.mem_has μ b i).2 hi) (by rw [Blk.mem_at μ b i j hm,hj];rfl);exact ⟨v,h1,(Rv.mem hs sv v).2 h2⟩
theorem e1k {P:Program} {n:Nat} {f:FuncId} {args:List SV} {H H1:a0h} {post post1:SV->a0h->Nat->Prop} (μ:Nat->Nat) (h0:μ 0=0) (hn:∀h,n<=h->μ h=0)
  (hin:∀h q ro b,Ent H h q ro b->b.mok μ=true/\Ent H1 h (q+μ h) ro (b.mem μ))
  (hout:∀sv H' n',post sv H' n'->∃H1',post1 (sv.mem μ) H1' n'/\d0A H1'/\∀h q1 b1,Ent H1' h q1 false b1->(∃q b,q1=q+μ h/\b1=b.mem μ/\b.mok μ=true/\Ent H' h q false b)\/(h<n/\Ent H1 h q1 false b1/\∀q ro b,q1=q+μ h->¬Ent H h q ro b))
  (h:FC P n f args H post):FC P n f (SV.mems μ args) H1 post1:=by
 have key:∀(g':G) (w:World) (vals:List Value),g'.glob->g'.upto n->Holds g' H1 w->Rvs g' (SV.mems μ args) vals->
   ∃g:G,g.glob/\g.upto n/\Holds g H w/\Rvs g args vals/\∀v w',Out g w n H post v w'->Out g' w n H1 post1 v w':=by
  intro g' w vals hg hu hH hv;have hs:Sm μ (fun h q=>g' h (q+μ h)) g':=fun h q=>rfl
  refine ⟨fun h q=>g' h (q+μ h),fun q=>by dsimp only;rw [h0,e1f];exact hg q,fun h q hh=>hu h _ hh,⟨?_,?_⟩,(Rvs.mem hs args vals).2 hv,?_⟩
  .intro h q ro b he;obtain ⟨hm,h1⟩:=hin h q ro b he;obtain ⟨β,hb,hB⟩:=hH.blk _ _ _ _ h1;exact ⟨β,hb,(o0i hs hm).2 hB⟩
  .intro h q h' q' b ro' b' β β' hne he he' hb hb' hc hc';refine hH.sep h (q+μ h) h' (q'+μ h') _ ro' _ β β' (fun e=>hne ⟨e.1,?_⟩) (hin _ _ _ _ he).2 (hin _ _ _ _ he').2 hb hb' hc hc';have e1:=e.1;subst e1;omega
  .rintro v w' ⟨sv,H',n',g1,hp,hnn,hu',hk,hv',hH',hrw,hfr,hown⟩;obtain ⟨H1',p1,p2,p3⟩:=hout sv H' n' hp;have hkk:∀h q,h<n->g1 h q=g' h (q+μ h):=fun h q hh=>hk h q hh
   let g1':G:=fun h q=>if h<n then g' h q else g1 h q
   have hs1:Sm μ g1 g1':=by
    intro h q;by_cases hh:h<n
    .simp only [g1',hh,if_true];exact hkk h q hh
    .simp only [g1',hh,if_false];rw [hn h (by omega),e1f]
   have hle:G.le g' g1':=by
    intro h q β e;by_cases hh:h<n
    .simp only [g1',hh,if_true];exact e
    .rw [hu h q (by omega)] at e;cases e
   have hW:∀k,f0M (fun h q=>g' h (q+μ h)) H k->f0M g' H1 k:=by
    rintro k ⟨h,q,b,β,he,hb,hc,e⟩;exact ⟨h,q+μ h,_,β,(hin _ _ _ _ he).2,hb,hc,e⟩
   have apart:∀h q1 ro1 b1 β,Ent H1 h q1 ro1 b1->(∀q ro b,q1=q+μ h->¬Ent H h q ro b)->g' h q1=some β->0<β.cap->¬f0M (fun h q=>g' h (q+μ h)) H β.blk:=by
    rintro h q1 ro1 b1 β he hno hb hc ⟨h2,q2,b2,β2,he2,hb2,hc2,e2⟩;refine hH.sep h2 (q2+μ h2) h q1 _ ro1 b1 β2 β (fun e=> ?_) (hin _ _ _ _ he2).2 he hb2 hb hc2 hc e2;have e1:=e.1;subst e1;exact hno q2 _ b2 e.2.symm he2
   have cls:∀h q1 b1,Ent H1' h q1 false b1->(∃q b β,q1=q+μ h/\b1=b.mem μ/\b.mok μ=true/\Ent H' h q false b/\g1 h q=some β/\g1' h q1=some β/\BlkAt g1 β false b w')\/(∃β,h<n/\Ent H1 h q1 false b1/\g' h q1=some β/\g1' h q1=some β/\BlkAt g' β false b1 w/\(0<β.cap->¬f0M (fun h q=>g' h (q+μ h)) H β.blk)):=by
    intro h q1 b1 he;rcases p3 h q1 b1 he with ⟨q,b,e1,e2,e3,e4⟩|⟨e1,e2,e3⟩
    .obtain ⟨β,hb,hB⟩:=hH'.blk _ _ _ _ e4;exact .inl ⟨q,b,β,e1,e2,e3,e4,hb,by rw [e1,<-hs1];exact hb,hB⟩
    .obtain ⟨β,hb,hB⟩:=hH.blk _ _ _ _ e2;exact .inr ⟨β,e1,e2,hb,hle _ _ _ hb,hB,fun hc=>apart h q1 false b1 β e2 e3 hb hc⟩
   refine ⟨sv.mem μ,H1',n',g1',p1,hnn,?_,?_,(Rv.mem hs1 sv v).1 hv',⟨?_,?_⟩,p2,?_,?_⟩
   .intro h q hh;simp only [g1'];rw [if_neg (by omega)];exact hu' h q hh
   .intro h q hh;simp only [g1',hh,if_true]
   .intro h q1 ro b1 he;have:=p2 _ _ _ _ he;subst this;rcases cls h q1 b1 he with ⟨q,b,β,e1,e2,e3,e4,e5,e6,e7⟩|⟨β,e1,e2,e3,e4,e5,e6⟩
    .exact ⟨β,e6,by rw [e2];exact (o0i hs1 e3).1 e7⟩
    .exact ⟨β,e4,b0k e5 hle hfr.size (fun hc=>hfr.block _ (e5.lt hc) (e6 hc))⟩
   .intro h q h' q' b ro' b' β β' hne he he' hb hb' hc hc';have:=p2 _ _ _ _ he';subst this;rcases cls h q b he with ⟨q0,b0,β0,e1,e2,e3,e4,e5,e6,e7⟩|⟨β0,e1,e2,e3,e4,e5,e6⟩
    .rw [hb] at e6;cases e6;rcases cls h' q' b' he' with ⟨q2,b2,β2,k1,k2,k3,k4,k5,k6,k7⟩|⟨β2,k1,k2,k3,k4,k5,k6⟩
     .rw [hb'] at k6;cases k6;refine hH'.sep h q0 h' q2 b0 false b2 β β' (fun e=>hne ⟨e.1,?_⟩) e4 k4 e5 k5 hc hc';rw [e1,k1,e.2,e.1]
     .rw [hb'] at k4;cases k4;rcases hown h q0 b0 β e4 e5 hc with ho|ho
      .intro e;rw [e] at ho;exact k6 hc' ho
      .have:=k5.lt hc';omega
    .rw [hb] at e4;cases e4;rcases cls h' q' b' he' with ⟨q2,b2,β2,k1,k2,k3,k4,k5,k6,k7⟩|⟨β2,k1,k2,k3,k4,k5,k6⟩
     .rw [hb'] at k6;cases k6;rcases hown h' q2 b2 β' k4 k5 hc' with ho|ho
      .intro e;rw [<-e] at ho;exact e6 hc ho
      .have:=e5.lt hc;omega
     .rw [hb'] at k4;cases k4;exact hH.sep h q h' q' b false b' β β' hne e2 k2 e3 k3 hc hc'
   .exact ⟨hfr.os,hfr.tape,hfr.output,hfr.size,fun k hk1 hk2=>hfr.block k hk1 (fun hq=>hk2 (hW k hq))⟩
   .intro h q b β he hb hc;rcases cls h q b he with ⟨q0,b0,β0,e1,e2,e3,e4,e5,e6,e7⟩|⟨β0,e1,e2,e3,e4,e5,e6⟩
    .rw [hb] at e6;cases e6;rcases hown h q0 b0 β e4 e5 hc with ho|ho
     .exact .inl (hW _ ho)
     .exact .inr ho
    .rw [hb] at e4;cases e4;exact .inl ⟨h,q,b,β,e2,e3,hc,rfl⟩
 rcases h with ⟨hb,h⟩|h
 .refine .inl ⟨hb,fun g w vals h1 h2 h3 h4=> ?_⟩;obtain ⟨g1,k1,k2,k3,k4,k5⟩:=key g w vals h1 h2 h3 h4;refine (h g1 w vals k1 k2 k3 k4).mono ?_;rintro e w' ⟨v,rfl,ho⟩;exact ⟨v,rfl,k5 v w' ho⟩
 .refine .inr (fun g w vals h1 h2 h3 h4=> ?_);obtain ⟨g1,k1,k2,k3,k4,k5⟩:=key g w vals h1 h2 h3 h4;obtain ⟨v,w',hr,ho⟩:=h g1 w vals k1 k2 k3 k4;exact ⟨v,w',hr,k5 v w' ho⟩
structure FamAt where
 q:Nat
 dom:Nat->Prop
 f:Nat->Blk
abbrev u0d:=List (Nat×FamAt)
def fmu (L:u0d) (h:Nat):Nat:=match a0F L h with|some a=>a.q|none=>0
def t0m (L:u0d) (h:Nat):HB->HB
 | .one ro b=>match a0F L h with|some a=> .fam ro a.dom a.f|none=> .one ro (b.mem (fmu L))
 | .fam ro dom f=> .fam ro dom (fun x=>(f x).mem (fmu L))
def d1J (L:u0d):a0h->a0h
 | []=> []
 |(h,some hb)::r=>(h,some (t0m L h hb))::d1J L r
 |(h,none)::r=>(h,none)::d1J L r
def p0I (L:u0d) (h:Nat):HB->HB
 | .one ro b=>match a0F L h with|some a=> .fam ro a.dom (fun x=>if x=a.q then b.mem (fmu L) else a.f x)|none=> .one ro (b.mem (fmu L))
 | .fam ro dom f=> .fam ro dom (fun x=>(f x).mem (fmu L))
def j0F (L:u0d):a0h->a0h
 | []=> []
 |(h,some hb)::r=>(h,some (p0I L h hb))::j0F L r
 |(h,none)::r=>(h,none)::j0F L r
def r0B (L:u0d) (H H':a0h) (n:Nat):u0d->Prop
 | []=>True
 |(h,a)::r=>(0<h/\h<n/\∃ro b,a0s H h=some (.one ro b)/\a.dom a.q/\a.f a.q=b.mem (fmu L)/\(a0s H' h=none\/(ro=false/\∃b1,a0s H' h=some (.one false b1))))/\r0B L H H' n r
def HB.mok (μ:Nat->Nat):HB->Prop
 | .one _ b=>b.mok μ=true
 | .fam _ dom f=>∀q,dom q->(f q).mok μ=true
def g0h (μ:Nat->Nat):a0h->Prop
 | []=>True
 |(_,some hb)::r=>hb.mok μ/\g0h μ r
 |(_,none)::r=>g0h μ r
theorem d0S (L:u0d) (h:Nat):∀H:a0h,a0s (d1J L H) h=(a0s H h).map (t0m L h)
 | []=>rfl
 |(k,some hb)::r=>by
  simp only [d1J,a0I];by_cases e:k=h
  .rw [if_pos e,if_pos e,e];rfl
  .rw [if_neg e,if_neg e];exact d0S L h r
 |(k,none)::r=>by
  simp only [d1J,a0I];by_cases e:k=h
  .rw [if_pos e,if_pos e];rfl
  .rw [if_neg e,if_neg e];exact d0S L h r
theorem e0h (L:u0d) (h:Nat):∀H:a0h,a0s (j0F L H) h=(a0s H h).map (p0I L h)
 | []=>rfl
 |(k,some hb)::r=>by
  simp only [j0F,a0I];by_cases e:k=h
  .rw [if_pos e,if_pos e,e];rfl
  .rw [if_neg e,if_neg e];exact e0h L h r
 |(k,none)::r=>by
  simp only [j0F,a0I];by_cases e:k=h
  .rw [if_pos e,if_pos e];rfl
  .rw [if_neg e,if_neg e];exact e0h L h r
theorem e0i {μ:Nat->Nat} {h:Nat} {hb:HB}:∀{H:a0h},g0h μ H->a0s H h=some hb->hb.mok μ
 | [],_,e=>by cases e
 |(k,some x)::r,hm,e=>by
  simp only [g0h] at hm;rw [a0I] at e;split at e
  .cases e;exact hm.1
  .exact e0i hm.2 e
 |(k,none)::r,hm,e=>by
  simp only [g0h] at hm;rw [a0I] at e;split at e
  .cases e
  .exact e0i hm e
theorem c0u {L0:u0d} {H H':a0h} {n h:Nat} {a:FamAt}:∀{L:u0d},r0B L0 H H' n L->a0F L h=some a->0<h/\h<n/\∃ro b,a0s H h=some (.one ro b)/\a.dom a.q/\a.f a.q=b.mem (fmu L0)/\(a0s H' h=none\/(ro=false/\∃b1,a0s H' h=some (.one false b1)))
 | [],_,e=>by cases e
 |(k,x)::r,hm,e=>by
  simp only [r0B] at hm;rw [b0F] at e;split at e
  .rename_i q;subst q;cases e;exact hm.1
  .exact c0u hm.2 e
theorem j0G {P:Program} {n:Nat} {f:FuncId} {args:List SV} {H H':a0h} {r:SV} {n':Nat} (L:u0d) (hL:r0B L H H' n L) (hm:g0h (fmu L) H) (hm':g0h (fmu L) H') (hrw:d0A H') (h:FC P n f args H (a0f r H' n')):
  FC P n f (SV.mems (fmu L) args) (d1J L H) (a0f (r.mem (fmu L)) (j0F L H') n'):=by
 have hno:∀{x:Nat},a0F L x=none->fmu L x=0:=fun {x} e=>by unfold fmu;rw [e]
 have hyes:∀{x:Nat} {a:FamAt},a0F L x=some a->fmu L x=a.q:=fun {x a} e=>by unfold fmu;rw [e]
 refine e1k (fmu L) ?_ ?_ ?_ ?_ h
 .cases e:a0F L 0 with
  |none=>exact hno e
  |some a=>exact absurd (c0u hL e).1 (i1K _)
 .intro x hx;cases e:a0F L x with
  |none=>exact hno e
  |some a=>have:=(c0u hL e).2.1;omega
 .rintro x q ro b ⟨hb,e1,e2,e3⟩;have hmo:=e0i hm e1;cases hb with
  |one r0 b0=>
   simp only [HB.is] at e2;obtain ⟨rfl,rfl⟩:=e2;refine ⟨hmo,?_⟩;cases e:a0F L x with
   |none=>
    rw [hno e];refine ⟨.one r0 (b.mem (fmu L)),?_,⟨rfl,rfl⟩,e3⟩;rw [d0S,e1];simp only [a1R,t0m,e]
   |some a=>
    obtain ⟨_,_,ro1,b1,k1,k2,k3,_⟩:=c0u hL e;rw [e1] at k1;cases k1;rw [hyes e,a1J];refine ⟨.fam r0 a.dom a.f,?_,⟨k2,k3.symm⟩,e3⟩;rw [d0S,e1];simp only [a1R,t0m,e]
  |fam r0 dom F=>
   simp only [HB.is] at e2;obtain ⟨h1,rfl⟩:=e2;refine ⟨hmo q h1,?_⟩;cases e:a0F L x with
   |none=>
    rw [hno e];refine ⟨.fam r0 dom (fun y=>(F y).mem (fmu L)),?_,⟨h1,rfl⟩,e3⟩;rw [d0S,e1];simp only [a1R,t0m]
   |some a=>
    obtain ⟨_,_,ro1,b1,k1,_⟩:=c0u hL e;rw [e1] at k1;cases k1
 .rintro sv Hx nx ⟨rfl,rfl,rfl⟩;refine ⟨j0F L Hx,⟨rfl,rfl,rfl⟩,?_,?_⟩
  .rintro x q ro b ⟨hb,e1,e2,e3⟩;rw [e0h] at e1;cases e:a0s Hx x with
   |none=>rw [e] at e1;cases e1
   |some hb0=>
    rw [e] at e1;simp only [a1R,Option.some.injEq] at e1;subst e1;cases hb0 with
    |one r0 b0=>
     have:=hrw x 0 r0 b0 ⟨_,e,⟨rfl,rfl⟩,rfl⟩;subst this;rw [<-e3];simp only [p0I];split<;>rfl
    |fam r0 dom F=>
     simp only [p0I,HB.is] at e2;have:=hrw x q r0 (F q) ⟨_,e,⟨e2.1,rfl⟩,rfl⟩;subst this;rw [<-e3];rfl
  .rintro x q1 b1 ⟨hb,e1,e2,e3⟩;rw [e0h] at e1;cases e:a0s Hx x with
   |none=>rw [e] at e1;cases e1
   |some hb0=>
    rw [e] at e1;simp only [a1R,Option.some.injEq] at e1;subst e1;have hmo:=e0i hm' e;cases hb0 with
    |one r0 b0=>
     have:=hrw x 0 r0 b0 ⟨_,e,⟨rfl,rfl⟩,rfl⟩;subst this;cases ea:a0F L x with
     |none=>
      simp only [p0I,ea,HB.is] at e2;exact .inl ⟨0,b0,by rw [hno ea];exact e2.1,e2.2,hmo,⟨_,e,⟨rfl,rfl⟩,rfl⟩⟩
     |some a=>
      simp only [p0I,ea,HB.is] at e2;obtain ⟨hx0,hxn,ro1,bb,k1,k2,k3,k4⟩:=c0u hL ea;have hro:ro1=false:=by
       rcases k4 with k4|k4
       .rw [e] at k4;cases k4
       .exact k4.1
      subst hro;by_cases hq:q1=a.q
      .refine .inl ⟨0,b0,by rw [hyes ea,a1J];exact hq,?_,hmo,⟨_,e,⟨rfl,rfl⟩,rfl⟩⟩;rw [e2.2,if_pos hq]
      .refine .inr ⟨hxn,⟨.fam false a.dom a.f,?_,⟨e2.1,?_⟩,rfl⟩,?_⟩
       .rw [d0S,k1];simp only [a1R,t0m,ea]
       .rw [e2.2,if_neg hq]
       .rintro q ro b hqe ⟨hb2,f1,f2,_⟩;rw [k1] at f1;cases f1;simp only [HB.is] at f2;rw [hyes ea,f2.1,a1J] at hqe;exact hq hqe
    |fam r0 dom F=>
     simp only [p0I,HB.is] at e2;have:=hrw x q1 r0 (F q1) ⟨_,e,⟨e2.1,rfl⟩,rfl⟩;subst this;cases ea:a0F L x with
     |none=>exact .inl ⟨q1,F q1,by rw [hno ea];rfl,e2.2,hmo q1 e2.1,⟨_,e,⟨e2.1,rfl⟩,rfl⟩⟩
     |some a=>
      obtain ⟨_,_,ro1,bb,_,_,_,k4⟩:=c0u hL ea;rcases k4 with k4|⟨_,b2,k4⟩
      .rw [e] at k4;cases k4
      .rw [e] at k4;cases k4
end Go.Sy
namespace Go.Sy
open Go.RowKit
theorem a0E {n:Nat} {R:Nat->Nat->Option (Nat×Nat)} (s:SV):SLe n R s s:=fun g g1 v hle _ h=>Rv.mono hle s v h
theorem e0Q {n:Nat} {R:Nat->Nat->Option (Nat×Nat)} {h q h' q' i k:Nat} (hn:n<=h') (e:R h' q'=some (h,q)):SLe n R (.sl h q i k) (.sl h' q' i k):=by
 intro g g1 v hle hR hv;simp only [Rv] at hv⊢;obtain ⟨a,c,e1,e2,e3⟩:=hv;refine ⟨a,c,e1,e2,?_⟩;rcases e3 with e3|⟨β,e3,e4⟩
 .exact .inl e3
 .exact .inr ⟨β,hR h' q' _ hn e β e3,e4⟩
theorem j0H {h q:Nat} {ro:Bool} {b:Blk}:¬Ent [] h q ro b:=fun ⟨hb,e,_⟩=>by simp [a0s] at e
end Go.Sy
namespace Go.Sy
open Go.RowKit
theorem c0G {n:Nat} {R:Nat->Nat->Option (Nat×Nat)} {h q h' q' i j:Nat} (hn:n<=h') (e:R h' q'=some (h,q)):SLe n R (.ptr h q i j) (.ptr h' q' i j):=by
 intro g g1 v hle hR hv;simp only [Rv] at hv⊢;obtain ⟨β,e1,e2⟩:=hv;exact ⟨β,hR h' q' _ hn e β e1,e2⟩
theorem p0K {n:Nat} {R:Nat->Nat->Option (Nat×Nat)} {h q h' q':Nat} (hn:n<=h') (e:R h' q'=some (h,q)):SLe n R (.map h q) (.map h' q'):=by
 intro g g1 v hle hR hv;simp only [Rv] at hv⊢;obtain ⟨β,e1,e2⟩:=hv;exact ⟨β,hR h' q' _ hn e β e1,e2⟩
def f1U (n:Nat) (R:Nat->Nat->Option (Nat×Nat)):List SV->List SV->Prop
 | [],[]=>True
 |a::l,b::m=>SLe n R a b/\f1U n R l m
 |_,_=>False
theorem p0L {n:Nat} {R:Nat->Nat->Option (Nat×Nat)}:∀{l m:List SV},f1U n R l m->m.length=l.length/\∀j b,nth m j=some b->∃a,nth l j=some a/\SLe n R a b
 | [],[],_=>⟨rfl,fun j b h=>by simp [nth] at h⟩
 |a::l,b::m,h=>by
  obtain ⟨h1,h2⟩:=p0L h.2;refine ⟨by rw [y0x,y0x,h1],fun j c hc=> ?_⟩;cases j with
  |zero=>simp only [nth,Option.some.injEq] at hc;subst hc;exact ⟨a,rfl,h.1⟩
  |succ j=>simp only [nth] at hc⊢;exact h2 j c hc
 | [],_::_,h=>h.elim
 |_::_,[],h=>h.elim
theorem b0l {n:Nat} {R:Nat->Nat->Option (Nat×Nat)} {l m:List SV} (h:f1U n R l m):BLe n R (.cells l) (.cells m):= .inr ⟨(p0L h).1,(p0L h).2⟩
theorem m0E {n:Nat} {R:Nat->Nat->Option (Nat×Nat)} {ka:Bool} {m:Nat} {ks:List Col} {c c':BCol} {bs:List Nat} {ck:Nat} (hl:c'.len=m) (h:∀i,i<m->SLe n R (c.at i) (c'.at i)):BLe n R (.obj (.map ka false m ks [c] bs ck)) (.obj (.map ka false m ks [c'] bs ck)):=
 .inr ⟨rfl,rfl,rfl,rfl,rfl,rfl,fun _ c2 h2=>by rw [y0E] at h2;subst h2;exact hl,fun i hi=>h i hi⟩
def f1V (n:Nat) (R:Nat->Nat->Option (Nat×Nat)) (m:Nat):List BCol->List BCol->Prop
 | [],[]=>True
 |c::l,d::r=>((c.len=m->d.len=m)/\∀i,i<m->SLe n R (c.at i) (d.at i))/\f1V n R m l r
 |_,_=>False
theorem m0F {n m:Nat} {R:Nat->Nat->Option (Nat×Nat)}:∀{l r:List BCol},f1V n R m l r->r.length=l.length/\((∀c∈l,c.len=m)->∀c∈r,c.len=m)/\∀i j d,i<m->nth r j=some d->∃c,nth l j=some c/\SLe n R (c.at i) (d.at i)
 | [],[],_=>⟨rfl,fun _ c h=>(by cases h),fun i j d _ h=>by simp [nth] at h⟩
 |a::l,b::r,h=>by
  obtain ⟨h1,h2,h3⟩:=m0F h.2;refine ⟨by rw [y0x,y0x,h1],fun hl c hc=> ?_,fun i j d hi hd=> ?_⟩
  .rcases v0e.1 hc with rfl|hc
   .exact h.1.1 (hl a (List.mem_cons_self))
   .exact h2 (fun c hc=>hl c (i1X _ hc)) c hc
  .cases j with
   |zero=>simp only [nth,Option.some.injEq] at hd;subst hd;exact ⟨a,rfl,h.1.2 i hi⟩
   |succ j=>simp only [nth] at hd⊢;exact h3 i j d hi hd
 | [],_::_,h=>h.elim
 |_::_,[],h=>h.elim
theorem d0q {n m:Nat} {R:Nat->Nat->Option (Nat×Nat)} {l r:List BCol} (h:f1V n R m l r):BLe n R (.cols m l) (.cols m r):=
 .inr ⟨m0D _,(m0F h).1,(m0F h).2.1,(m0F h).2.2⟩
theorem r0C {n m h nb h':Nat} {R:Nat->Nat->Option (Nat×Nat)} (hn:n<=h') (h1:∀q,q<m->R h' q=some (h,q)) (h2:R h' m=some (nb,0)):∀i,i<m+1->SLe n R ((BCol.svs (d0I h m++ [.ptr nb 0 0 0])).at i) ((BCol.ptrs h' (m+1)).at i):=by
 intro i hi;by_cases e:i<m
 .have e1:(BCol.svs (d0I h m++ [.ptr nb 0 0 0])).at i= .ptr h i 0 0:=by
   show (d0I h m++ [SV.ptr nb 0 0 0]).getD i .unk=_;rw [List.getD,v0f (by rw [b0t];exact e)];exact e0b e
  rw [e1];exact c0G hn (h1 i e)
 .have ei:i=m:=by omega
  subst ei;have e1:(BCol.svs (d0I h i++ [.ptr nb 0 0 0])).at i= .ptr nb 0 0 0:=by
   show (d0I h i++ [SV.ptr nb 0 0 0]).getD i .unk=_;rw [List.getD,v0k (by rw [b0t];exact m0D _),b0t,h1P];rfl
  rw [e1];exact c0G hn h2
theorem y0B {h m i:Nat} (hi:i<m):(d0I h m).set i (.ptr h i 0 0)=d0I h m:=by
 refine h1s fun j=> ?_
 rw [h1r];split
 .rename_i e;subst e;simp [d0I,hi]
 .rfl
theorem y0C {h m i:Nat} (hi:i<m):a0U i (.ptr h i 0 0) (d0I h m)=d0I h m:=by
 unfold a0U;rw [if_pos (by rw [b0t];exact hi)];exact y0B hi
theorem y0D {h m:Nat} {v:SV}:a0U m v (d0I h m)=d0I h m++ [v]:=by
 unfold a0U;rw [if_neg (by rw [b0t];omega)]
structure GD where
 old:Nat
 nw:Nat
 f:Nat->Blk
def gdR (n m:Nat) (D:List GD) (h q:Nat):Option (Nat×Nat):=if n<=h/\q<=m then (match nth D (h-n) with|some d=>if q<m then some (d.old,q) else some (d.nw,0)|none=>none) else none
def gdN (n m:Nat):Nat->List GD->a0h
 |_,[]=> []
 |i,d::r=>(n+i,some (.fam false (fun x=>x<m) d.f))::gdN n m (i+1) r
def gdr:List GD->List Nat
 | []=> []
 |d::r=>d.old::d.nw::gdr r
theorem m0G:∀{D:List GD} {i:Nat} {d:GD},nth D i=some d->d.old∈gdr D/\d.nw∈gdr D
 | [],i,d,h=>by simp [nth] at h
 |x::D,0,d,h=>by simp only [nth,Option.some.injEq] at h;subst h;simp [gdr]
 |x::D,i+1,d,h=>by
  have:=m0G (D:=D) (i:=i) h;simp [gdr,this]
theorem p0M {n m:Nat}:∀{D:List GD} {i h q:Nat} {ro:Bool} {b:Blk},Ent (gdN n m i D) h q ro b->∃j d,h=n+(i+j)/\nth D j=some d/\q<m/\ro=false/\b=d.f q
 | [],i,h,q,ro,b,he=>(j0H he).elim
 |x::D,i,h,q,ro,b,he=>by
  simp only [gdN] at he;rcases a0t.1 he with ⟨rfl,hb2,e1,e2,e3⟩|⟨_,he⟩
  .cases e1;exact ⟨0,x,by omega,rfl,e2.1,e3.symm,e2.2⟩
  .obtain ⟨j,d,h1,h2,h3⟩:=p0M he;exact ⟨j+1,d,by omega,h2,h3⟩
theorem r0D {n m:Nat}:∀{D:List GD} {i x:Nat},x∈a0n (gdN n m i D)->n<=x
 | [],i,x,h=>by simp [gdN,a0n] at h
 |d::D,i,x,h=>by
  simp only [gdN,a0n,v0e] at h;rcases h with h|h
  .omega
  .exact r0D h
theorem r0E {α:Type}:∀{l:List α} {i:Nat} {x:α},nth l i=some x->i<l.length
 | [],i,x,h=>by simp [nth] at h
 |y::l,0,x,h=>by simp
 |y::l,i+1,x,h=>by have:=r0E (l:=l) (i:=i) h;simp;exact this
theorem g0M {n m:Nat} {D:List GD} {h q:Nat} {p:Nat×Nat} (e:gdR n m D h q=some p):n<=h/\q<=m/\∃d,nth D (h-n)=some d/\((q<m/\p=(d.old,q))\/(q=m/\p=(d.nw,0))):=by
 unfold gdR at e;split at e
 .rename_i c;split at e
  .rename_i d hd;refine ⟨c.1,c.2,d,hd,?_⟩;split at e
   .rename_i w;simp only [Option.some.injEq] at e;exact .inl ⟨w,e.symm⟩
   .rename_i w;simp only [Option.some.injEq] at e;exact .inr ⟨by omega,e.symm⟩
  .cases e
 .cases e
theorem e0j {n m i q:Nat} {D:List GD} {d:GD} (hd:nth D i=some d) (hq:q<m):gdR n m D (n+i) q=some (d.old,q):=by
 unfold gdR;rw [if_pos ⟨by omega,by omega⟩,i1M,hd];exact if_pos hq
theorem d0D {n m i:Nat} {D:List GD} {d:GD} (hd:nth D i=some d):gdR n m D (n+i) m=some (d.nw,0):=by
 unfold gdR;rw [if_pos ⟨by omega,by omega⟩,i1M,hd];exact if_neg (i1K _)
def f1W (H:a0h) (n m th:Nat) (R:Nat->Nat->Option (Nat×Nat)):List GD->Prop
 | []=>True
 |d::r=>(d.old≠th/\d.nw≠th/\(∃dom f,a0s H d.old=some (.fam false dom f)/\(∀q,q<m->dom q/\BLe n R (f q) (d.f q)))/\∃b,a0s H d.nw=some (.one false b)/\BLe n R b (d.f m))/\f1W H n m th R r
theorem p0N {H:a0h} {n m th:Nat} {R:Nat->Nat->Option (Nat×Nat)}:∀{D:List GD} {i:Nat} {d:GD},f1W H n m th R D->nth D i=some d->d.old≠th/\d.nw≠th/\(∃dom f,a0s H d.old=some (.fam false dom f)/\(∀q,q<m->dom q/\BLe n R (f q) (d.f q)))/\∃b,a0s H d.nw=some (.one false b)/\BLe n R b (d.f m)
 | [],i,d,_,e=>by simp [nth] at e
 |x::D,0,d,h,e=>by simp only [nth,Option.some.injEq] at e;subst e;exact h.1
 |x::D,i+1,d,h,e=>p0N (D:=D) (i:=i) h.2 e
def v0h (D:List GD):Bool:=i0V (gdr D)
theorem r0F:∀{l:List Nat} {x:Nat},u0r l x=true↔x∈l
 | [],x=>by simp [u0r]
 |y::l,x=>by
  simp only [u0r,h1B,r0F (l:=l),v0e];constructor
  .rintro (h|h)
   .exact .inl (j0J h).symm
   .exact .inr h
  .rintro (h|h)
   .subst h;exact .inl (by simp)
   .exact .inr h
theorem m0H:∀{l:List Nat},i0V l=true->l.Nodup
 | [],_=>h1M
 |x::l,h=>by
  simp only [i0V,k0P,b1Q] at h;exact h1t.2 ⟨fun q=>(by have:=r0F.2 q;rw [h.1] at this;cases this),m0H h.2⟩
theorem v0i:∀{D:List GD},(gdr D).Nodup->∀{i j:Nat} {d e:GD},nth D i=some d->nth D j=some e->(d.old=e.old->i=j)/\(d.nw=e.nw->i=j)/\d.old≠e.nw
 | [],_,i,j,d,e,h,_=>by simp [nth] at h
 |x::D,hn,i,j,d,e,h1,h2=>by
  simp only [gdr] at hn;obtain ⟨n1,n2⟩:=h1t.1 hn;obtain ⟨n3,n4⟩:=h1t.1 n2;cases i with
  |zero=>
   simp only [nth,Option.some.injEq] at h1;subst h1;cases j with
   |zero=>
    simp only [nth,Option.some.injEq] at h2;subst h2;exact ⟨fun _=>rfl,fun _=>rfl,fun q=>n1 (by rw [q];simp)⟩
   |succ j=>
    have m:=m0G (D:=D) (i:=j) h2;refine ⟨fun q=>absurd (i1X _ (by rw [q];exact m.1)) n1,fun q=>absurd (by rw [q];exact m.2) n3,fun q=>n1 (i1X _ (by rw [q];exact m.2))⟩
  |succ i=>
   have m:=m0G (D:=D) (i:=i) h1;cases j with
   |zero=>
    simp only [nth,Option.some.injEq] at h2;subst h2;refine ⟨fun q=>absurd (i1X _ (by rw [<-q];exact m.1)) n1,fun q=>absurd (by rw [<-q];exact m.2) n3,fun q=>n3 (by rw [<-q];exact m.1)⟩
   |succ j=>
    obtain ⟨a,b,c⟩:=v0i (D:=D) n4 (i:=i) (j:=j) h1 h2;exact ⟨fun q=>by rw [a q],fun q=>by rw [b q],c⟩
theorem f0v {H:a0h} {n m th:Nat} {tb0 tb:Blk} (D:List GD) (hth:th<n) (ht:a0s H th=some (.one false tb0)) (hle:BLe n (gdR n m D) tb0 tb) (hD:f1W H n m th (gdR n m D) D) (hdist:v0h D=true):
  Relab H n (gdR n m D) (fun _=>0) ((th,some (.one false tb))::gdN n (m+1) 0 D) (gdr D) D.length:=by
 have hnd:=m0H hdist;have key:∀{h q:Nat} {ro:Bool} {b:Blk},Ent ((th,some (HB.one false tb))::gdN n (m+1) 0 D) h q ro b->(h=th/\q=0/\ro=false/\b=tb)\/∃j d,h=n+j/\nth D j=some d/\q<m+1/\ro=false/\b=d.f q:=by
  intro h q ro b he;rcases a0t.1 he with ⟨rfl,hb2,e1,e2,e3⟩|⟨_,he⟩
  .cases e1;exact .inl ⟨rfl,e2.1,e3.symm,e2.2⟩
  .obtain ⟨j,d,h1,h2⟩:=p0M he;exact .inr ⟨j,d,by omega,h2⟩
 refine ⟨?_,?_,?_,?_,?_⟩
 .intro h q p h1 h2;obtain ⟨_,_,d,h3,_⟩:=g0M h2;have:=r0E h3;omega
 .intro h q ro b he;rcases key he with ⟨_,_,e,_⟩|⟨_,_,_,_,_,e,_⟩<;>exact e
 .intro h q b' he;rcases key he with ⟨rfl,rfl,_,rfl⟩|⟨j,d,rfl,hd,hq,_,rfl⟩
  .exact .inl ⟨h,0,tb0,.inl ⟨hth,rfl,rfl⟩,⟨_,ht,⟨rfl,rfl⟩,rfl⟩,hle⟩
  .obtain ⟨_,_,⟨dom,f,g1,g2⟩,b,g3,g4⟩:=p0N hD hd;by_cases e:q<m
   .exact .inl ⟨d.old,q,f q,.inr ⟨by omega,e0j hd e⟩,⟨_,g1,⟨(g2 q e).1,rfl⟩,rfl⟩,(g2 q e).2⟩
   .have eq:q=m:=by omega
    subst eq;exact .inl ⟨d.nw,0,b,.inr ⟨by omega,d0D hd⟩,⟨_,g3,⟨rfl,rfl⟩,rfl⟩,g4⟩
 .intro h q p h1 h2;obtain ⟨_,_,d,h3,h4⟩:=g0M h2;have:=m0G h3;rcases h4 with ⟨_,rfl⟩|⟨_,rfl⟩
  .exact this.1
  .exact this.2
 .intro h q h' q' h0 q0 hk hk' h1 h2;have kk:∀{x:Nat},x∈a0n ((th,some (HB.one false tb))::gdN n (m+1) 0 D)->x=th\/n<=x:=by
   intro x hx;simp only [a0n,v0e] at hx;rcases hx with hx|hx
   .exact .inl hx
   .exact .inr (r0D hx)
  have no:∀{x y:Nat},n<=x->gdR n m D x y=some (h0,q0)->h0≠th:=by
   intro x y hx e;obtain ⟨_,_,d,h3,h4⟩:=g0M e;obtain ⟨g1,g2,_⟩:=p0N hD h3;rcases h4 with ⟨_,h4⟩|⟨_,h4⟩
   .cases h4;exact g1
   .cases h4;exact g2
  rcases h1 with ⟨a1,rfl,rfl⟩|⟨a1,a2⟩
  .rcases h2 with ⟨b1,e1,e2⟩|⟨b1,b2⟩
   .exact ⟨e1,e2⟩
   .exfalso;have e:h0=th:=by rcases kk hk with e|e<;>omega
    exact no b1 b2 e
  .rcases h2 with ⟨b1,rfl,rfl⟩|⟨b1,b2⟩
   .exfalso;have e:h0=th:=by rcases kk hk' with e|e<;>omega
    exact no a1 a2 e
   .obtain ⟨_,_,d,h3,h4⟩:=g0M a2;obtain ⟨_,_,d',h3',h4'⟩:=g0M b2;obtain ⟨i1,i2,i3⟩:=v0i hnd h3 h3';obtain ⟨_,_,i4⟩:=v0i hnd h3' h3;rcases h4 with ⟨w,h4⟩|⟨w,h4⟩<;>rcases h4' with ⟨w',h4'⟩|⟨w',h4'⟩
    .cases h4;simp only [Prod.mk.injEq] at h4';have:=i1 h4'.1;exact ⟨by omega,h4'.2⟩
    .cases h4;simp only [Prod.mk.injEq] at h4';exact absurd h4'.1 i3
    .cases h4;simp only [Prod.mk.injEq] at h4';exact absurd h4'.1.symm i4
    .cases h4;simp only [Prod.mk.injEq] at h4';have:=i2 h4'.1;exact ⟨by omega,by omega⟩
theorem f0w {H:a0h} {n th:Nat} {tb0 tb:Blk} (D:List GD) (hth:th<n) (ht:a0s H th=some (.one false tb0)) (hle:BLe n (fun _ _=>none) tb0 tb):
  Relab H n (fun _ _=>none) (fun _=>0) ((th,some (.one false tb))::gdN n 0 0 D) [] D.length:=by
 have key:∀{h q:Nat} {ro:Bool} {b:Blk},Ent ((th,some (HB.one false tb))::gdN n 0 0 D) h q ro b->h=th/\q=0/\ro=false/\b=tb:=by
  intro h q ro b he;rcases a0t.1 he with ⟨rfl,hb2,e1,e2,e3⟩|⟨_,he⟩
  .cases e1;exact ⟨rfl,e2.1,e3.symm,e2.2⟩
  .obtain ⟨j,d,h1,h2,h3,_⟩:=p0M he;omega
 refine ⟨fun h q p _ e=>(by cases e),fun h q ro b he=>(key he).2.2.1,?_,fun h q p _ e=>(by cases e),?_⟩
 .intro h q b' he;obtain ⟨rfl,rfl,_,rfl⟩:=key he;exact .inl ⟨h,0,tb0,.inl ⟨hth,rfl,rfl⟩,⟨_,ht,⟨rfl,rfl⟩,rfl⟩,hle⟩
 .intro h q h' q' h0 q0 _ _ h1 h2;rcases h1 with ⟨_,rfl,rfl⟩|⟨_,e⟩
  .rcases h2 with ⟨_,e1,e2⟩|⟨_,e⟩
   .exact ⟨e1,e2⟩
   .cases e
  .cases e
end Go.Sy
namespace Go.Sy
open Go.RowKit
theorem v0j {n m h nb h' k:Nat} {ns:List Nat} {R:Nat->Nat->Option (Nat×Nat)} (hl:ns.length=m) (hn:n<=h') (h1:∀q,q<m->R h' q=some (h,q)) (h2:R h' m=some (nb,0)):∀i,i<m+1->SLe n R ((BCol.svs (i0a h ns++ [.sl nb 0 0 k])).at i) ((BCol.own h' (ns++ [k])).at i):=by
 intro i hi;by_cases e:i<m
 .have e1:(BCol.svs (i0a h ns++ [.sl nb 0 0 k])).at i= .sl h i 0 (ns.getD i 0):=by
   show (i0a h ns++ [SV.sl nb 0 0 k]).getD i .unk=_;rw [List.getD,v0f (by rw [b0s];omega)];exact d0x (by omega)
  have e2:(BCol.own h' (ns++ [k])).at i= .sl h' i 0 (ns.getD i 0):=by
   show SV.sl h' i 0 ((ns++ [k]).getD i 0)=_;rw [List.getD,v0f (by omega)];rfl
  rw [e1,e2];exact e0Q hn (h1 i e)
 .have ei:i=m:=by omega
  subst ei;have e1:(BCol.svs (i0a h ns++ [.sl nb 0 0 k])).at i= .sl nb 0 0 k:=by
   show (i0a h ns++ [SV.sl nb 0 0 k]).getD i .unk=_;rw [List.getD,v0k (by rw [b0s];omega),b0s,show i-ns.length=0 from by omega];rfl
  have e2:(BCol.own h' (ns++ [k])).at i= .sl h' i 0 k:=by
   show SV.sl h' i 0 ((ns++ [k]).getD i 0)=_;rw [List.getD,v0k (by omega),show i-ns.length=0 from by omega];rfl
  rw [e1,e2];exact e0Q hn h2
end Go.Sy
namespace Go.Sy
open Go.RowKit
section
variable {P:Program}
theorem e0R {β:Base} (h:β.es=1) (i:Nat):β.addr i 0=⟨β.blk,β.off+i,none⟩:=by unfold Base.addr;rw [h];simp
def b1V {α:Type} [Inhabited α] (P:Program) (f:FuncId) (enc:α->Value) (srt:List α->List α):Prop:=
 (∀(blk off cap:Nat) (ss:List α) (W:World),Go.Sort.Holds enc W blk off ss.toArray->blk<W.heap.size->ss.length<4611686018427387904->
  Calls P f #[.slice (some ⟨blk,off,none⟩) ss.length cap] W fun e w'=>e= .returned (.tuple #[])/\∃k os,w'=Go.Sort.grow (Go.Sort.putRow enc (Go.Sort.ahead W k) blk off (srt ss).toArray) os)/\
 (∀(p:Option Addr) (cap:Nat) (W:World),Calls P f #[.slice p 0 cap] W fun e w'=>e= .returned (.tuple #[])/\w'=W)
theorem v0l {α:Type} [Inhabited α] {f:FuncId} {enc:α->Value} {srt:List α->List α} (mk:List α->Col) (hs:b1V P f enc srt) (hbd:d0M P f) (hl:∀l,(mk l).len=l.length) (hv:∀l i,i<l.length->(mk l).val i=enc (l.toArray[i]!)) (h1:∀x,(enc x).oneCell'=true) (hp:∀l,(srt l).length=l.length)
  (n:Nat) (l:List α) (hn:n<4611686018427387904):FC P 2 f [.sl 1 0 0 n] [(1,some (.one false (.cols n [.sc (mk l)])))] (a0f (.tup []) [(1,some (.one false (.cols n [.sc (mk (srt l))])))] 2):=by
 refine Or.inl ⟨hbd,fun g w vals hg hu hH hvs=> ?_⟩;obtain ⟨v,vs',rfl,hv0,hv1⟩:=hvs;simp only [Rvs] at hv1;subst hv1;obtain ⟨a,c,rfl,hnc,hc⟩:=rsv hv0;have hE:Ent [(1,some (HB.one false (Blk.cols n [.sc (mk l)])))] 1 0 false (Blk.cols n [.sc (mk l)]):=⟨_,rfl,⟨rfl,rfl⟩,rfl⟩;obtain ⟨β,hgβ,hB⟩:=hH.blk 1 0 false _ hE;have hlen:l.length=n:=by rw [<-hl];exact hB.len _ (y0E.2 rfl)
 have hes:β.es=1:=hB.es;have only:∀{b:Blk} {h q:Nat} {ro:Bool} {b':Blk},Ent [(1,some (HB.one false b))] h q ro b'->h=1/\q=0/\ro=false/\b'=b:=by
  rintro b h q ro b' ⟨hb,e,hi,hr⟩;rw [a0I] at e;split at e
  .cases e;rename_i e1;exact ⟨e1.symm,hi.1,hr.symm,hi.2⟩
  .cases e
 by_cases h0:n=0
 .subst h0;refine (hs.2 a c w).mono ?_;rintro e w' ⟨rfl,rfl⟩;have hnil:l= []:=i1j hlen;have hsn:srt l=l:=by rw [hnil];exact i1j (by rw [hp];rfl)
  rw [hsn];refine ⟨_,rfl,_,_,_,g,⟨rfl,rfl,rfl⟩,m0D _,hu,fun _ _ _=>rfl,?_,hH,a0c a0b,Fr.refl _ _,?_⟩
  .simp only [Rv];exact ⟨_,rfl,by simp [Rvs]⟩
  .intro h q b β' he hg' hc';exact .inl ⟨h,q,b,β',he,hg',hc',rfl⟩
 .obtain hc|⟨β',hg',ha,hcap⟩:=hc
  .omega
  .rw [hgβ] at hg';cases hg';have hcp:0<β.cap:=by omega
   subst ha;have hHo:Go.Sort.Holds enc w β.blk β.off l.toArray:=by
    intro j hj;have hj':j<n:=by rw [<-hlen];simpa using hj
    obtain ⟨x,hx,hr⟩:=hB.cell j 0 _ hj' rfl;rw [e0R hes] at hx;refine ⟨?_,?_⟩
    .rw [hx];have:=hv l j (by omega);rw [<-this];have e1:(BCol.sc (mk l)).at j=(mk l).at j:=rfl;rw [e1] at hr;have h2:=Col.at_ok g (mk l) j;revert hr h2;cases mk l<;>simp [Col.at,Col.val,Rv]
    .have:=(hB.rw rfl j 0 (by have:=hB.cap j hj';omega) (by omega)).1
     rwa [e0R hes] at this
   have hlt:=hB.lt hcp;have hca:=hs.1 β.blk β.off c l w hHo hlt (by omega);rw [hlen] at hca;have ea:β.addr 0 0=⟨β.blk,β.off,none⟩:=by rw [e0R hes];rfl
   rw [ea];refine hca.mono ?_;rintro e w' ⟨rfl,k,os,rfl⟩;have hss:(srt l).toArray.size=n:=by simp [hp,hlen]
   have cellP:∀j,j<n->(Go.Sort.grow (Go.Sort.putRow enc (Go.Sort.ahead w k) β.blk β.off (srt l).toArray) os).cell? ⟨β.blk,β.off+j,none⟩=some (enc ((srt l).toArray[j]!)):=by
    intro j hj;rw [Go.Sort.cell?_grow _ _ _ (by simpa using hlt)];exact Go.Sort.cell?_putRow enc (Go.Sort.ahead w k) β.blk β.off l.toArray (srt l).toArray hHo (by simp [hp]) j (by omega)
   have cellO:∀j,n<=j->(Go.Sort.grow (Go.Sort.putRow enc (Go.Sort.ahead w k) β.blk β.off (srt l).toArray) os).cell? ⟨β.blk,β.off+j,none⟩=w.cell? ⟨β.blk,β.off+j,none⟩:=by
    intro j hj;rw [Go.Sort.cell?_grow _ _ _ (by simpa using hlt)];rw [Go.Sort.cell?_putRow_other _ _ _ _ _ _ (.inr (.inr (by rw [hss];show β.off+n<=β.off+j;omega)))];rfl
   refine ⟨_,rfl,_,_,_,g,⟨rfl,rfl,rfl⟩,m0D _,hu,fun _ _ _=>rfl,?_,⟨?_,?_⟩,a0c a0b,⟨rfl,rfl,rfl,by simp,?_⟩,?_⟩
   .simp only [Rv];exact ⟨_,rfl,by simp [Rvs]⟩
   .intro h q ro b he;obtain ⟨rfl,rfl,rfl,rfl⟩:=only he;refine ⟨β,hgβ,?_⟩;refine ⟨fun _=>by simp;omega,hes,?_,hB.cap,?_,?_,?_,trivial⟩
    .intro c' hc';rw [y0E] at hc';subst hc';show (mk (srt l)).len=n;rw [hl,hp,hlen]
    .intro i j sv hi hj;have hi':i<n:=hi;cases j with
     |succ j=>simp [Blk.at,nth] at hj
     |zero=>
      simp only [Blk.at,nth,Option.some.injEq] at hj;subst hj;rw [e0R hes];refine ⟨_,cellP i hi',?_⟩;rw [<-hv (srt l) i (by rw [hp];omega)];exact Col.at_ok g _ i
    .intro i j v hi hj hx;have hi':i<n:=hi;obtain rfl:j=0:=by omega
     rw [e0R hes,cellP i hi'] at hx;cases hx;exact h1 _
    .intro _ i j hi hj;obtain rfl:j=0:=by omega
     have hx:=hB.rw rfl i 0 hi (by omega);rw [e0R hes] at hx⊢;refine ⟨?_,?_⟩
     .rw [Go.Sort.frozen?_grow _ _ _ (by simpa using hlt),Go.Sort.frozen?_putRow];exact hx.1
     .by_cases hi2:i<n
      .exact ⟨_,cellP i hi2⟩
      .rw [cellO i (by omega)];exact hx.2
   .intro h q h' q' b ro' b' β1 β2 hne he he' _ _ _ _;obtain ⟨rfl,rfl,_,_⟩:=only he;obtain ⟨rfl,rfl,_,_⟩:=only he';exact absurd ⟨rfl,rfl⟩ hne
   .intro x hx hW;have hne:x≠β.blk:=fun e=>hW ⟨1,0,_,β,hE,hgβ,hcp,e.symm⟩
    rw [Go.Sort.heap_grow_old _ _ (by simpa using hx)];simp only [Go.Sort.putRow,Go.Sort.mapBlock,e1m,if_neg (Ne.symm hne),Go.Sort.heap_ahead]
   .intro h q b β' he hg' hc';obtain ⟨rfl,rfl,_,_⟩:=only he;rw [hgβ] at hg';cases hg';exact .inl ⟨1,0,_,β,hE,hgβ,hc',rfl⟩
def toB (b:List UInt8):ByteArray:=⟨b.toArray⟩
def ofB (s:ByteArray):List UInt8:=s.data.toList
theorem v0m (s:ByteArray):toB (ofB s)=s:=rfl
def sortS (l:List ByteArray):List ByteArray:=((l.map ofB).mergeSort (fun x y=>decide (x<=y))).map toB
def sortI (l:List Int):List Int:=l.mergeSort (fun x y=>decide (x<=y))
theorem b0K (l:List ByteArray):(sortS l).length=l.length:=by simp [sortS]
theorem e0S (l:List Int):(sortI l).length=l.length:=by simp [sortI]
theorem j0K (l:List ByteArray):(l.map ofB).map toB=l:=by rw [j1R];exact List.map_id l
theorem c0T (l:List ByteArray):(sortS l).Perm l:=by
 have:=(j1a (l.map ofB) (fun x y=>decide (x<=y))).map toB
 rwa [j0K] at this
theorem y0F {f:FuncId} (hs:b1V P f Go.Proofs.encStr (fun ss:List (List UInt8)=>ss.mergeSort fun x y=>decide (x<=y))) (hbd:d0M P f) (n:Nat) (l:List ByteArray) (hn:n<4611686018427387904):
  FC P 2 f [.sl 1 0 0 n] [(1,some (.one false (.cols n [.sc (.strs l)])))] (a0f (.tup []) [(1,some (.one false (.cols n [.sc (.strs (sortS l))])))] 2):=by
 have h:=v0l (fun ss=> .strs (ss.map toB)) hs hbd (by intro l;simp [Col.len]) (by
  intro l i hi;simp only [Col.val,Go.Proofs.encStr];rw [getElem!_pos _ _ (by simpa using hi)];simp [List.getD,hi,toB]) (fun x=>rfl) (by intro l;simp) n (l.map ofB) hn
 rw [j0K] at h;exact h
theorem y0G {f:FuncId} (hs:b1V P f (Value.int .i64) (fun ss:List Int=>ss.mergeSort fun x y=>decide (x<=y))) (hbd:d0M P f) (n:Nat) (l:List Int) (hn:n<4611686018427387904):
  FC P 2 f [.sl 1 0 0 n] [(1,some (.one false (.cols n [.sc (.ints .i64 l)])))] (a0f (.tup []) [(1,some (.one false (.cols n [.sc (.ints .i64 (sortI l))])))] 2):=
 v0l (fun ss=> .ints .i64 ss) hs hbd (by intro l;rfl) (by
  intro l i hi;simp only [Col.val];rw [getElem!_pos _ _ (by simpa using hi)];simp [List.getD,hi]) (fun x=>rfl) (by intro l;simp) n l hn
theorem t0n {k:TypeId} (hk:P.underlying k=some .string) {g:G} {w:World} {b n ck:Nat} {ea:Bool} {ks:List ByteArray} {vs:List BCol} {bs:List Nat} {es:Array MapEntry} (hb:w.heap[b]? =some (.map es ck)) (hm:MapOk g false ea n [.strs ks] vs bs ck es) (hn:n<=maxLen) (hs:∀s∈ks,s.size<=maxLen) (hnd:ks.Nodup):
  ∃D:DataW Unit,w.ownsMap P k (fun _=>some (.nil,[])) b n D/\(strKeys D).Perm (ks.map ofB)/\Maps.size D=n:=by
 have hkl:ks.length=n:=hm.kl _ (y0E.2 rfl);have hky:es.toList.map (·.key)=ks.map Value.string:=by
  refine i1p (by simp [hm.size,hkl]) ?_;intro i h1 h2;have hi:i<es.size:=by simpa using h1
  have:=(hm.row i es[i] (u0W hi)).2.1;have hi2:i<ks.length:=by rw [hkl,<-hm.size];exact hi
  simp only [List.getElem_map,i1t,this,u0b,Col.val];simp [List.getD,hi2]
 have hrd:∀x∈es.toList,∃s:ByteArray,x.key= .string s/\WideElems.rd P k (fun _=>some (DataW.nil,[])) x=some (Lit.string s.data.toList,(DataW.nil:DataW Unit)):=by
  intro x hx;have:x.key∈ks.map Value.string:=by rw [<-hky];exact List.mem_map_of_mem hx
  obtain ⟨s,hs1,hs2⟩:=f1S.1 this;refine ⟨s,hs2.symm,?_⟩;unfold WideElems.rd;rw [<-hs2];simp [keyOf,hk,mapKey,hs s hs1]
 refine ⟨_,⟨es,ck,hb,⟨by rw [hm.size];exact hn,⟨?_,?_,?_⟩,fun x hx=> ?_⟩,by rw [hm.size];exact m0D _,rfl⟩,?_,?_⟩
 .intro x hx;obtain ⟨i,hi,rfl⟩:=h1x.1 hx;have hi':i<es.size:=by simpa using hi
  have:=(hm.row i es[i] (u0W hi')).1;simp only [i1t];rw [this];refine hm.lt _ ?_;have:i<bs.length:=by rw [hm.bl,<-hm.size];exact hi'
  simp [List.getD,this]
 .have:es.toList.map (·.born)=bs:=by
   refine i1p (by simp [hm.size,hm.bl]) ?_;intro i h1 h2;have hi:i<es.size:=by simpa using h1
   have:=(hm.row i es[i] (u0W hi)).1;simp only [List.getElem_map,i1t,this];simp [List.getD,h2]
  rw [this];exact hm.nd
 .rw [hky];exact List.Pairwise.map _ (fun a b h e=>h (by injection e)) hnd
 .obtain ⟨s,_,h⟩:=hrd x hx;exact ⟨_,h⟩
 .show ((((es.toList.map (WideElems.rg P k _)).foldr DataW.insert []).map fun p=>strOf p.1)).Perm _;refine ((WideShapes.sorted_perm _).map _).trans (List.Perm.of_eq ?_);rw [j1R];have:(fun x:MapEntry=>strOf (WideElems.rg P k (fun _=>some (DataW.nil,[])) x:Lit×DataW Unit).1)=fun x=>strOf (WideElems.rg P k (fun _=>some ((DataW.nil:DataW Unit),[])) x).1:=rfl
  refine (List.map_congr_left (g:=fun x:MapEntry=>match x.key with| .string s=>ofB s|_=> []) ?_).trans ?_
  .intro x hx;obtain ⟨s,hk',h⟩:=hrd x hx;show strOf (WideElems.rg P k _ x).1=_;unfold WideElems.rg;rw [h,hk'];rfl
  .have e1:es.toList.map (fun x:MapEntry=>match x.key with| .string s=>ofB s|_=> [])=(es.toList.map (·.key)).map (fun v=>match v with| .string s=>ofB s|_=> []):=by rw [j1R];rfl
   rw [e1,hky,j1R];rfl
 .show List.length _=n;rw [(WideShapes.sorted_perm _).length_eq];simp [hm.size]
end
end Go.Sy
namespace Go.Sy
open Go.RowKit Go.Maps Go.Sort Go.Shelf Go.Proofs
section
variable {P:Program} {ρ:Ren}
set_option maxRecDepth 100000 in
set_option maxHeartbeats 1000000 in
theorem z0g (L:SlLaysZ.n10 P ρ) {H:Type} (F:Fence) (n:Nat) (h10:F.fn (ρ.f 10)) (hro:F.round=none) (hn:1<=n) (l Bm o b nn:Nat) (D0:DataW H) {R:Value->Option (DataW H×List MemPlace)} (J:List (List UInt8)->World->Prop)
  (hY:∀pre x W,J pre W->pre.length<Maps.size D0->YieldAt F (n-1) P l #[encStr x] W fun e W'=>e= .returned (.bool true)/\J (pre++ [x]) W'/\KeepsWalks W W')
  (W:World) (hJ:AbidesFrom W.heap.size J) (hm:W.cell? ⟨Bm,o,none⟩=some (.map (some b))) (hown:W.ownsMap P (ρ.t 26) R b nn D0) (h0:J [] W):
  CallsIn F n P (ρ.f 10) #[.func (.yield l) #[] #[],.pointer (some ⟨Bm,o,none⟩)] W fun e W'=>(∃v,e= .returned v)/\∃ss:List (List UInt8),ss.Perm (strKeys D0)/\J ss W':=by
 have mixed:=L.mixed;have t0:=L.t0;have a0:=L.a0;have z0:=L.z0;have v0:=L.v0;have t4:=L.t4;have a4:=L.a4;have z4:=L.z4;have v4:=L.v4;have t23:=L.t23;have a23:=L.a23;have z23:=L.z23;have v23:=L.v23;have t26:=L.t26;have a26:=L.a26;have z26:=L.z26;have v26:=L.v26;have t33:=L.t33;have a33:=L.a33;have z33:=L.z33;have v33:=L.v33;have u0:=run_underlying L.t0;have u4:=run_underlying L.t4;have u23:=run_underlying L.t23;have u26:=run_underlying L.t26;have u33:=run_underlying L.t33;obtain ⟨_,_,FG⟩:=L.f10;refine callsIn_of_wp FG rfl h10 ?_ hro;simp only [SlBodyZ.n10_ntmps ρ,i1W,y0x,h1L,Nat.reduceAdd,Nat.reduceSub,Array.replicate_succ,Array.replicate_zero,List.push_toArray,List.append_toArray,h1T,d1H]
 gi_wp2_with (first
  |(gi_at_range;refine wpListIn_range_own _ rfl _ (ρ.t 23) rfl (ρ.t 26) (ρ.t 3) (string_keyed L.t26) L.t23 _ b nn _ rfl hown ?_;intro w0 hrg0 hg0 hs0)
  |gi_in)
 go_frame
 gi_loopw [3] (fun _ wr=>∃(left:Lit->Bool) (cnt:Nat) (ss:List (List UInt8)),wr.ranges P (ρ.t 26) R b W.heap.size nn D0 left cnt/\ss.length+cnt<=Maps.size D0/\Collected D0 left ss/\J ss wr)
  (fun _ wr=>wr.rangeLeft b W.heap.size)
 case atStart=>
  exact ⟨_,_,[],hrg0,by simp,Collected.start D0,hJ [] W w0 none h0 hg0 (fun r e=>by cases e)⟩
 case round=>
  obtain ⟨left,cnt,ss,hrg,hcs,hC,hJs⟩:=hrel
  gi_wp2_with (first
   |(gi_at_next;refine wpListIn_next_ranges _ rfl _ rfl (ρ.t 26) (string_keyed L.t26) R encStr id (fun key kl hk=>by obtain ⟨x,hx,_⟩:=Maps.keyOf_str L.t26 hk;exact ⟨x,hx⟩) (fun v _ _=>⟨v,rfl⟩) b W.heap.size nn _ _ _ rfl hrg ?_ ?_)
   |gi_in)
  .intro hc0 hl0
   gi_wp2
   go_end0
   exact ⟨⟨_,rfl⟩,ss,hC.perm hown (string_keyed L.t26) L.t26 hl0,hJs⟩
  .intro x c kl yd yp w2 cnt2 hkey hlk hv hat hrg2 hlt hg2 hs2 hen;obtain ⟨x',ex,rfl,_⟩:=Maps.keyOf_str L.t26 hkey;obtain rfl:x=x':=encStr_inj ex;have hJ2:J ss w2:=hJ ss wr w2 (some W.heap.size) hJs hg2 (fun r e=>by cases e;exact ⟨m0D _,hrg.iter_walk⟩);obtain ⟨fn,tmps,assign,body,hy,hR⟩:=hY ss x w2 hJ2 (by omega);clear hs2
   gi_wp2
   refine hR.mono ?_;rintro e W3 ⟨rfl,hJ3,hk3⟩
   gi_wp2
   have hrg3:=hrg2.of_walks hk3
   go_roundw
   case rel=>exact ⟨_,cnt2,ss++ [x],hrg3,by simp;omega,hC.step hlk hat,hJ3⟩
   case measure=>rw [hrg3.left_eq,hrg.left_eq];exact hlt
theorem q0n (L:SlLaysZ.n10 P ρ) {H:Type} (F:Fence) (n:Nat) (h10:F.fn (ρ.f 10)) (hro:F.round=none) (hn:1<=n) (Bm o b nn:Nat) (D0:DataW H) {R:Value->Option (DataW H×List MemPlace)} (w:World) (hBm:Bm<w.heap.size)
  (hm:w.cell? ⟨Bm,o,none⟩=some (.map (some b))) (hown:w.ownsMap P (ρ.t 26) R b nn D0):
  SeqGives F n P (ρ.f 10) #[.pointer (some ⟨Bm,o,none⟩)] encStr (fun ss=>ss.Perm (strKeys D0)) (Maps.size D0) w:=fun l J W hW hJ hY h0=>by
 have hown':W.ownsMap P (ρ.t 26) R b nn D0:=by
  have hbl:=hown.lt;obtain ⟨es,clock,hb,Ft,hs,hD⟩:=hown;exact ⟨es,clock,(hW.block b hbl).trans hb,Ft,hs,hD⟩
 exact z0g { L with} F n h10 hro hn l Bm o b nn D0 J hY W hJ ((hW.cell (p:=⟨Bm,o,none⟩) hBm).trans hm) hown' h0
theorem w0b {ρ':Ren} {f it:FuncId} {kt:TypeId} (hf:ρ'.f 6=f) (hi:ρ.f 10=it) (hkt:ρ.t 26=kt) (Lk:SlLaysZ.n10 P ρ) (Ls:SlLaysZ.n6 P ρ') (hsrt:∀m,AnyZ.SortsIn P ρ' Fence.wide m) (hbd:d0M P f) (e9:∀args w,(callFunc (ρ'.f 9) args).run P w= .ok (.enter (ρ'.f 9) args) w) (eit:∀args w,(callFunc it args).run P w= .ok (.enter it args) w) (hk:P.underlying kt=some .string)
  {ea:Bool} {n:Nat} {ks:List ByteArray} {vs:List BCol} {bs:List Nat} {ck:Nat} (hn:n<=100000) (hz:∀s∈ks,s.size<=maxLen) (hnd:ks.Nodup):
  FC P 3 f [.fn it [.ptr 2 0 0 0]] [(1,some (.one true (.obj (.map false ea n [.strs ks] vs bs ck)))),(2,some (.one true (.cells [.map 1 0])))] (a0f (.sl 3 0 0 n) [(3,some (.one false (.cols n [.sc (.strs (sortS ks))])))] 4):=by
 subst hf hi hkt;refine Or.inl ⟨hbd,fun g w vals hg hu hH hvs=> ?_⟩;obtain ⟨v,vs',rfl,hv0,hv1⟩:=hvs;simp only [Rvs] at hv1;subst hv1;simp only [Rv] at hv0;obtain ⟨cap,rfl,hcap⟩:=hv0;obtain ⟨pv,vs2,hp1,hp2,hp3⟩:=hcap;simp only [Rvs] at hp3;subst hp3;obtain ⟨β2,hg2,rfl⟩:=rpv hp2;have hcap':cap= #[.pointer (some (β2.addr 0 0))]:=by rw [<-h1I,hp1]
 subst hcap';have hE1:Ent [(1,some (HB.one true (Blk.obj (.map false ea n [.strs ks] vs bs ck)))),(2,some (HB.one true (Blk.cells [.map 1 0])))] 1 0 true (Blk.obj (.map false ea n [.strs ks] vs bs ck)):=⟨_,rfl,⟨rfl,rfl⟩,rfl⟩;have hE2:Ent [(1,some (HB.one true (Blk.obj (.map false ea n [.strs ks] vs bs ck)))),(2,some (HB.one true (Blk.cells [.map 1 0])))] 2 0 true (Blk.cells [.map 1 0]):=⟨_,rfl,⟨rfl,rfl⟩,rfl⟩;obtain ⟨β1,hg1,hB1⟩:=hH.blk 1 0 true _ hE1;obtain ⟨β2',hg2',hB2⟩:=hH.blk 2 0 true _ hE2;rw [hg2] at hg2';cases hg2';obtain ⟨_,_,es,hb1,hm1⟩:=hB1.obj;obtain ⟨x,hx,hrx⟩:=hB2.cell 0 0 _ rfl rfl;simp only [Rv] at hrx;obtain ⟨β1',hg1',rfl⟩:=hrx;rw [hg1] at hg1';cases hg1';have hc2:0<β2.cap:=hB2.cap 0 rfl;have hlt2:=hB2.lt hc2;have hml:n<=maxLen:=f1X hn (by decide);obtain ⟨D,hown,hperm,hsz⟩:=t0n hk hb1 hm1 hml hz hnd;have hseq:=q0n Lk Fence.wide 2 trivial rfl (by omega) β2.blk (β2.off+0*β2.es+0) β1.blk n D w hlt2 hx hown;rw [hsz] at hseq;have hca:=AnyZ.sorted_in Ls Fence.wide 5 trivial trivial trivial trivial rfl (by omega) (hsrt _) e9 _ _ trivial eit _ n hml (by omega) w hseq;refine (callsIn_wide.1 hca).mono ?_;rintro e w' ⟨v,ss,rfl,hS,hrow,hnil,hbel⟩;have hpm:ss.Perm (ks.map ofB):=hS.trans hperm;have hkl:ks.length=n:=hm1.kl _ (y0E.2 rfl);have hsl:ss.length=n:=by rw [hpm.length_eq,b1M,hkl]
 have hso:(ss.mergeSort (fun x y=>decide (x<=y)))=((ks.map ofB).mergeSort (fun x y=>decide (x<=y))):=mergeSort_of_perm hpm;rw [hso,hsl] at hrow;have hs':((ks.map ofB).mergeSort (fun x y=>decide (x<=y))).map encStr=(sortS ks).map Value.string:=by
  unfold sortS;rw [j1R];rfl
 rw [hs'] at hrow;obtain ⟨hl0,hr⟩:=hrow;have frm:Fr (f0M g [(1,some (HB.one true (Blk.obj (.map false ea n [.strs ks] vs bs ck)))),(2,some (HB.one true (Blk.cells [.map 1 0])))]) w w':=⟨hbel.os,hbel.tape,hbel.output,hbel.size,fun k hk _=>hbel.block k hk⟩;have only:∀{b:Blk} {h q:Nat} {ro:Bool} {b':Blk},Ent [(3,some (HB.one false b))] h q ro b'->h=3/\q=0/\ro=false/\b'=b:=by
  rintro b h q ro b' ⟨hb,e,hi,hr⟩;rw [a0I] at e;split at e
  .cases e;rename_i e1;exact ⟨e1.symm,hi.1,hr.symm,hi.2⟩
  .cases e
 obtain ⟨β,hβ,hrv,hB,horg⟩:∃β:Base,β.off=0/\Rv (g.add 3 β) (.sl 3 0 0 n) v/\BlkAt (g.add 3 β) β false (Blk.cols n [.sc (.strs (sortS ks))]) w'/\(0<β.cap->w.heap.size<=β.blk):=by
  rcases hr with ⟨rfl,hz0⟩|⟨gb,cp,cur,rfl,hbase,hgb,r1,r2,r3,r4⟩
  .subst hz0;refine ⟨⟨0,0,1,0⟩,rfl,?_,?_,fun h=>absurd h (by decide)⟩
   .simp only [Rv];exact ⟨none,0,rfl,m0D _,.inl rfl⟩
   .refine ⟨fun h=>absurd h (by decide),rfl,?_,fun i hi=>absurd hi (h1E _),fun i j sv hi=>absurd hi (h1E _),fun i j v hi=>absurd hi (h1E _),fun _ i j hi=>absurd hi (h1E _),trivial⟩;intro c hc;rw [y0E] at hc;subst hc;show (sortS ks).length=0;rw [b0K,hkl]
  .have hcs:cur.size=cp:=by rw [r3];simp
   have hcell:∀i,i<n->cur[i]? =some (Value.string ((sortS ks).getD i ⟨#[]⟩)):=by
    intro i hi;have h1:(cur.toList.take (n*1))[i]? =((sortS ks).map Value.string)[i]?:=by rw [r4]
    rw [h1F,if_pos (by omega)] at h1;rw [<-h1G,h1,v0g];have:i<(sortS ks).length:=by rw [b0K,hkl];exact hi
    simp [List.getD,this]
   have hglt:gb<w'.heap.size:=(e1G.1 hgb).1;refine ⟨⟨gb,0,1,cp⟩,rfl,?_,?_,fun _=>hbase⟩
   .simp only [Rv];refine ⟨_,_,rfl,r1,.inr ⟨⟨gb,0,1,cp⟩,by simp [G.add],rfl,by simp⟩⟩
   .refine ⟨fun _=>hglt,rfl,?_,fun i hi=>h1v hi r1,?_,?_,?_,trivial⟩
    .intro c hc;rw [y0E] at hc;subst hc;show (sortS ks).length=n;rw [b0K,hkl]
    .intro i j sv hi hj;have hi':i<n:=hi;cases j with
     |succ j=>simp [Blk.at,nth] at hj
     |zero=>
      simp only [Blk.at,nth,Option.some.injEq] at hj;subst hj;refine ⟨(Col.strs (sortS ks)).val i,?_,Col.at_ok _ (Col.strs (sortS ks)) i⟩;rw [e0R (β:=⟨gb,0,1,cp⟩) rfl];simp only [World.cell?,hgb,a1J,hcell i hi'];rfl
    .intro i j v hi hj hx;have hi':i<n:=hi;obtain rfl:j=0:=by have:j<1:=hj;omega
     rw [e0R (β:=⟨gb,0,1,cp⟩) rfl] at hx;simp only [World.cell?,hgb,a1J,hcell i hi'] at hx;cases hx;rfl
    .intro _ i j hi hj;obtain rfl:j=0:=by have:j<1:=hj;omega
     have hi':i<cp:=hi;rw [e0R (β:=⟨gb,0,1,cp⟩) rfl];refine ⟨by simp [World.frozen?,hgb],?_⟩;have:i<cur.size:=by omega
     exact ⟨cur[i],by simp [World.cell?,hgb,this]⟩
 refine ⟨v,rfl,_,_,_,g.add 3 β,⟨rfl,rfl,rfl⟩,by omega,?_,?_,hrv,⟨?_,?_⟩,a0c a0b,frm,?_⟩
 .intro h q hh;simp only [G.add];rw [if_neg (by omega)];exact hu h q (by omega)
 .intro h q hh;simp only [G.add];rw [if_neg (by omega)]
 .intro h q ro b he;obtain ⟨rfl,rfl,rfl,rfl⟩:=only he;exact ⟨β,by simp [G.add],hB⟩
 .intro h q h' q' b ro' b' β1 β2 hne he he' _ _ _ _;obtain ⟨rfl,rfl,_,_⟩:=only he;obtain ⟨rfl,rfl,_,_⟩:=only he';exact absurd ⟨rfl,rfl⟩ hne
 .intro h q b β' he hg' hc';obtain ⟨rfl,rfl,_,_⟩:=only he;simp only [G.add,and_self,if_true,Option.some.injEq] at hg';subst hg';exact .inr (horg hc')
end
end Go.Sy
namespace Go.Sy
open Go.RowKit
theorem w0c (l:List Int) (x:Int):a0G l x<=l.length:=by
 induction l with
 |nil=>simp [a0G]
 |cons a l ih=>
  simp only [a0G];cases decide (a=x)<;>simp;exact ih
theorem a0W {l:List Int} {s:Int}:a0G l s<l.length↔s∈l:=by
 induction l with
 |nil=>simp [a0G]
 |cons x l ih=>
  simp only [a0G];by_cases h:x=s
  .rw [decide_eq_true h];simp [h]
  .rw [decide_eq_false h];have:¬s=x:=fun e=>h e.symm
   simp [this,ih]
theorem e0r {l:List Int} {s:Int} (h:a0G l s<l.length):l[a0G l s]? =some s:=by
 induction l with
 |nil=>simp [a0G] at h
 |cons x l ih=>
  simp only [a0G] at h⊢;by_cases e:x=s
  .rw [decide_eq_true e];simp [e]
  .rw [decide_eq_false e] at h⊢;simp only [cond_false,y0x,i1L] at h⊢;exact ih (by omega)
theorem q0o {l:List Int} (hd:l.Nodup) {i:Nat} {s:Int} (h:l[i]? =some s):a0G l s=i:=by
 have hm:s∈l:=h1S.2 ⟨i,h⟩;have h2:=e0r (a0W.2 hm);obtain ⟨_,e1⟩:=g1A.1 h;obtain ⟨_,e2⟩:=g1A.1 h2;exact (i1s hd).1 (e2.trans e1.symm)
theorem m0R {l:List Int} {s:Int}:a0U (a0G l s) s l=if a0G l s<l.length then l else l++ [s]:=by
 unfold a0U;split
 .rename_i h;have:=e0r h;refine h1s fun i=> ?_
  rw [h1r];by_cases e:a0G l s=i
  .subst e;rw [if_pos rfl,if_pos h,this]
  .rw [if_neg e]
 .rfl
theorem h0S (l:List Int):(sortI l).Perm l:=j1a l _
theorem d0F (l:List Int):(sortI l).Pairwise (fun a b=>a<=b):=by
 have h:=j1D (le:=fun x y:Int=>decide (x<=y)) (fun a b c h1 h2=>by simp only [decide_eq_true_eq] at*;omega) (fun a b=>by simp only [h1B,decide_eq_true_eq];omega) l;exact h.imp (fun {a b} h=>by simpa using h)
theorem k0e {l m:List Int} (h:l.Perm m):sortI l=sortI m:=
 j1A (le:=fun a b:Int=>a<=b) (fun a b _ _ h1 h2=>by omega) (d0F l) (d0F m) ((h0S l).trans (h.trans (h0S m).symm))
end Go.Sy
namespace Go.Sy
open Go.RowKit Go.ChangeShapes Go.WideShapes Go.Deep
inductive CK where
 |int (k:IntKind)
 |bool
 |str
def e0B:CK->Value->Prop
 | .int k,v=>∃n,v= .int k n/\(Lit.int k n).wf=true
 | .bool,v=>∃b,v= .bool b
 | .str,v=>∃s,v= .string s/\s.size<=maxLen
def AllOk:List CK->List Value->Prop
 | [],vs=>vs= []
 |c::cs,vs=>∃v r,vs=v::r/\e0B c v/\AllOk cs r
theorem AllOk.length:∀(ks:List CK) (vs:List Value),AllOk ks vs->vs.length=ks.length
 | [],vs,h=>by simp only [AllOk] at h;simp [h]
 |c::cs,vs,h=>by simp only [AllOk] at h;obtain ⟨v,r,rfl,_,h⟩:=h;simp [AllOk.length cs r h]
theorem AllOk.append:∀(a b:List CK) (vs:List Value),AllOk a (vs.take a.length)->AllOk b (vs.drop a.length)->AllOk (a++b) vs
 | [],b,vs,_,h=>by simpa using h
 |c::a,b,vs,h1,h2=>by
  cases vs with
  |nil=>simp only [y0x,List.take_nil,AllOk] at h1;obtain ⟨v,r,e,_⟩:=h1;cases e
  |cons v vs=>
   simp only [y0x,j1W,AllOk] at h1;obtain ⟨v',r,e,hc,hr⟩:=h1;simp only [List.cons.injEq] at e;obtain ⟨rfl,rfl⟩:=e;simp only [d1H,AllOk];exact ⟨v,vs,rfl,hc,AllOk.append a b vs hr (by simpa using h2)⟩
mutual
def f0K (P:Program):Nat->TypeId->Option (List CK)
 |0,_=>none
 |n+1,t=>match P.underlying t with
  |some .bool=>some [.bool]
  |some (.int k)=>some [.int k]
  |some .string=>some [.str]
  |some (.struct fs)=>match d0u P n 0 fs.toList with
   |some ks=>bif Nat.beq (P.cellsOf t) ks.length then some ks else none
   |none=>none
  |_=>none
def d0u (P:Program):Nat->Nat->List Field->Option (List CK)
 |0,_,_=>none
 |_+1,_,[]=>some []
 |n+1,o,f::r=>bif Nat.beq f.offset o then (match f0K P n f.type with
  |some a=>bif Nat.beq (P.cellsOf f.type) a.length then (match d0u P n (o+a.length) r with|some b=>some (a++b)|none=>none) else none
  |none=>none) else none
end
section
variable {H:Type} {enc:TypeId×Value->H} {P:Program} {w:World} {base:Nat} {spare:Nat->Bool} {held:Bool}
theorem k0O:∀m:Nat,(∀(t:TypeId) (ks:List CK) (fuel:Nat) (cs:List Value) (x:DataW H×List MemPlace),f0K P m t=some ks->DataW.trod enc P w base spare held fuel t cs=some x->AllOk ks cs)/\
  (∀(o:Nat) (fs:List Field) (ks:List CK) (cs:List Value) (n:Nat),d0u P m o fs=some ks->cs.length=o+ks.length->(∀f∈fs,∃y,DataW.trod enc P w base spare held n f.type ((cs.drop f.offset).take (P.cellsOf f.type))=some y)->AllOk ks (cs.drop o)):=by
 intro m;induction m with
 |zero=>exact ⟨fun t ks fuel cs x h=>by simp [f0K] at h,fun o fs ks cs n h=>by simp [d0u] at h⟩
 |succ m ih=>
  refine ⟨?_,?_⟩
  .intro t ks fuel cs x h ht;simp only [f0K] at h;split at h
   .rename_i hu;simp only [Option.some.injEq] at h;subst h;obtain ⟨b,rfl,_⟩:=DataW.trod_bool hu ht;simp only [AllOk,e0B];exact ⟨_,_,rfl,⟨b,rfl⟩,rfl⟩
   .rename_i k hu;simp only [Option.some.injEq] at h;subst h;obtain ⟨n,rfl,_,hw⟩:=DataW.trod_int hu ht;simp only [AllOk,e0B];exact ⟨_,_,rfl,⟨n,rfl,hw⟩,rfl⟩
   .rename_i hu;simp only [Option.some.injEq] at h;subst h;obtain ⟨s,rfl,_,hw⟩:=DataW.trod_string hu ht;simp only [AllOk,e0B];exact ⟨_,_,rfl,⟨s,rfl,hw⟩,rfl⟩
   .rename_i fs hu;split at h
    .rename_i ks' hks;cases hb:Nat.beq (P.cellsOf t) ks'.length with
     |false=>rw [hb] at h;simp at h
     |true=>
      rw [hb] at h;simp only [cond_true,Option.some.injEq] at h;subst h;obtain ⟨xs,n,_,_,hlen,hxl,hf⟩:=DataW.trod_struct hu ht;have:=ih.2 0 fs.toList ks' cs n hks (by rw [hlen,j0J hb];simp) (by
       intro f hf';obtain ⟨i,hi,rfl⟩:=h1A hf';have hi':i<fs.size:=by simpa using hi
       have h1:=hf i fs[i] (by simp [hi']);have h2:xs[i]? =some (xs[i]'(by omega)):=j0I (by omega);refine ⟨xs[i]'(by omega),?_⟩;have:fs.toList[i]=fs[i]:=by simp
       rw [this,h1,h2])
      simpa using this
    .cases h
   .cases h
  .intro o fs ks cs n h hlen hall;cases fs with
   |nil=>
    simp only [d0u,Option.some.injEq] at h;subst h;simp only [AllOk];exact List.drop_eq_nil_of_le (by simp at hlen;omega)
   |cons f r=>
    simp only [d0u] at h;cases ho:Nat.beq f.offset o with
    |false=>rw [ho] at h;simp at h
    |true=>
     rw [ho] at h;simp only [cond_true] at h;split at h
     .rename_i a ha;cases hb:Nat.beq (P.cellsOf f.type) a.length with
      |false=>rw [hb] at h;simp at h
      |true=>
       rw [hb] at h;simp only [cond_true] at h;split at h
       .rename_i b hbb;simp only [Option.some.injEq] at h;subst h;have eo:=j0J ho;have ea:=j0J hb;obtain ⟨y,hy⟩:=hall f (by simp);have h1:=ih.1 f.type a n _ y ha hy;rw [eo,ea] at h1;refine AllOk.append a b (cs.drop o) h1 ?_;rw [j1c];exact ih.2 (o+a.length) r b cs n hbb (by simp at hlen;omega) (fun f' hf'=>hall f' (by simp [hf']))
       .cases h
     .cases h
theorem k0f {m:Nat} {t:TypeId} {ks:List CK} {fuel:Nat} {cs:List Value} {x:DataW H×List MemPlace} (h:f0K P m t=some ks) (ht:DataW.trod enc P w base spare held fuel t cs=some x):AllOk ks cs:=(k0O m).1 t ks fuel cs x h ht
def a1S:Value->Int| .int _ n=>n|_=>0
def a1T:Value->ByteArray| .string s=>s|_=>⟨#[]⟩
def w0d:Value->Bool| .bool b=>b|_=>false
def z0i:CK->Col->Nat->Prop
 | .int k,c,n=>∃l,c= .ints k l/\l.length=n/\∀x∈l,(Lit.int k x).wf=true
 | .bool,c,n=>∃l,c= .bools l/\l.length=n
 | .str,c,n=>∃l,c= .strs l/\l.length=n/\∀x∈l,x.size<=maxLen
def c0K:List CK->List Col->Nat->Prop
 | [],l,_=>l= []
 |c::cs,l,n=>∃x r,l=x::r/\z0i c x n/\c0K cs r n
def l0K (n:Nat) (v:Nat->Value):CK->Col
 | .int k=> .ints k ((List.range n).map fun i=>a1S (v i))
 | .bool=> .bools ((List.range n).map fun i=>w0d (v i))
 | .str=> .strs ((List.range n).map fun i=>a1T (v i))
def b0d (n:Nat) (v:Nat->Nat->Value):Nat->List CK->List Col
 |_,[]=> []
 |j,c::cs=>l0K n (fun i=>v i j) c::b0d n v (j+1) cs
theorem d0G {α:Type} (n:Nat) (f:Nat->α) (d:α) (i:Nat) (h:i<n):((List.range n).map f).getD i d=f i:=by
 simp [List.getD,h]
theorem o0A {n:Nat} {v:Nat->Value} {c:CK} {g:G} {i:Nat} (hi:i<n) (h:e0B c (v i)):Rv g ((l0K n v c).at i) (v i):=by
 cases c with
 |int k=>obtain ⟨m,e,_⟩:=h;simp only [l0K,Col.at,d0G n _ _ i hi,e,a1S,Rv]
 |bool=>obtain ⟨b,e⟩:=h;simp only [l0K,Col.at,d0G n _ _ i hi,e,w0d,Rv]
 |str=>obtain ⟨s,e,_⟩:=h;simp only [l0K,Col.at,d0G n _ _ i hi,e,a1T,Rv]
theorem g0k (n:Nat) (v:Nat->Nat->Value):∀(cs:List CK) (j k:Nat),nth (b0d n v j cs) k=(nth cs k).map (fun c=>l0K n (fun i=>v i (j+k)) c)
 | [],j,k=>by simp [b0d,nth]
 |c::cs,j,0=>by simp [b0d,nth]
 |c::cs,j,k+1=>by
  simp only [b0d,nth];rw [g0k n v cs (j+1) k,show j+1+k=j+(k+1) from by omega]
theorem f0F (n:Nat) (v:Nat->Nat->Value):∀(cs:List CK) (j:Nat),(∀i,i<n->∀k c,nth cs k=some c->e0B c (v i (j+k)))->c0K cs (b0d n v j cs) n
 | [],j,_=>by simp [b0d,c0K]
 |c::cs,j,h=>by
  simp only [b0d,c0K];refine ⟨_,_,rfl,?_,f0F n v cs (j+1) (fun i hi k c' hc=>by rw [show j+1+k=j+(k+1) from by omega];exact h i hi (k+1) c' hc)⟩;have h0:∀i,i<n->e0B c (v i j):=fun i hi=>h i hi 0 c rfl
  cases c with
  |int k=>
   refine ⟨_,rfl,by simp,?_⟩;intro x hx;simp only [f1S,i1E] at hx;obtain ⟨i,hi,rfl⟩:=hx;obtain ⟨m,e,hw⟩:=h0 i hi;rw [e];exact hw
  |bool=>exact ⟨_,rfl,by simp⟩
  |str=>
   refine ⟨_,rfl,by simp,?_⟩;intro x hx;simp only [f1S,i1E] at hx;obtain ⟨i,hi,rfl⟩:=hx;obtain ⟨m,e,hw⟩:=h0 i hi;rw [e];exact hw
theorem AllOk.nth:∀(ks:List CK) (vs:List Value) (j:Nat) (c:CK),AllOk ks vs->Sy.nth ks j=some c->∃v,vs[j]? =some v/\e0B c v
 | [],vs,j,c,_,h=>by simp [Sy.nth] at h
 |k::ks,vs,j,c,h,hj=>by
  simp only [AllOk] at h;obtain ⟨v,r,rfl,h1,h2⟩:=h;cases j with
  |zero=>simp [Sy.nth] at hj;subst hj;exact ⟨v,by simp,h1⟩
  |succ j=>simp only [Sy.nth] at hj;obtain ⟨u,h3,h4⟩:=AllOk.nth ks r j c h2 hj;exact ⟨u,by simpa using h3,h4⟩
theorem l0L {c:CK} {v:Value} (h:e0B c v):v.oneCell'=true:=by
 cases c with
 |int k=>obtain ⟨n,rfl,_⟩:=h;rfl
 |bool=>obtain ⟨b,rfl⟩:=h;rfl
 |str=>obtain ⟨b,rfl,_⟩:=h;rfl
theorem d0W:∀(ks:List CK) (cols:List Col) (n:Nat),c0K ks cols n->cols.length=ks.length/\∀c∈cols,c.len=n
 | [],cols,n,h=>by simp only [c0K] at h;subst h;simp
 |k::ks,cols,n,h=>by
  simp only [c0K] at h;obtain ⟨x,r,rfl,h1,h2⟩:=h;obtain ⟨i1,i2⟩:=d0W ks r n h2;refine ⟨by simp [i1],?_⟩;intro c hc;rcases v0e.1 hc with rfl|hc
  .cases k with
   |int k=>obtain ⟨l,rfl,e,_⟩:=h1;exact e
   |bool=>obtain ⟨l,rfl,e⟩:=h1;exact e
   |str=>obtain ⟨l,rfl,e,_⟩:=h1;exact e
  .exact i2 c hc
theorem m0S {t e:TypeId} {m fuel:Nat} {v:Value} {ks:List CK} {x:DataW H×List MemPlace} (ht:P.underlying t=some (.slice e)) (hk:f0K P m e=some ks) (hlen:P.cellsOf e=ks.length) (h0:0<ks.length)
  (h:DataW.trod enc P w base (fun _=>true) held fuel t [v]=some x):
  ∃(n:Nat) (β:Base) (cols:List Col),n<=maxLen/\c0K ks cols n/\(∀(g:G) (h:Nat),g h 0=some β->Rv g (.sl h 0 0 n) v)/\(∀g:G,BlkAt g β true (.cols n (a0Z cols)) w):=by
 have dead:∀a,v= .slice a 0 0->∃(n:Nat) (β:Base) (cols:List Col),n<=maxLen/\c0K ks cols n/\(∀(g:G) (h:Nat),g h 0=some β->Rv g (.sl h 0 0 n) v)/\(∀g:G,BlkAt g β true (.cols n (a0Z cols)) w):=by
  intro a hv;have hok:c0K ks (b0d 0 (fun _ _=>undef) 0 ks) 0:=f0F _ _ _ _ (fun i hi=>absurd hi (h1E _));obtain ⟨l1,l2⟩:=d0W _ _ _ hok;refine ⟨0,⟨0,0,ks.length,0⟩,b0d 0 (fun _ _=>undef) 0 ks,z0h _,hok,?_,?_⟩
  .intro g h _;subst hv;simp only [Rv];exact ⟨a,0,rfl,m0D _,.inl rfl⟩
  .intro g;refine ⟨fun h=>by simp at h,by simp [Blk.es,(c0i _).1,l1],?_,fun i hi=>by simp only [Blk.has] at hi;omega,fun i j sv hi=>by simp only [Blk.has] at hi;omega,fun i j v hi=>by simp only [Blk.has] at hi;omega,(fun h=>by cases h),trivial⟩;intro c hc;obtain ⟨j,hj⟩:=c0s hc;rw [(c0i _).2 j] at hj;cases hn:nth (b0d 0 (fun _ _=>undef) 0 ks) j with
   |none=>rw [hn] at hj;cases hj
   |some y=>rw [hn] at hj;cases hj;exact l2 y (b0h hn)
 rcases open_slice ht h with ⟨hv,_⟩|⟨a,len,cap,mm,nn,D,Pl,hv,_,hl,hm,hmm,hx,hi⟩
 .simp only [List.cons.injEq,and_true] at hv;exact dead none hv
 .simp only [List.cons.injEq,and_true] at hv;simp only [if_true] at hmm;subst hmm;have cell:∀i,i<mm->∀j c,nth ks j=some c->∃u,w.cell? (a.add (i*ks.length+j))=some u/\e0B c u:=by
   intro i him j c hj;obtain ⟨cs',hc,ht'⟩:=hi i him;have hall:=k0f hk ht';obtain ⟨u,hu,hok⟩:=AllOk.nth ks cs' j c hall hj;rw [hlen] at hc;obtain ⟨_,hcl,hat⟩:=World.cells?_some hc;have hjl:=b0O hj;refine ⟨u,?_,hok⟩;rw [<-Go.Deep.add_add,hat j hjl];exact hu
  by_cases hz:mm=0
  .subst hz;have hl0:len=0:=by omega
   subst hl0;exact dead (some a) hv
  .subst hv;obtain ⟨c0,hc0⟩:∃c0,nth ks 0=some c0:=by
    cases ks with
    |nil=>simp at h0
    |cons c r=>exact ⟨c,rfl⟩
   obtain ⟨u0,hu0,_⟩:=cell 0 (by omega) 0 c0 hc0;simp only [Nat.zero_mul,e1f] at hu0;have ha0:a.add 0=a:=by simp [Addr.add]
   rw [ha0] at hu0;have hspot:a.spot=none:=by
    unfold World.cell? at hu0;split at hu0
    .split at hu0
     .cases hu0
     .rename_i hs;simpa using hs
    .cases hu0
   have hblk:a.block<w.heap.size:=by
    unfold World.cell? at hu0;split at hu0
    .rename_i hh;exact (e1G.1 hh).1
    .cases hu0
   let β:Base:=⟨a.block,a.off,ks.length,mm⟩
   have haddr:∀i j,a.add (i*ks.length+j)=β.addr i j:=by
    intro i j;obtain ⟨b,o,s⟩:=a;simp only at hspot;subst hspot;unfold Addr.add Base.addr;split
    .rename_i h;simp only [β];congr 1;omega
    .simp only [β];congr 1;omega
   let val:Nat->Nat->Value:=fun i j=>(w.cell? (β.addr i j)).getD undef
   have hcols:c0K ks (b0d len val 0 ks) len:=by
    refine f0F len val ks 0 (fun i hi' k c hc=> ?_);obtain ⟨u,hu,hok⟩:=cell i (by omega) k c hc;rw [haddr] at hu;simp only [val,a1J,hu,Option.getD_some];exact hok
   obtain ⟨l1,l2⟩:=d0W _ _ _ hcols;obtain ⟨u1,u2⟩:=c0i (b0d len val 0 ks);refine ⟨len,β,b0d len val 0 ks,f1X hl hm,hcols,?_,?_⟩
   .intro g h hg;simp only [Rv];refine ⟨some a,mm,rfl,hl,.inr ⟨β,hg,?_,by simp [β]⟩⟩;have:=haddr 0 0;simp only [Nat.zero_mul,e1f,ha0] at this;rw [this]
   .intro g;refine ⟨fun _=>hblk,by simp [Blk.es,u1,l1,β],?_,fun i hi=>by simp only [Blk.has] at hi;simp only [β];omega,?_,?_,(fun h=>by cases h),trivial⟩
    .intro c hc;obtain ⟨j,hj⟩:=c0s hc;rw [u2 j] at hj;cases hn:nth (b0d len val 0 ks) j with
     |none=>rw [hn] at hj;cases hj
     |some y=>rw [hn] at hj;cases hj;exact l2 y (b0h hn)
    .intro i j sv hi' hj;simp only [Blk.has] at hi';simp only [Blk.at,u2 j,g0k] at hj;cases hc:nth ks j with
     |none=>rw [hc] at hj;simp at hj
     |some c=>
      rw [hc] at hj;simp only [a1R,Option.some.injEq,a1J] at hj;subst hj;obtain ⟨u,hu,hok⟩:=cell i (by omega) j c hc;rw [haddr] at hu;have hval:val i j=u:=by simp only [val,hu,Option.getD_some]
      refine ⟨u,hu,?_⟩;rw [<-hval];exact o0A (v:=fun i=>val i j) hi' (by rw [hval];exact hok)
    .intro i j v' hi' hj hv';simp only [Blk.has] at hi';obtain ⟨c,hc⟩:∃c,nth ks j=some c:=⟨ks[j],by rw [b0a];exact j0I hj⟩;obtain ⟨u,hu,hok⟩:=cell i (by omega) j c hc;rw [haddr,hv'] at hu;cases hu;exact l0L hok
theorem z0j {g:G} {w:World}:∀(Hp:a0h),(∀p∈Hp,∃b β,p.2=some (.one true b)/\g p.1 0=some β/\BlkAt g β true b w)->Holds g Hp w/\∀h q ro b,Ent Hp h q ro b->ro=true:=by
 intro Hp hall;have key:∀h q ro b,Ent Hp h q ro b->ro=true/\∃β,g h q=some β/\BlkAt g β ro b w:=by
  intro h q ro b he;obtain ⟨hb,m1,m2⟩:=h0F Hp h q ro b he;have:∀(L:a0h),(∀p∈L,∃b β,p.2=some (.one true b)/\g p.1 0=some β/\BlkAt g β true b w)->Ent L h q ro b->ro=true/\∃β,g h q=some β/\BlkAt g β ro b w:=by
   intro L;induction L with
   |nil=>intro _ he;obtain ⟨hb,e,_⟩:=he;simp [a0s] at e
   |cons p L ih=>
    intro hL he;obtain ⟨k,o⟩:=p;rcases a0t.1 he with ⟨rfl,hb',e1,e2,e3⟩|⟨_,he⟩
    .obtain ⟨b',β,f1,f2,f3⟩:=hL (k,o) (by simp);simp only at f1 f2;rw [f1] at e1;cases e1;simp only [HB.is] at e2;obtain ⟨rfl,rfl⟩:=e2;simp only [HB.ro] at e3;subst e3;exact ⟨rfl,β,f2,f3⟩
    .exact ih (fun p hp=>hL p (by simp [hp])) he
  exact this Hp hall he
 refine ⟨⟨fun h q ro b he=>(key h q ro b he).2,?_⟩,fun h q ro b he=>(key h q ro b he).1⟩;intro h q h' q' b ro' b' β β' _ he;have:=(key h q false b he).1;cases this
end
end Go.Sy
namespace Go.Sy
open Go.RowKit Go.ChangeShapes Go.WideShapes Go.Deep
theorem h0g {α:Type} {l:List α} {n:Nat} (h:l.length=n+1):∃a r,l=a::r/\r.length=n:=by
 cases l with
 |nil=>cases h
 |cons a r=>exact ⟨a,r,rfl,by simpa using h⟩
theorem c1t {α:Type} {l:List α} (h:l.length=0):l= []:=j1B.1 h
theorem w0e {g:G} {l:List SV} {vs:Array Value} (h:Rvs g l vs.toList):Rv g (.agg l) (.agg vs):=by simp only [Rv];exact ⟨_,rfl,h⟩
theorem d0e {g:G} {x:SV} {l:List SV} {v:Value} {vs:List Value} (h:Rv g x v) (k:Rvs g l vs):Rvs g (x::l) (v::vs):=by simp only [Rvs];exact ⟨_,_,rfl,h,k⟩
theorem t0H {g:G}:Rvs g [] []:=by simp only [Rvs]
mutual
def c1u {H:Type}:DataW H->Option (List Value)
 | .lit l=>some [l.value]
 | .agg ds=>w0f ds
 |_=>none
def w0f {H:Type}:List (DataW H)->Option (List Value)
 | []=>some []
 |d::ds=>match c1u d,w0f ds with
  |some a,some b=>some (a++b)
  |_,_=>none
end
section
variable {H:Type} {enc:TypeId×Value->H} {P:Program} {w:World} {base:Nat} {spare:Nat->Bool} {held:Bool}
theorem q0p (s:ByteArray):(⟨s.data.toList.toArray⟩:ByteArray)=s:=by cases s;simp
theorem m0T:∀m:Nat,(∀(t:TypeId) (ks:List CK) (fuel:Nat) (cs:List Value) (x:DataW H×List MemPlace),f0K P m t=some ks->DataW.trod enc P w base spare held fuel t cs=some x->c1u x.1=some cs)/\
  (∀(o:Nat) (fs:List Field) (ks:List CK) (cs:List Value) (n:Nat) (xs:List (DataW H×List MemPlace)),d0u P m o fs=some ks->cs.length=o+ks.length->xs.length=fs.length->(∀(i:Nat) f,fs[i]? =some f->DataW.trod enc P w base spare held n f.type ((cs.drop f.offset).take (P.cellsOf f.type))=xs[i]?)->w0f (xs.map (·.1))=some (cs.drop o)):=by
 intro m;induction m with
 |zero=>exact ⟨fun t ks fuel cs x h=>by simp [f0K] at h,fun o fs ks cs n xs h=>by simp [d0u] at h⟩
 |succ m ih=>
  refine ⟨?_,?_⟩
  .intro t ks fuel cs x h ht;simp only [f0K] at h;split at h
   .rename_i hu;obtain ⟨b,rfl,rfl⟩:=DataW.trod_bool hu ht;rfl
   .rename_i k hu;obtain ⟨n,rfl,rfl,hw⟩:=DataW.trod_int hu ht;rfl
   .rename_i hu;obtain ⟨s,rfl,rfl,hw⟩:=DataW.trod_string hu ht;simp only [c1u,Lit.value,q0p]
   .rename_i fs hu;split at h
    .rename_i ks' hks;cases hb:Nat.beq (P.cellsOf t) ks'.length with
     |false=>rw [hb] at h;simp at h
     |true=>
      rw [hb] at h;simp only [cond_true,Option.some.injEq] at h;subst h;obtain ⟨xs,n,_,rfl,hlen,hxl,hf⟩:=DataW.trod_struct hu ht;have:=ih.2 0 fs.toList ks' cs n xs hks (by rw [hlen,j0J hb];simp) (by simpa using hxl) (by
       intro i f hf';exact hf i f (by simpa using hf'))
      simpa [c1u] using this
    .cases h
   .cases h
  .intro o fs ks cs n xs h hlen hxl hall;cases fs with
   |nil=>
    simp only [d0u,Option.some.injEq] at h;subst h;cases xs with
    |nil=>
     simp only [h1W,w0f,Option.some.injEq];exact (List.drop_eq_nil_of_le (by simp at hlen;omega)).symm
    |cons x xs=>simp at hxl
   |cons f r=>
    cases xs with
    |nil=>simp at hxl
    |cons x xs=>
     simp only [d0u] at h;cases ho:Nat.beq f.offset o with
     |false=>rw [ho] at h;simp at h
     |true=>
      rw [ho] at h;simp only [cond_true] at h;split at h
      .rename_i a ha;cases hb:Nat.beq (P.cellsOf f.type) a.length with
       |false=>rw [hb] at h;simp at h
       |true=>
        rw [hb] at h;simp only [cond_true] at h;split at h
        .rename_i b hbb;simp only [Option.some.injEq] at h;subst h;have eo:=j0J ho;have ea:=j0J hb;have h0:=hall 0 f rfl;simp only [i1d] at h0;have h1:=ih.1 f.type a n _ x ha h0;have h2:=ih.2 (o+a.length) r b cs n xs hbb (by simp at hlen;omega) (by simpa using hxl) (fun i f' hf'=>by
          have:=hall (i+1) f' (by simpa using hf');simpa using this)
         simp only [e1F,w0f,h1,h2,Option.some.injEq,eo,ea];rw [<-j1c,i1o]
        .cases h
      .cases h
theorem z0k {m:Nat} {t:TypeId} {ks:List CK} {fuel:Nat} {cs:List Value} {x:DataW H×List MemPlace} (h:f0K P m t=some ks) (ht:DataW.trod enc P w base spare held fuel t cs=some x):c1u x.1=some cs:=(m0T m).1 t ks fuel cs x h ht
theorem o0B {β:Base} {n:Nat} {ks:List CK} {val:Nat->Nat->Value} (hes:β.es=ks.length) (hcap:n<=β.cap) (hlt:0<β.cap->β.blk<w.heap.size) (cell:∀i,i<n->∀j c,nth ks j=some c->w.cell? (β.addr i j)=some (val i j)/\e0B c (val i j)) (g:G):
  BlkAt g β true (.cols n (a0Z (b0d n val 0 ks))) w:=by
 have hcols:c0K ks (b0d n val 0 ks) n:=by
  refine f0F n val ks 0 (fun i hi' k c hc=> ?_);rw [a1J];exact (cell i hi' k c hc).2
 obtain ⟨l1,l2⟩:=d0W _ _ _ hcols;obtain ⟨u1,u2⟩:=c0i (b0d n val 0 ks);refine ⟨hlt,by simp [Blk.es,u1,l1,hes],?_,fun i hi=>by simp only [Blk.has] at hi;omega,?_,?_,(fun h=>by cases h),trivial⟩
 .intro c hc;obtain ⟨j,hj⟩:=c0s hc;rw [u2 j] at hj;cases hn:nth (b0d n val 0 ks) j with
  |none=>rw [hn] at hj;cases hj
  |some y=>rw [hn] at hj;cases hj;exact l2 y (b0h hn)
 .intro i j sv hi' hj;simp only [Blk.has] at hi';simp only [Blk.at,u2 j,g0k] at hj;cases hc:nth ks j with
  |none=>rw [hc] at hj;simp at hj
  |some c=>
   rw [hc] at hj;simp only [a1R,Option.some.injEq,a1J] at hj;subst hj;obtain ⟨hu,hok⟩:=cell i hi' j c hc;exact ⟨_,hu,o0A (v:=fun i=>val i j) hi' hok⟩
 .intro i j v' hi' hj hv';simp only [Blk.has] at hi';obtain ⟨c,hc⟩:∃c,nth ks j=some c:=⟨ks[j]'(by omega),by rw [b0a];exact j0I (by omega)⟩;obtain ⟨hu,hok⟩:=cell i hi' j c hc;rw [hv'] at hu;cases hu;exact l0L hok
def c1v {H:Type} (ds:List (DataW H)) (i j:Nat):Value:=(((ds[i]?).bind c1u).getD []).getD j undef
theorem h0T {nm:String} {v:Nat} {t e:TypeId} {m fuel n:Nat} {cs:Array Value} {ks:List CK} {ds:List (DataW H)} {p:List MemPlace} {cols:List Col} (hg:P.globalNamed nm=some v) (hv:w.var? P nm=some cs)
  (ht:P.underlying t=some (.array n e)) (hk:f0K P m e=some ks) (hlen:P.cellsOf e=ks.length) (hs:P.cellsOf t=n*ks.length) (h0:0<n*ks.length)
  (h:DataW.trod enc P w base spare held fuel t cs.toList=some (.agg ds,p)) (hc:b0d n (c1v ds) 0 ks=cols) (g:G):BlkAt g ⟨v,0,ks.length,n⟩ true (.cols n (a0Z cols)) w:=by
 obtain ⟨xs,m1,_,hx,hl,hxl,hel⟩:=DataW.trod_array ht h;simp only [Prod.mk.injEq,DataW.agg.injEq] at hx;have hcl:cs.size=n*ks.length:=by simpa [hs] using hl
 have hcell:=World.var?_cell (w:=w) hg hv;have hblk:v<w.heap.size:=by
  have:=hcell 0;rw [u0W (by omega)] at this;unfold World.cell? at this;split at this
  .rename_i hh;exact (e1G.1 hh).1
  .cases this
 have key:∀i,i<n->∃y,xs[i]? =some y/\c1u y.1=some ((cs.toList.drop (i*ks.length)).take ks.length)/\AllOk ks ((cs.toList.drop (i*ks.length)).take ks.length):=by
  intro i hi;have h1:=hel i hi;have h2:xs[i]? =some (xs[i]'(by omega)):=j0I (by omega);rw [h2,hlen] at h1;exact ⟨_,h2,z0k hk h1,k0f hk h1⟩
 subst hc;refine o0B rfl (m0D _) (fun _=>hblk) ?_ g;intro i hi j c hj;obtain ⟨y,e1,e2,e3⟩:=key i hi;obtain ⟨u,hu,hok⟩:=AllOk.nth ks _ j c e3 hj;have hjl:=b0O hj;have hd:c1v ds i j=u:=by
  unfold c1v;rw [hx.1,v0g,e1];simp only [a1R,Option.bind_some,e2,Option.getD_some,List.getD,hu]
 rw [hd];refine ⟨?_,hok⟩;have:Base.addr ⟨v,0,ks.length,n⟩ i j=⟨v,i*ks.length+j,none⟩:=by simp [Base.addr]
 rw [this,hcell];rw [h1F,if_pos hjl,i1G] at hu;simpa using hu
theorem z0l {g:G} {Hp:a0h} {l:r0x} (hl:∀q,(a0F l q).isSome=true->∃β,g 0 q=some β/\BlkAt g β true (b1N l q) w) (hall:∀p∈Hp,p.1≠0/\∃b β,p.2=some (.one true b)/\g p.1 0=some β/\BlkAt g β true b w):
  Holds g ((0,some (GB l))::Hp) w/\∀h q ro b,Ent ((0,some (GB l))::Hp) h q ro b->ro=true:=by
 obtain ⟨h1,h2⟩:=z0j (g:=g) (w:=w) Hp (fun p hp=>(hall p hp).2);have ro:∀h q ro b,Ent ((0,some (GB l))::Hp) h q ro b->ro=true:=by
  intro h q ro b he;rcases a0t.1 he with ⟨rfl,hb,e1,e2,e3⟩|⟨_,he⟩
  .cases e1;exact e3.symm
  .exact h2 h q ro b he
 refine ⟨⟨?_,?_⟩,ro⟩
 .intro h q r b he;rcases a0t.1 he with ⟨rfl,hb,e1,e2,e3⟩|⟨_,he⟩
  .cases e1;obtain ⟨d,rfl⟩:=e2;simp only [GB,HB.ro] at e3;subst e3;exact hl q d
  .exact h1.blk h q r b he
 .intro h q h' q' b ro' b' β β' _ he;have:=ro h q false b he;cases this
end
end Go.Sy
namespace Go.Sy
open Go.RowKit
structure RD where
 old:Nat
 f:Nat->Blk
def rdR (n m:Nat) (D:List RD) (h q:Nat):Option (Nat×Nat):=if n<=h/\q<m then (match nth D (h-n) with|some d=>some (d.old,q)|none=>none) else none
def rdN (n m:Nat):Nat->List RD->a0h
 |_,[]=> []
 |i,d::r=>(n+i,some (.fam false (fun x=>x<m) d.f))::rdN n m (i+1) r
def rdr:List RD->List Nat
 | []=> []
 |d::r=>d.old::rdr r
theorem m0U:∀{D:List RD} {i:Nat} {d:RD},nth D i=some d->d.old∈rdr D
 | [],i,d,h=>by simp [nth] at h
 |x::D,0,d,h=>by simp only [nth,Option.some.injEq] at h;subst h;simp [rdr]
 |x::D,i+1,d,h=>by
  have:=m0U (D:=D) (i:=i) h;simp [rdr,this]
theorem w0g {n m:Nat}:∀{D:List RD} {i h q:Nat} {ro:Bool} {b:Blk},Ent (rdN n m i D) h q ro b->∃j d,h=n+(i+j)/\nth D j=some d/\q<m/\ro=false/\b=d.f q
 | [],i,h,q,ro,b,he=>(j0H he).elim
 |x::D,i,h,q,ro,b,he=>by
  simp only [rdN] at he;rcases a0t.1 he with ⟨rfl,hb2,e1,e2,e3⟩|⟨_,he⟩
  .cases e1;exact ⟨0,x,by omega,rfl,e2.1,e3.symm,e2.2⟩
  .obtain ⟨j,d,h1,h2,h3⟩:=w0g he;exact ⟨j+1,d,by omega,h2,h3⟩
theorem r0X {n m:Nat}:∀{D:List RD} {i x:Nat},x∈a0n (rdN n m i D)->n<=x
 | [],i,x,h=>by simp [rdN,a0n] at h
 |d::D,i,x,h=>by
  simp only [rdN,a0n,v0e] at h;rcases h with h|h
  .omega
  .exact r0X h
theorem h0h {n m:Nat} {D:List RD} {h q:Nat} {p:Nat×Nat} (e:rdR n m D h q=some p):n<=h/\q<m/\∃d,nth D (h-n)=some d/\p=(d.old,q):=by
 unfold rdR at e;split at e
 .rename_i c;split at e
  .rename_i d hd;simp only [Option.some.injEq] at e;exact ⟨c.1,c.2,d,hd,e.symm⟩
  .cases e
 .cases e
theorem i0q {n m i q:Nat} {D:List RD} {d:RD} (hd:nth D i=some d) (hq:q<m):rdR n m D (n+i) q=some (d.old,q):=by
 unfold rdR;rw [if_pos ⟨by omega,hq⟩,i1M,hd]
def g1c (H:a0h) (n m th:Nat) (R:Nat->Nat->Option (Nat×Nat)):List RD->Prop
 | []=>True
 |d::r=>(d.old≠th/\∃dom f,a0s H d.old=some (.fam false dom f)/\(∀q,q<m->dom q/\BLe n R (f q) (d.f q)))/\g1c H n m th R r
theorem q0q {H:a0h} {n m th:Nat} {R:Nat->Nat->Option (Nat×Nat)}:∀{D:List RD} {i:Nat} {d:RD},g1c H n m th R D->nth D i=some d->d.old≠th/\∃dom f,a0s H d.old=some (.fam false dom f)/\(∀q,q<m->dom q/\BLe n R (f q) (d.f q))
 | [],i,d,_,e=>by simp [nth] at e
 |x::D,0,d,h,e=>by simp only [nth,Option.some.injEq] at e;subst e;exact h.1
 |x::D,i+1,d,h,e=>q0q (D:=D) (i:=i) h.2 e
theorem a1U:∀{D:List RD},(rdr D).Nodup->∀{i j:Nat} {d e:RD},nth D i=some d->nth D j=some e->d.old=e.old->i=j
 | [],_,i,j,d,e,h,_=>by simp [nth] at h
 |x::D,hn,i,j,d,e,h1,h2=>by
  simp only [rdr] at hn;obtain ⟨n1,n2⟩:=h1t.1 hn;cases i with
  |zero=>
   simp only [nth,Option.some.injEq] at h1;subst h1;cases j with
   |zero=>exact fun _=>rfl
   |succ j=>
    have m:=m0U (D:=D) (i:=j) h2;exact fun q=>absurd (by rw [q];exact m) n1
  |succ i=>
   have m:=m0U (D:=D) (i:=i) h1;cases j with
   |zero=>
    simp only [nth,Option.some.injEq] at h2;subst h2;exact fun q=>absurd (by rw [<-q];exact m) n1
   |succ j=>exact fun q=>by rw [a1U (D:=D) n2 (i:=i) (j:=j) h1 h2 q]
theorem o0C {H:a0h} {n m th:Nat} {tb0 tb:Blk} (D:List RD) (hth:th<n) (ht:a0s H th=some (.one false tb0)) (hle:BLe n (rdR n m D) tb0 tb) (hD:g1c H n m th (rdR n m D) D) (hdist:i0V (rdr D)=true):
  Relab H n (rdR n m D) (fun _=>0) ((th,some (.one false tb))::rdN n m 0 D) (rdr D) D.length:=by
 have hnd:=m0H hdist;have key:∀{h q:Nat} {ro:Bool} {b:Blk},Ent ((th,some (HB.one false tb))::rdN n m 0 D) h q ro b->(h=th/\q=0/\ro=false/\b=tb)\/∃j d,h=n+j/\nth D j=some d/\q<m/\ro=false/\b=d.f q:=by
  intro h q ro b he;rcases a0t.1 he with ⟨rfl,hb2,e1,e2,e3⟩|⟨_,he⟩
  .cases e1;exact .inl ⟨rfl,e2.1,e3.symm,e2.2⟩
  .obtain ⟨j,d,h1,h2⟩:=w0g he;exact .inr ⟨j,d,by omega,h2⟩
 refine ⟨?_,?_,?_,?_,?_⟩
 .intro h q p h1 h2;obtain ⟨_,_,d,h3,_⟩:=h0h h2;have:=r0E h3;omega
 .intro h q ro b he;rcases key he with ⟨_,_,e,_⟩|⟨_,_,_,_,_,e,_⟩<;>exact e
 .intro h q b' he;rcases key he with ⟨rfl,rfl,_,rfl⟩|⟨j,d,rfl,hd,hq,_,rfl⟩
  .exact .inl ⟨h,0,tb0,.inl ⟨hth,rfl,rfl⟩,⟨_,ht,⟨rfl,rfl⟩,rfl⟩,hle⟩
  .obtain ⟨_,dom,f,g1,g2⟩:=q0q hD hd;exact .inl ⟨d.old,q,f q,.inr ⟨by omega,i0q hd hq⟩,⟨_,g1,⟨(g2 q hq).1,rfl⟩,rfl⟩,(g2 q hq).2⟩
 .intro h q p h1 h2;obtain ⟨_,_,d,h3,rfl⟩:=h0h h2;exact m0U h3
 .intro h q h' q' h0 q0 hk hk' h1 h2;have kk:∀{x:Nat},x∈a0n ((th,some (HB.one false tb))::rdN n m 0 D)->x=th\/n<=x:=by
   intro x hx;simp only [a0n,v0e] at hx;rcases hx with hx|hx
   .exact .inl hx
   .exact .inr (r0X hx)
  have no:∀{x y:Nat},n<=x->rdR n m D x y=some (h0,q0)->h0≠th:=by
   intro x y hx e;obtain ⟨_,_,d,h3,h4⟩:=h0h e;obtain ⟨g1,_⟩:=q0q hD h3;cases h4;exact g1
  rcases h1 with ⟨a1,rfl,rfl⟩|⟨a1,a2⟩
  .rcases h2 with ⟨b1,e1,e2⟩|⟨b1,b2⟩
   .exact ⟨e1,e2⟩
   .exfalso;have e:h0=th:=by rcases kk hk with e|e<;>omega
    exact no b1 b2 e
  .rcases h2 with ⟨b1,rfl,rfl⟩|⟨b1,b2⟩
   .exfalso;have e:h0=th:=by rcases kk hk' with e|e<;>omega
    exact no a1 a2 e
   .obtain ⟨_,_,d,h3,h4⟩:=h0h a2;obtain ⟨_,_,d',h3',h4'⟩:=h0h b2;cases h4;simp only [Prod.mk.injEq] at h4';have:=a1U hnd h3 h3' h4'.1;exact ⟨by omega,h4'.2⟩
end Go.Sy
namespace Go.Sy
open Go.RowKit
theorem l0O {g:G} {w w':World} {n n0 m:Nat} {H H0 N K:a0h} {r0 r1:SV} {v:Value} {R:Nat->Nat->Option (Nat×Nat)} {E:Nat->Nat} {dr:List Nat} (ho:Out g w n H (a0f r0 H0 n0) v w') (L:Relab H0 n0 R E N dr m) (hr:SLe n0 R r0 r1)
  (hK:∀h∈a0n K,a0s K h=a0s H0 h/\¬h∈a0n N/\¬h∈dr):Out g w n H (a0f r1 (K++N) (n0+m)) v w':=by
 obtain ⟨sv,H1,n1,g',⟨rfl,rfl,rfl⟩,hn,hup,hkeep,hv,hH,hrw,hfr,hown⟩:=ho;obtain ⟨g1,hg1⟩:∃g1:G,g1=fun h q=>if h<n1 then g' h q else if h<n1+m then (match R h q with|some p=>g' p.1 p.2|none=>some ⟨0,0,E h,0⟩) else none:=⟨_,rfl⟩
 have old:∀h q,h<n1->g1 h q=g' h q:=fun h q hh=>by rw [hg1];simp only;rw [if_pos hh]
 have hle:G.le g' g1:=by
  intro h q β hb;have hh:h<n1:=by
   refine i1u fun hx=> ?_
   rw [hup h q hx] at hb;cases hb
  rw [old h q hh];exact hb
 have hR:∀h q p,n1<=h->R h q=some p->∀β,g' p.1 p.2=some β->g1 h q=some β:=by
  intro h q p h1 h2 β hb;have:=L.lim h q p h1 h2;rw [hg1];simp only;rw [if_neg (by omega),if_pos this,h2];exact hb
 have ent:∀h q ro b',Ent (K++N) h q ro b'->(h∈a0n N/\Ent N h q ro b')\/(¬h∈a0n N/\¬h∈dr/\Ent H1 h q ro b'):=by
  rintro h q ro b' ⟨hb,e1,e2⟩;rw [a0N] at e1;by_cases hk:h∈a0n K
  .rw [if_pos hk] at e1;obtain ⟨k1,k2,k3⟩:=hK h hk;exact .inr ⟨k2,k3,hb,by rw [<-k1];exact e1,e2⟩
  .rw [if_neg hk] at e1;by_cases hk2:h∈a0n N
   .exact .inl ⟨hk2,hb,e1,e2⟩
   .rw [o0b N h hk2] at e1;cases e1
 have lt:∀h q ro b,Ent H1 h q ro b->h<n1:=by
  intro h q ro b he;obtain ⟨β,hb,_⟩:=hH.blk h q ro b he;refine i1u fun hx=> ?_
  rw [hup h q hx] at hb;cases hb
 have src:∀h q ro b',Ent (K++N) h q ro b'->∃β,g1 h q=some β/\BlkAt g1 β ro b' w'/\(0<β.cap->∃h0 q0 b0,Ent H1 h0 q0 ro b0/\g' h0 q0=some β/\d1T n1 R h q h0 q0/\(h∈a0n N\/(h0=h/\q0=q/\¬h∈dr/\¬h∈a0n N))):=by
  intro h q ro b' he;rcases ent h q ro b' he with ⟨hk,heN⟩|⟨hk,hd,heH⟩
  .have hro:=L.ro h q ro b' heN;subst hro;rcases L.src h q b' heN with ⟨h0,q0,b0,f1,f2,f3⟩|⟨f1,f2,cs,rfl,f3,f4⟩
   .obtain ⟨β,hb,hB⟩:=hH.blk h0 q0 false b0 f2;refine ⟨β,?_,a1G hle hR hB f3,fun _=>⟨h0,q0,b0,f2,hb,f1,.inl hk⟩⟩;rcases f1 with ⟨x1,rfl,rfl⟩|⟨x1,x2⟩
    .rw [old _ _ x1];exact hb
    .exact hR h q _ x1 x2 β hb
   .refine ⟨⟨0,0,E h,0⟩,?_,?_,fun hc=>by simp at hc⟩
    .rw [hg1];simp only;rw [if_neg (by omega),if_pos f1.2,f2]
    .exact ⟨fun h=>by simp at h,f4,h0L cs f3,fun i hi=>by simp only [Blk.has] at hi;omega,fun i j sv hi=>by simp only [Blk.has] at hi;omega,fun i j v hi=>by simp only [Blk.has] at hi;omega,fun _ i j hi=>by simp at hi,trivial⟩
  .obtain ⟨β,hb,hB⟩:=hH.blk h q ro b' heH;have hl:=lt h q ro b' heH;exact ⟨β,by rw [old h q hl];exact hb,b0k hB hle (m0D _) (fun _=>rfl),fun _=>⟨h,q,b',heH,hb,.inl ⟨hl,rfl,rfl⟩,.inr ⟨rfl,rfl,hd,hk⟩⟩⟩
 refine ⟨r1,K++N,n1+m,g1,⟨rfl,rfl,rfl⟩,by omega,?_,fun h q hh=>by rw [old h q (by omega)];exact hkeep h q hh,i0D hle hR hr hv,⟨?_,?_⟩,?_,hfr,?_⟩
 .intro h q hh;rw [hg1];simp only;rw [if_neg (by omega),if_neg (by omega)]
 .intro h q ro b' he;obtain ⟨β,h1,h2,_⟩:=src h q ro b' he;exact ⟨β,h1,h2⟩
 .intro h q h' q' b ro' b' β β' hne he he' hg hg' hc hc';obtain ⟨β1,k1,_,k2⟩:=src h q false b he;obtain ⟨β2,k3,_,k4⟩:=src h' q' ro' b' he';rw [hg] at k1;cases k1;rw [hg'] at k3;cases k3;obtain ⟨h0,q0,b0,x1,x2,x3,x4⟩:=k2 hc;obtain ⟨h0',q0',b0',y1,y2,y3,y4⟩:=k4 hc';refine hH.sep h0 q0 h0' q0' b0 ro' b0' β β' ?_ x1 y1 x2 y2 hc hc';rintro ⟨rfl,rfl⟩;rcases x4 with x4|⟨rfl,rfl,x5,x6⟩
  .rcases y4 with y4|⟨rfl,rfl,y5,y6⟩
   .exact hne (L.inj h q h' q' h0 q0 x4 y4 x3 y3)
   .rcases x3 with ⟨z1,rfl,rfl⟩|⟨z1,z2⟩
    .exact y6 x4
    .exact y5 (L.took h q _ z1 z2)
  .rcases y4 with y4|⟨rfl,rfl,y5,y6⟩
   .rcases y3 with ⟨z1,rfl,rfl⟩|⟨z1,z2⟩
    .exact x6 y4
    .exact x5 (L.took h' q' _ z1 z2)
   .exact hne ⟨rfl,rfl⟩
 .intro h q ro b he;rcases ent h q ro b he with ⟨_,e⟩|⟨_,_,e⟩
  .exact L.ro h q ro b e
  .exact hrw h q ro b e
 .intro h q b β he hg hc;obtain ⟨β1,k1,_,k2⟩:=src h q false b he;rw [hg] at k1;cases k1;obtain ⟨h0,q0,b0,x1,x2,_⟩:=k2 hc;exact hown h0 q0 b0 β x1 x2 hc
theorem o0N {P:Program} {n n0 m:Nat} {f:FuncId} {args:List SV} {H H0 N:a0h} {r0 r1:SV} {R:Nat->Nat->Option (Nat×Nat)} {E:Nat->Nat} {dr:List Nat} (K:a0h) (h:FC P n f args H (a0f r0 H0 n0)) (L:Relab H0 n0 R E N dr m) (hr:SLe n0 R r0 r1)
  (hK:∀h∈a0n K,a0s K h=a0s H0 h/\¬h∈a0n N/\¬h∈dr):FC P n f args H (a0f r1 (K++N) (n0+m)):=by
 rcases h with h|h
 .left;refine ⟨h.1,fun g w vals hg hu hH hv=> ?_⟩;exact (h.2 g w vals hg hu hH hv).mono fun e w' ⟨v,he,ho⟩=>⟨v,he,l0O ho L hr hK⟩
 .right;intro g w vals hg hu hH hv;obtain ⟨v,w',hr2,ho⟩:=h g w vals hg hu hH hv;exact ⟨v,w',hr2,l0O ho L hr hK⟩
end Go.Sy
namespace Go.Sy
open Go.RowKit
structure SD where
 src:Nat->Nat×Nat
 f:Nat->Blk
def sdR (n m:Nat) (D:List SD) (h q:Nat):Option (Nat×Nat):=if n<=h/\q<m then (match nth D (h-n) with|some d=>some (d.src q)|none=>none) else none
def sdN (n m:Nat):Nat->List SD->a0h
 |_,[]=> []
 |i,d::r=>(n+i,some (.fam false (fun x=>x<m) d.f))::sdN n m (i+1) r
theorem w0P {n m:Nat}:∀{D:List SD} {i h q:Nat} {ro:Bool} {b:Blk},Ent (sdN n m i D) h q ro b->∃j d,h=n+(i+j)/\nth D j=some d/\q<m/\ro=false/\b=d.f q
 | [],i,h,q,ro,b,he=>(j0H he).elim
 |x::D,i,h,q,ro,b,he=>by
  simp only [sdN] at he;rcases a0t.1 he with ⟨rfl,hb2,e1,e2,e3⟩|⟨_,he⟩
  .cases e1;exact ⟨0,x,by omega,rfl,e2.1,e3.symm,e2.2⟩
  .obtain ⟨j,d,h1,h2,h3⟩:=w0P he;exact ⟨j+1,d,by omega,h2,h3⟩
theorem s0k {n m:Nat}:∀{D:List SD} {i x:Nat},x∈a0n (sdN n m i D)->n<=x
 | [],i,x,h=>by simp [sdN,a0n] at h
 |d::D,i,x,h=>by
  simp only [sdN,a0n,v0e] at h;rcases h with h|h
  .omega
  .exact s0k h
theorem i0J {n m:Nat} {D:List SD} {h q:Nat} {p:Nat×Nat} (e:sdR n m D h q=some p):n<=h/\q<m/\∃d,nth D (h-n)=some d/\p=d.src q:=by
 unfold sdR at e;split at e
 .rename_i c;split at e
  .rename_i d hd;simp only [Option.some.injEq] at e;exact ⟨c.1,c.2,d,hd,e.symm⟩
  .cases e
 .cases e
theorem s0l {n m i q:Nat} {D:List SD} {d:SD} (hd:nth D i=some d) (hq:q<m):sdR n m D (n+i) q=some (d.src q):=by
 unfold sdR;rw [if_pos ⟨by omega,hq⟩,i1M,hd]
theorem w0Q {H:a0h} {n m th:Nat} {tb0 tb:Blk} (D:List SD) (dr:List Nat) (hth:th<n) (ht:a0s H th=some (.one false tb0)) (hle:BLe n (sdR n m D) tb0 tb)
  (hD:∀i d,nth D i=some d->∀q,q<m->(d.src q).1≠th/\(d.src q).1∈dr/\∃b,Ent H (d.src q).1 (d.src q).2 false b/\BLe n (sdR n m D) b (d.f q))
  (hinj:∀i j d e q q',nth D i=some d->nth D j=some e->q<m->q'<m->d.src q=e.src q'->i=j/\q=q'):
  Relab H n (sdR n m D) (fun _=>0) ((th,some (.one false tb))::sdN n m 0 D) dr D.length:=by
 have key:∀{h q:Nat} {ro:Bool} {b:Blk},Ent ((th,some (HB.one false tb))::sdN n m 0 D) h q ro b->(h=th/\q=0/\ro=false/\b=tb)\/∃j d,h=n+j/\nth D j=some d/\q<m/\ro=false/\b=d.f q:=by
  intro h q ro b he;rcases a0t.1 he with ⟨rfl,hb2,e1,e2,e3⟩|⟨_,he⟩
  .cases e1;exact .inl ⟨rfl,e2.1,e3.symm,e2.2⟩
  .obtain ⟨j,d,h1,h2⟩:=w0P he;exact .inr ⟨j,d,by omega,h2⟩
 have fr:∀{h q:Nat} {p:Nat×Nat},sdR n m D h q=some p->p.1≠th/\p.1∈dr:=by
  intro h q p e;obtain ⟨_,hq,d,h3,rfl⟩:=i0J e;obtain ⟨g1,g2,_⟩:=hD _ d h3 q hq;exact ⟨g1,g2⟩
 refine ⟨?_,?_,?_,?_,?_⟩
 .intro h q p h1 h2;obtain ⟨_,_,d,h3,_⟩:=i0J h2;have:=r0E h3;omega
 .intro h q ro b he;rcases key he with ⟨_,_,e,_⟩|⟨_,_,_,_,_,e,_⟩<;>exact e
 .intro h q b' he;rcases key he with ⟨rfl,rfl,_,rfl⟩|⟨j,d,rfl,hd,hq,_,rfl⟩
  .exact .inl ⟨h,0,tb0,.inl ⟨hth,rfl,rfl⟩,⟨_,ht,⟨rfl,rfl⟩,rfl⟩,hle⟩
  .obtain ⟨_,_,b,g2,g3⟩:=hD j d hd q hq;exact .inl ⟨(d.src q).1,(d.src q).2,b,.inr ⟨by omega,s0l hd hq⟩,g2,g3⟩
 .intro h q p h1 h2;exact (fr h2).2
 .intro h q h' q' h0 q0 hk hk' h1 h2;have kk:∀{x:Nat},x∈a0n ((th,some (HB.one false tb))::sdN n m 0 D)->x=th\/n<=x:=by
   intro x hx;simp only [a0n,v0e] at hx;rcases hx with hx|hx
   .exact .inl hx
   .exact .inr (s0k hx)
  rcases h1 with ⟨a1,rfl,rfl⟩|⟨a1,a2⟩
  .rcases h2 with ⟨b1,e1,e2⟩|⟨b1,b2⟩
   .exact ⟨e1,e2⟩
   .exfalso;have e:h0=th:=by rcases kk hk with e|e<;>omega
    exact (fr b2).1 e
  .rcases h2 with ⟨b1,rfl,rfl⟩|⟨b1,b2⟩
   .exfalso;have e:h0=th:=by rcases kk hk' with e|e<;>omega
    exact (fr a2).1 e
   .obtain ⟨_,hq,d,h3,h4⟩:=i0J a2;obtain ⟨_,hq',d',h3',h4'⟩:=i0J b2;obtain ⟨x1,x2⟩:=hinj _ _ d d' q q' h3 h3' hq hq' (h4.symm.trans h4');exact ⟨by omega,x2⟩
end Go.Sy
namespace Go.Sy
open Go.RowKit
def e1R (P:Program) (t:TypeId) (name:String):Option FuncId:=
 match P.info? t,P.underlying t with
 |some _,some (.pointer _)=>none
 |some ti,some _=>(match ti.methods.find? (·.name==name) with
  |some m=>(match m.path.toList,m.func with
   | [],some (f,false)=>some f
   |_,_=>none)
  |none=>none)
 |_,_=>none
theorem c0C {P:Program} {t:TypeId} {name:String} {f:FuncId} (h:e1R P t name=some f):n0q P t name f:=by
 unfold e1R at h;split at h
 .cases h
 .rename_i ti d hnp hi hd;split at h
  .rename_i m hm;split at h
   .rename_i f' hp hf;simp only [Option.some.injEq] at h;subst h;intro v w;have e:P.types.size+Made.depth=(P.types.size+(Made.depth-1))+1:=by unfold Made.depth;omega
    rw [e];have hti:(typeInfo t).run P w= .ok ti w:=by simp [typeInfo,hi]
    have hun:(underlying t).run P w= .ok d w:=run_underlying hd w;have hpe:m.path= #[]:=by apply Array.ext';simpa using hp
    unfold method;simp only [x0G,hti,o0z,hm,hp,follow,b1T,hf,receiverAt,hun];cases d<;>first|(exact absurd rfl (hnp _))|simp [Place.get,hpe]
   .cases h
  .cases h
 .cases h
end Go.Sy
namespace Go.Sy
open Go.RowKit
section
variable {P:Program}
def e0w (L:List ByteArray) (sep:ByteArray):ByteArray:=⟨(Lib.join (L.map (·.data.toList)) sep.data.toList).toArray⟩
def g1k (P:Program) (f:FuncId):Prop:=∀(bk o c:Nat) (xs:List ByteArray) (sep:ByteArray) (w:World),(∀(j:Nat) x,xs[j]? =some x->w.cell? ⟨bk,o+j,none⟩=some (.string x))->bk<w.heap.size->xs.length<=140737488355328->xs.length<=c->(Lib.join (xs.map (·.data.toList)) sep.data.toList).length<=140737488355328->
 Calls P f #[.slice (some ⟨bk,o,none⟩) xs.length c,.string sep] w fun e w'=>e= .returned (.string ⟨(Lib.join (xs.map (·.data.toList)) sep.data.toList).toArray⟩)/\Below w.heap.size w w'
theorem d1r {f:FuncId} (hj:g1k P f) (hbd:d0M P f) (n:Nat) (L:List ByteArray) (sep:ByteArray) (h0:0<n) (hN:n<=1000000) (hlen:(e0w L sep).size<=140737488355328):
  FC P 2 f [.sl 1 0 0 n,.str sep] [(1,some (.one true (.cols n [.sc (.strs L)])))] (a0f (.str (e0w L sep)) [] 2):=by
 refine Or.inl ⟨hbd,fun g w vals hg hu hH hvs=> ?_⟩;obtain ⟨v,vs',rfl,hv0,hv1⟩:=hvs;obtain ⟨v2,vs2,rfl,hv2,hv3⟩:=hv1;simp only [Rvs] at hv3;subst hv3;simp only [Rv] at hv2;subst hv2;obtain ⟨a,c,rfl,hnc,hc⟩:=rsv hv0;have hE:Ent [(1,some (HB.one true (Blk.cols n [.sc (.strs L)])))] 1 0 true (Blk.cols n [.sc (.strs L)]):=⟨_,rfl,⟨rfl,rfl⟩,rfl⟩;obtain ⟨β,hgβ,hB⟩:=hH.blk 1 0 true _ hE;have hL:L.length=n:=hB.len _ (y0E.2 rfl);have hes:β.es=1:=hB.es;obtain hc|⟨β',hg',ha,hcap⟩:=hc
 .omega
 rw [hgβ] at hg';cases hg';have hcp:0<β.cap:=by omega
 subst ha;have hlt:=hB.lt hcp;have hca:=hj β.blk β.off c L sep w (fun j x hx=>by
  obtain ⟨hj',hxe⟩:=g1A.1 hx;obtain ⟨v,e1,e2⟩:=hB.cell j 0 _ (show j<n by omega) rfl;rw [e0R hes] at e1;rw [e1];have e3:(BCol.sc (.strs L)).at j= .str x:=by
   show SV.str (L.getD j ⟨#[]⟩)=_;rw [List.getD,hx];rfl
  rw [e3] at e2;simp only [Rv] at e2;rw [e2]) hlt (by omega) (by omega) (by
   have:(e0w L sep).size=(Lib.join (L.map (·.data.toList)) sep.data.toList).length:=by unfold e0w;simp [ByteArray.size]
   omega)
 rw [hL] at hca;have ea:β.addr 0 0=⟨β.blk,β.off,none⟩:=by rw [e0R hes];rfl
 rw [ea];refine hca.mono ?_;rintro e w' ⟨rfl,hb⟩;refine ⟨_,rfl,_,_,_,g,⟨rfl,rfl,rfl⟩,m0D _,hu,fun _ _ _=>rfl,by simp only [Rv];rfl,⟨?_,?_⟩,a0b,⟨hb.os,hb.tape,hb.output,hb.size,fun k hk _=>hb.block k hk⟩,?_⟩
 .intro h q ro b he;obtain ⟨hb,e,_⟩:=he;simp [a0s] at e
 .intro h q h' q' b ro' b' β β' _ he;obtain ⟨hb,e,_⟩:=he;simp [a0s] at e
 .intro h q b β he;obtain ⟨hb,e,_⟩:=he;simp [a0s] at e
end
end Go.Sy
namespace Go.Sy
open Go.RowKit Go.ChangeShapes Go.WideShapes Go.Deep
section
variable {H:Type} {enc:TypeId×Value->H} {P:Program} {w:World} {base:Nat} {spare:Nat->Bool} {held:Bool}
theorem q0Q {v:Value} {k:Nat} {s:ByteArray} (h:([v]:List Value)[k]? =some (.string s)):v= .string s:=by
 cases k with
 |zero=>exact Option.some.inj h
 |succ k=>cases h
theorem k0T (R:Nat):∀m:Nat,(∀(t:TypeId) (ks:List CK) (fuel:Nat) (cs:List Value) (x:DataW H×List MemPlace),f0K P m t=some ks->DataW.trod enc P w base spare held fuel t cs=some x->(∀n∈x.1.weights P t,n<=R)->∀(k:Nat) (s:ByteArray),cs[k]? =some (.string s)->s.size<=R)/\
  (∀(o:Nat) (fs:List Field) (ks:List CK) (cs:List Value) (n:Nat),d0u P m o fs=some ks->cs.length=o+ks.length->(∀f∈fs,∃y:DataW H×List MemPlace,DataW.trod enc P w base spare held n f.type ((cs.drop f.offset).take (P.cellsOf f.type))=some y/\∀n∈y.1.weights P f.type,n<=R)->∀(k:Nat) (s:ByteArray),o<=k->cs[k]? =some (.string s)->s.size<=R):=by
 intro m;induction m with
 |zero=>exact ⟨fun t ks fuel cs x h=>by simp [f0K] at h,fun o fs ks cs n h=>by simp [d0u] at h⟩
 |succ m ih=>
  refine ⟨?_,?_⟩
  .intro t ks fuel cs x h ht hw k s hk;simp only [f0K] at h;split at h
   .rename_i hu;obtain ⟨b,rfl,_⟩:=DataW.trod_bool hu ht;cases q0Q hk
   .rename_i k2 hu;obtain ⟨n,rfl,_,_⟩:=DataW.trod_int hu ht;cases q0Q hk
   .rename_i hu;obtain ⟨s2,rfl,rfl,_⟩:=DataW.trod_string hu ht;cases q0Q hk;have:=hw s.data.toList.length (by simp [DataW.weights]);rw [h1H] at this;exact this
   .rename_i fs hu;split at h
    .rename_i ks' hks;cases hb:Nat.beq (P.cellsOf t) ks'.length with
     |false=>rw [hb] at h;simp at h
     |true=>
      obtain ⟨xs,n,_,rfl,hlen,hxl,hf⟩:=DataW.trod_struct hu ht;refine ih.2 0 fs.toList ks' cs n hks (by rw [hlen,j0J hb];simp) ?_ k s (z0h _) hk;intro f hf';obtain ⟨i,hi,rfl⟩:=h1A hf';have hi':i<fs.size:=by simpa using hi
      have h1:=hf i fs[i] (by simp [hi']);have h2:xs[i]? =some (xs[i]'(by omega)):=j0I (by omega);have e:fs.toList[i]=fs[i]:=by simp
      refine ⟨xs[i]'(by omega),by rw [e,h1,h2],?_⟩;intro z hz;refine hw z ?_;simp only [DataW.weights,hu];exact DataW.weights_mem_each (j:=i) (t:=fs.toList[i].type) (d:=(xs[i]'(by omega)).1) (by simp [hi']) (by simp [h2]) z hz
    .cases h
   .cases h
  .intro o fs ks cs n h hlen hall k s hok hk;cases fs with
   |nil=>
    simp only [d0u,Option.some.injEq] at h;subst h;have:=(g1A.1 hk).1;simp at hlen;omega
   |cons f r=>
    simp only [d0u] at h;cases ho:Nat.beq f.offset o with
    |false=>rw [ho] at h;simp at h
    |true=>
     rw [ho] at h;simp only [cond_true] at h;split at h
     .rename_i a ha;cases hb:Nat.beq (P.cellsOf f.type) a.length with
      |false=>rw [hb] at h;simp at h
      |true=>
       rw [hb] at h;simp only [cond_true] at h;split at h
       .rename_i b hbb;simp only [Option.some.injEq] at h;subst h;have eo:=j0J ho;have ea:=j0J hb;obtain ⟨y,hy,hyw⟩:=hall f (by simp);by_cases hc:k<o+a.length
        .refine ih.1 f.type a n _ y ha hy hyw (k-o) s ?_;rw [eo,ea,List.getElem?_take_of_lt (by omega),i1G,show o+(k-o)=k from by omega];exact hk
        .exact ih.2 (o+a.length) r b cs n hbb (by simp at hlen;omega) (fun f' hf'=>hall f' (by simp [hf'])) k s (by omega) hk
       .cases h
     .cases h
theorem e0x {t e:TypeId} {m fuel R:Nat} {v:Value} {ks:List CK} {x:DataW H×List MemPlace} (ht:P.underlying t=some (.slice e)) (hk:f0K P m e=some ks) (hlen:P.cellsOf e=ks.length) (h0:0<ks.length)
  (h:DataW.trod enc P w base (fun _=>true) held fuel t [v]=some x) (hw:∀n∈x.1.weights P t,n<=R)
  {n:Nat} {β:Base} {cols:List Col} (hok:c0K ks cols n) (hR:∀(g:G) (h:Nat),g h 0=some β->Rv g (.sl h 0 0 n) v) (hB:∀g:G,BlkAt g β true (.cols n (a0Z cols)) w)
  (k:Nat) (l:List ByteArray) (hl:nth cols k=some (.strs l)) (hll:l.length=n):∀s∈l,s.size<=R:=by
 intro s hs;obtain ⟨i,hi,rfl⟩:=h1x.1 hs;have hin:i<n:=by omega
 let g:G:=fun a b=>if a=0/\b=0 then some β else none
 have hg:g 0 0=some β:=if_pos ⟨rfl,rfl⟩;have hv:=hR g 0 hg;have hb:=hB g;simp only [Rv] at hv;obtain ⟨oa,cp,rfl,hle,hv⟩:=hv;rcases hv with hv|⟨β',hg',hadr,_⟩
 .omega
 .rw [hg] at hg';cases hg';rcases open_slice ht h with ⟨e1,_⟩|⟨a,len,cap,mm,nn,D,Pl,e1,_,hl1,hm,hmm,hx,hcell⟩
  .simp only [List.cons.injEq,and_true,Value.slice.injEq] at e1;omega
  .simp only [List.cons.injEq,and_true,Value.slice.injEq] at e1;obtain ⟨e1,rfl,rfl⟩:=e1;rw [e1] at hadr;cases hadr;simp only [if_true] at hmm;subst hmm;obtain ⟨cs',hc,ht'⟩:=hcell i (by omega);obtain ⟨c1,c2⟩:=d0W _ _ _ hok;have hkk:k<ks.length:=by rw [<-c1];exact b0O hl
   have hes:β.es=ks.length:=by
    have:=hb.es;simp only [Blk.es,(c0i _).1] at this;omega
   have hat:nth (a0Z cols) k=some (.sc (.strs l)):=by rw [(c0i _).2 k,hl];rfl
   obtain ⟨u,hu1,hu2⟩:=hb.cell i k (.str (l.getD i ⟨#[]⟩)) hin (by simp only [Blk.at,hat];rfl);simp only [Rv] at hu2;rw [hlen] at hc;obtain ⟨_,hcl,hcat⟩:=World.cells?_some hc;have hck:=hcat k hkk;rw [Go.Deep.add_add] at hck;have hadd:(β.addr 0 0).add (i*ks.length+k)=β.addr i k:=by
    unfold Addr.add Base.addr;rw [hes];split
    .show (⟨β.blk,β.off+0*ks.length+0,none⟩:Addr)=⟨β.blk,β.off+i*ks.length+k,none⟩;congr 1;omega
    .show (⟨β.blk,β.off+0*ks.length+0+(i*ks.length+k),none⟩:Addr)=⟨β.blk,β.off+i*ks.length+k,none⟩;congr 1;omega
   rw [hadd,hu1,hu2] at hck;have hgd:l.getD i ⟨#[]⟩=l[i]:=by rw [List.getD,j0I hi];rfl
   rw [<-hgd];refine (k0T R m).1 e ks nn cs' _ hk ht' ?_ k _ hck.symm;intro z hz;refine hw z ?_;rw [hx];simp only [DataW.weights,ht,v0e,e1n];refine .inr (.inl ?_);have key:∀(L:List (DataW H)),D i∈L->z∈DataW.weightsAll P e L:=by
    intro L;induction L with
    |nil=>intro h;cases h
    |cons d L ihL=>
     intro h;simp only [DataW.weightsAll,e1n];rcases v0e.1 h with h|h
     .rw [<-h];exact .inl hz
     .exact .inr (ihL h)
   exact key _ (f1S.2 ⟨i,by simp;omega,rfl⟩)
end
end Go.Sy
