/- Several texts in one: Bp3. -/
import Derived.Test.YtpkaeknigknbgaaGreatDoorP6
set_option linter.unusedVariables false
set_option linter.unusedSimpArgs false
set_option maxRecDepth 100000
namespace Go.Sy
abbrev i1J:=@List.mem_filter
abbrev i1Y:=@List.pairwise_append
abbrev j1H:=@List.drop_of_length_le
abbrev j1N:=@List.mem_append_right
abbrev j1b:=@List.filter_sublist
end Go.Sy
namespace Go.Proofs.YtpkaeknigknbgaaGreatDoor
open Go.RowKit Go.Sy
section
attribute [local irreducible] a0q a0r a0j a0R sortI
theorem d0Y (d:Int):a0V Tryz.prog 52 [.int .i64 d] (.bool (isD d)):=by
 unfold isD;by_cases h1:0<=d<;>by_cases h2:d<=99999;all_goals simp only [h1,h2,decide_true,decide_false,i1g,i1O,h1i,h1z]
 all_goals refine fEx Tryz.func52 ?_
 all_goals repeat' ((conv=>whnf);first|refine a0a ?_|(apply bRx<;>intro h<;>try (exfalso;(try dsimp only at h);omega)))
 all_goals (conv=>whnf)
 all_goals first
  |exact a0d rfl
  |exact a0d (congrArg SV.bool (by simp;omega))
  |(exfalso;omega)
  |trace_state
theorem q0D (d:Int):a0V Tryz.prog 138 [.int .i64 d] (.int .i64 (wkI d)):=by
 have c:=d0Y d;unfold wkI;cases h:isD d with
 |true=>
  have hd:=f0b.1 h;rw [h] at c;rw [if_pos rfl];refine fEx Tryz.func138 ?_;repeat' ((conv=>whnf);first|refine cPx c ?_|refine a0a ?_|(apply bRx<;>intro h<;>try (exfalso;(try dsimp only at h);omega)))
  all_goals (conv=>whnf)
  all_goals first
   |exact a0d (congrArg (SV.int .i64) (by rw [a0m (n:=d+3) (by omega) (by omega),i0H (by omega)]))
   |(exfalso;omega)
   |trace_state
 |false=>
  rw [h] at c;rw [if_neg (by simp)];refine fEx Tryz.func138 ?_;repeat' ((conv=>whnf);first|refine cPx c ?_|refine a0a ?_|(apply bRx<;>intro h<;>try (exfalso;(try dsimp only at h);omega)))
  all_goals (conv=>whnf)
  all_goals first
   |exact a0d rfl
   |(exfalso;omega)
   |trace_state
theorem w0R (t:Int):a0V Tryz.prog 100 [.int .i64 t] (.tup [.int .i64 (g0m t),.int .i64 (w0p t)]):=by
 have c:=d0Y (t/86400);unfold g0m w0p;by_cases h1:0<=t
 .by_cases h2:t<=1099511627776
  .have e1:IntKind.i64.wrap (t.tdiv 86400)=t/86400:=by rw [s0c h1,a0m (by omega) (by omega)]
   have e2:t.tmod 86400=t%86400:=i0H h1;cases h3:isD (t/86400) with
   |true=>
    have hk:okT t=true:=e0s.2 ⟨h1,h2,h3⟩;rw [h3] at c;rw [if_pos hk,if_pos hk];refine fEx Tryz.func100 ?_;repeat' ((conv=>whnf);first|(simp only [e1])|refine cPx c ?_|refine a0a ?_|(apply bRx<;>intro h<;>try (exfalso;(try dsimp only at h);omega)))
    all_goals (conv=>whnf)
    all_goals (try simp only [e2])
    all_goals first
     |exact a0d rfl
     |(exfalso;omega)
     |trace_state
   |false=>
    have hk:¬okT t=true:=fun q=>by have:=(e0s.1 q).2.2;rw [h3] at this;cases this
    rw [h3] at c;rw [if_neg hk,if_neg hk];refine fEx Tryz.func100 ?_;repeat' ((conv=>whnf);first|(simp only [e1])|refine cPx c ?_|refine a0a ?_|(apply bRx<;>intro h<;>try (exfalso;(try dsimp only at h);omega)))
    all_goals (conv=>whnf)
    all_goals first
     |exact a0d rfl
     |(exfalso;omega)
     |trace_state
  .have hk:¬okT t=true:=fun q=>h2 (e0s.1 q).2.1
   rw [if_neg hk,if_neg hk];refine fEx Tryz.func100 ?_;repeat' ((conv=>whnf);first|refine a0a ?_|(apply bRx<;>intro h<;>try (exfalso;(try dsimp only at h);omega)))
   all_goals (conv=>whnf)
   all_goals first
    |exact a0d rfl
    |(exfalso;omega)
    |trace_state
 .have hk:¬okT t=true:=fun q=>h1 (e0s.1 q).1
  rw [if_neg hk,if_neg hk];refine fEx Tryz.func100 ?_;repeat' ((conv=>whnf);first|refine a0a ?_|(apply bRx<;>intro h<;>try (exfalso;(try dsimp only at h);omega)))
  all_goals (conv=>whnf)
  all_goals first
   |exact a0d rfl
   |(exfalso;omega)
   |trace_state
abbrev rcC (ro:Bool) (h n:Nat):Option HB:=some (.one ro (.cells [.sl h 0 0 n]))
abbrev inB (n:Nat) (l:List Int):Option HB:=some (.one true (.cols n [.sc (.ints .i64 l)]))
def r3O (l:List Int) (n:Nat):SV->a0h->Nat->Prop:=if p0j l n=0 then a0f (.tup [.ptr 2 0 0 0,.int .i64 0]) [(2,rcC false 1 n)] 3 else a0f (.tup [.nptr,.int .i64 (p0j l n)]) [] 2
theorem w0S (l:List Int) (n:Nat) (hn:n<=maxLen):FC Tryz.prog 2 24 [.sl 1 0 0 n] [(1,inB n l)] (r3O l n):=by
 have eM:maxLen=9223372036854775807:=rfl;unfold r3O p0j;by_cases h4:400<n
 .rw [if_pos h4,if_neg (by decide)];refine fEx Tryz.func24 ?_;repeat' ((conv=>whnf);first|refine a0a ?_|(apply bRx<;>intro h<;>try (exfalso;(try dsimp only at h);omega)))
  all_goals (conv=>whnf)
  all_goals first
   |exact rOx [0,1] a0b
   |(exfalso;omega)
   |trace_state
 rw [if_neg h4];refine fEx Tryz.func24 ?_;repeat' ((conv=>whnf);first|refine a0a ?_|(apply bRx<;>intro h<;>try (exfalso;(try dsimp only at h);omega)))
 all_goals (conv=>whnf)
 all_goals first
  |(exfalso;omega)
  |skip
 refine a0O (fun k:Nat=>⟨[(0,.sl 1 0 0 n),(4,.int .i64 k)],[(1,inB n l)],2⟩) (fun k=>k<=n/\x0I l k=true) (fun k=>n-k) 0 [0,1] [] wHx ⟨z0h _,rfl⟩ ?_;rintro k ⟨hk,hh⟩;by_cases hk2:k<n
 .have c:=d0Y (l.getD k 0);cases hb:isD (l.getD k 0) with
  |false=>
   rw [hb] at c;rw [if_neg (by rw [if_neg (by rw [f0d hb n hk2];simp)];decide),if_neg (by rw [f0d hb n hk2];simp)];repeat' ((conv=>whnf);first|refine cPx c ?_|refine a0a ?_|(apply bRx<;>intro h<;>try (exfalso;(try dsimp only at h);omega)))
   all_goals (conv=>whnf)
   all_goals first
    |exact rOx [0,1] a0b
    |(exfalso;omega)
    |trace_state
  |true=>
   rw [hb] at c;have hh2:x0I l (k+1)=true:=by simp only [x0I,hh,hb,i1g]
   repeat' ((conv=>whnf);first|refine cPx c ?_|refine a0a ?_|(apply bRx<;>intro h<;>try (exfalso;(try dsimp only at h);omega)))
   all_goals (conv=>whnf)
   all_goals first
    |exact ⟨k+1,[0,1],[],⟨hk2,hh2⟩,(show n-(k+1)<n-k by omega),⟨rfl,⟨rfl,congrArg (fun z=>some (SV.int .i64 z)) (a0i (by omega)),trivial⟩,⟨rfl,trivial⟩⟩⟩
    |(exfalso;omega)
    |trace_state
 .have e:k=n:=by omega
  subst e;rw [if_pos (by rw [if_pos hh])];repeat' ((conv=>whnf);first|refine a0a ?_|(apply bRx<;>intro h<;>try (exfalso;(try dsimp only at h);omega)))
  all_goals (conv=>whnf)
  all_goals first
   |exact rOx [0,1,2] (a0c a0b)
   |(exfalso;omega)
   |trace_state
theorem z0E {l:List Int} {x:Int}:∀{k:Nat},k<=l.length->(¬∃i,i<k/\l.getD i 0=x)->¬x∈l.take k
 |k,hk,h,hx=>by
  obtain ⟨i,hi,e⟩:=h1A hx;rw [d1I] at hi;rw [i1m] at e;exact h ⟨i,by omega,by rw [List.getD,j0I (by omega)];exact e⟩
theorem f0f (l:List Int) (n:Nat) (hl:l.length=n) (hn:n<=100000) (d:Int):FC Tryz.prog 3 102 [.ptr 1 0 0 0,.int .i64 d] [(1,rcC true 2 n),(2,inB n l)] (a0f (.bool (i0I l d)) [] 3):=by
 have c1:=d0Y d;have c2:=q0D d;unfold i0I;cases h:isD d with
 |false=>
  rw [h] at c1;rw [h1z];refine fEx Tryz.func102 ?_;repeat' ((conv=>whnf);first|refine cPx c1 ?_|refine cPx c2 ?_|refine a0a ?_|(apply bRx<;>intro h<;>try (exfalso;(try dsimp only at h);omega)))
  all_goals (conv=>whnf)
  all_goals first
   |exact rOx [0,1,2] a0b
   |(exfalso;omega)
   |trace_state
 |true=>
  have hd:=f0b.1 h;unfold wkI at c2;rw [if_pos h] at c2;rw [h] at c1;rw [h1i];by_cases q:(d+3)%7<5
  .rw [decide_eq_true q,h1i];refine fEx Tryz.func102 ?_;repeat' ((conv=>whnf);first|refine cPx c1 ?_|refine cPx c2 ?_|refine a0a ?_|(apply bRx<;>intro h<;>try (exfalso;(try dsimp only at h);omega)))
   all_goals (conv=>whnf)
   all_goals first
    |(exfalso;omega)
    |skip
   refine a0O (fun k:Nat=>⟨[(0,.ptr 1 0 0 0),(1,.int .i64 d),(5,.int .i64 k)],[(1,rcC true 2 n),(2,inB n l)],3⟩) (fun k=>k<=n/\∀i,i<k->l.getD i 0≠d) (fun k=>n-k) 0 [0,1,2] [] wHx ⟨z0h _,fun i hi=>by omega⟩ ?_;rintro k ⟨hk,hi⟩;by_cases hk2:k<n
   .by_cases e:l.getD k 0=d
    .have hm:d∈l:=by
      rw [<-e,List.getD,j0I (by omega)];exact b1P _
     rw [decide_eq_true hm];repeat' ((conv=>whnf);first|refine a0a ?_|(apply bRx<;>intro h<;>try (exfalso;(try dsimp only at h);omega)))
     all_goals (conv=>whnf)
     all_goals first
      |exact rOx [0,1,2] a0b
      |(exfalso;first|omega|contradiction)
      |trace_state
    .have hi2:∀i,i<k+1->l.getD i 0≠d:=fun i hx=>by
      by_cases w:i=k
      .rw [w];exact e
      .exact hi i (by omega)
     repeat' ((conv=>whnf);first|refine a0a ?_|(apply bRx<;>intro h<;>try (exfalso;(try dsimp only at h);omega)))
     all_goals (conv=>whnf)
     all_goals first
      |exact ⟨k+1,[0,1,2],[],⟨hk2,hi2⟩,(show n-(k+1)<n-k by omega),⟨rfl,⟨rfl,rfl,congrArg (fun z=>some (SV.int .i64 z)) (a0i (by omega)),trivial⟩,⟨rfl,rfl,trivial⟩⟩⟩
      |(exfalso;first|omega|contradiction)
      |trace_state
   .have hm:¬d∈l:=by
     have:=z0E (l:=l) (x:=d) (k:=k) (by omega) (fun ⟨i,h1,h2⟩=>hi i h1 h2)
     rwa [i1D (by omega)] at this
    rw [decide_eq_false hm];repeat' ((conv=>whnf);first|refine a0a ?_|(apply bRx<;>intro h<;>try (exfalso;(try dsimp only at h);omega)))
    all_goals (conv=>whnf)
    all_goals first
     |exact rOx [0,1,2] a0b
     |(exfalso;omega)
     |trace_state
  .rw [decide_eq_false q,h1z];refine fEx Tryz.func102 ?_;repeat' ((conv=>whnf);first|refine cPx c1 ?_|refine cPx c2 ?_|refine a0a ?_|(apply bRx<;>intro h<;>try (exfalso;(try dsimp only at h);omega)))
   all_goals (conv=>whnf)
   all_goals first
    |exact rOx [0,1,2] a0b
    |(exfalso;omega)
    |trace_state
theorem e1S (l:List Int) (cut t:Int):ofI (ddS l) cut t=ofI l cut t:=by
 unfold ofI;rw [b1b,q0w]
end
section
attribute [local irreducible] a0q a0r a0j a0R
end
section
def plt (x y:Px):Bool:=b0y x.c y.c||(seq x.c y.c&&b0y x.p y.p)
theorem z0F {a b:ByteArray}:seq a b=true↔a=b:=by unfold seq;exact decide_eq_true_iff
theorem e0t {x y:Px}:plt x y=true↔b0y x.c y.c=true\/(x.c=y.c/\b0y x.p y.p=true):=by
 unfold plt;rw [h1B,k0P,z0F]
theorem l0P (x:Px):plt x x=false:=by
 cases h:plt x x with
 |false=>rfl
 |true=>
  rcases e0t.1 h with h|⟨_,h⟩
  .rw [b0r] at h;cases h
  .rw [b0r] at h;cases h
theorem f0g {x y z:Px} (h:plt x y=true) (k:plt y z=true):plt x z=true:=by
 rw [e0t] at*;rcases h with h|⟨h1,h2⟩
 .rcases k with k|⟨k1,k2⟩
  .exact .inl (k0c h k)
  .exact .inl (k1▸h)
 .rcases k with k|⟨k1,k2⟩
  .exact .inl (h1▸k)
  .exact .inr ⟨h1.trans k1,k0c h2 k2⟩
theorem k0q {x y:Px} (h:plt x y=true):plt y x=false:=by
 cases k:plt y x with
 |false=>rfl
 |true=>
  have:=f0g h k;rw [l0P] at this;cases this
def o0O (x y:Px):Prop:=x.p=y.p/\x.c=y.c
theorem h0l {x y:Px} (h:plt x y=false) (hne:¬o0O x y):plt y x=true:=by
 rw [e0t];by_cases hc:x.c=y.c
 .by_cases hp:x.p=y.p
  .exact absurd ⟨hp,hc⟩ hne
  .right;refine ⟨hc.symm,?_⟩;cases k:b0y x.p y.p with
   |true=>rw [e0t.2 (.inr ⟨hc,k⟩)] at h;cases h
   |false=>exact k0d k hp
 .left;cases k:b0y x.c y.c with
  |true=>rw [e0t.2 (.inl k)] at h;cases h
  |false=>exact k0d k hc
theorem t0K {l m:List Px} (hp:l.Perm m) (hl:l.Pairwise (fun a b=>plt a b=true)) (hm:m.Pairwise (fun a b=>plt a b=true)):l=m:=
 j1A (le:=fun a b=>plt a b=true) (fun a b _ _ h1 h2=>by rw [k0q h1] at h2;cases h2) hl hm hp
def m0Z (l:List Px):Prop:=l.Pairwise (fun a b=>¬o0O a b)
theorem f0G {a b:Px} (h:o0O a b):o0O b a:=⟨h.1.symm,h.2.symm⟩
theorem o0P {l m:List Px} (h:l.Perm m) (hl:m0Z l):m0Z m:=List.Perm.pairwise h hl (fun {a b} h k=>h (f0G k))
theorem z0G {l:List Px} (h:l.Pairwise (fun a b=>plt a b=true)):m0Z l:=by
 refine h.imp fun {a b} hab e=> ?_
 rcases e0t.1 hab with k|⟨_,k⟩
 .rw [e.2,b0r] at k;cases k
 .rw [e.1,b0r] at k;cases k
def srt (l:List Px):List Px:=l.mergeSort (fun x y=> !plt y x)
theorem n0a (l:List Px):(srt l).Perm l:=j1a l _
theorem t0L {x y z:Px} (h:plt y x=false) (k:plt z y=false):plt z x=false:=by
 cases e:plt z x with
 |false=>rfl
 |true=>
  by_cases hs:o0O x y
  .have:plt z y=true:=by
    rw [e0t] at e⊢;rw [<-hs.1,<-hs.2];exact e
   rw [this] at k;cases k
  .have:=f0g e (h0l h (fun q=>hs (f0G q)));rw [this] at k;cases k
theorem c1M {l:List Px} (hd:m0Z l):(srt l).Pairwise (fun a b=>plt a b=true):=by
 have h1:=j1D (le:=fun x y:Px=> !plt y x) (fun a b c h k=>by
  simp only [b1Q] at*;exact t0L h k) (fun a b=>by
  cases h:plt b a with
  |false=>rfl
  |true=>simp [k0q h]) l
 have h2:m0Z (srt l):=o0P (n0a l).symm hd;refine (h1.and h2).imp ?_;rintro a b ⟨k1,k2⟩;simp only [b1Q] at k1;exact h0l k1 (fun q=>k2 (f0G q))
theorem b1g {l m:List Px} (hp:m.Perm l) (hm:m.Pairwise (fun a b=>plt a b=true)):srt l=m:=
 t0K ((n0a l).trans hp.symm) (c1M (o0P hp (z0G hm))) hm
theorem atP (L:List Px) (j:Nat):(b0e L).p.getD j ⟨#[]⟩=(L.getD j px0).p/\(b0e L).a.getD j 0=(L.getD j px0).a/\(b0e L).c.getD j ⟨#[]⟩=(L.getD j px0).c:=by
 unfold b0e;simp only [List.getD,v0g];cases L[j]?<;>exact ⟨rfl,rfl,rfl⟩
theorem h0m {L:List Px} {k:Nat} (hk:k<L.length):L.take (k+1)=L.take k++ [L.getD k px0]:=by
 rw [i1a hk,List.getD,j0I hk];rfl
def nz (R:List Px):List Px:=R.filter (fun x=>decide (x.a≠0))
abbrev Asc (l:List Px):Prop:=l.Pairwise (fun a b=>plt a b=true)
theorem o0Q (A B:List Px):nz (A++B)=nz A++nz B:=i1h _ _
theorem c1N {O:List Px} {x:Px} {k:Nat} (hk:k<=O.length) (ha:Asc O) (hlt:∀j,j<k->plt (O.getD j px0) x=true) (hge:k<O.length->plt (O.getD k px0) x=false) (hx:∀y∈O,¬o0O y x):Asc (O.take k++x::O.drop k):=by
 have h1:∀y∈O.take k,plt y x=true:=by
  intro y hy;obtain ⟨j,hj,rfl⟩:=h1A hy;have hj':j<k:=by rw [d1I] at hj;omega
  have:=hlt j hj';rw [List.getD,j0I (by omega)] at this;rw [i1m];exact this
 have hd:Asc (O.drop k):=ha.sublist (List.drop_sublist k O);have h2:∀y∈O.drop k,plt x y=true:=by
  intro y hy;have hkl:k<O.length:=by
   refine i1u fun h=> ?_
   rw [j1H h] at hy;cases hy
  have hh:=hge hkl;have hxk:plt x (O.getD k px0)=true:=by
   refine h0l hh fun e=>hx (O.getD k px0) ?_ e
   rw [List.getD,j0I hkl];exact b1P hkl
  rw [i1x hkl] at hy hd;rcases v0e.1 hy with rfl|hy
  .rw [List.getD,j0I hkl] at hxk;exact hxk
  .rw [List.getD,j0I hkl] at hxk;exact f0g hxk ((h1X.1 hd).1 y hy)
 refine i1Y.2 ⟨ha.sublist (List.take_sublist k O),h1X.2 ⟨h2,hd⟩,?_⟩;intro a ha1 b hb;rcases v0e.1 hb with rfl|hb
 .exact h1 a ha1
 .exact f0g (h1 a ha1) (h2 b hb)
theorem z0H {α:Type} (O:List α) (x:α) (k:Nat):(O.take k++x::O.drop k).Perm (O++ [x]):=by
 have h1:(O.take k++x::O.drop k).Perm (x::(O.take k++O.drop k)):=List.perm_middle;rw [i1o] at h1;exact h1.trans (List.perm_append_comm (l₁:= [x]))
theorem s0m {R:List Px} (hd:m0Z R) {i:Nat} (hi:i<R.length):∀y∈R.take i,¬o0O y (R.getD i px0):=by
 intro y hy;obtain ⟨j,hj,rfl⟩:=h1A hy;rw [d1I] at hj;rw [i1m,List.getD,j0I hi];exact h1u.1 hd j i (by omega) hi (by omega)
theorem c1O (L:List Px) (k:Nat):(⟨(b0e L).p.getD k ⟨#[]⟩,(b0e L).a.getD k 0,(b0e L).c.getD k ⟨#[]⟩⟩:Px)=L.getD k px0:=by
 obtain ⟨a1,a2,a3⟩:=atP L k;rw [a1,a2,a3]
structure SoI (R:List Px) (i m:Nat) (O:List Px):Prop where
 le:i<=R.length
 m:O.length=m
 asc:Asc O
 perm:O.Perm (nz (R.take i))
theorem z0I {R:List Px} {i m:Nat} {O:List Px} (h:SoI R i m O) (hi:i<R.length) (hz:(R.getD i px0).a=0):SoI R (i+1) m O:=by
 refine ⟨hi,h.m,h.asc,?_⟩;rw [h0m hi,o0Q,show nz [R.getD i px0]= [] from by unfold nz;rw [i1b,if_neg (by simpa using hz)];rfl,j1T];exact h.perm
theorem c1P {R:List Px} {i m k:Nat} {O:List Px} (h:SoI R i m O) (hd:m0Z R) (hi:i<R.length) (hz:(R.getD i px0).a≠0) (hk:k<=m) (hlt:∀j,j<k->plt (O.getD j px0) (R.getD i px0)=true) (hge:k<m->plt (O.getD k px0) (R.getD i px0)=false):SoI R (i+1) (m+1) (O.take k++R.getD i px0::O.drop k):=by
 have hm:=h.m;refine ⟨hi,by simp;omega,c1N (by omega) h.asc hlt (fun q=>hge (by omega)) ?_,?_⟩
 .intro y hy;exact s0m hd hi y (i1J.1 (h.perm.subset hy)).1
 .rw [h0m hi,o0Q,show nz [R.getD i px0]= [R.getD i px0] from by unfold nz;rw [i1b,if_pos (decide_eq_true hz)];rfl];exact (z0H O _ k).trans (h.perm.append_right _)
theorem s0n {α:Type} (l:List α) (k:Nat):seg 0 k l=l.take k:=rfl
theorem i0K {α:Type} {l:List α} {k m:Nat} (h:l.length=m):seg (k+0) (m-k) l=l.drop k:=by
 unfold seg;rw [e1f,i1D (by rw [h1k];omega)]
end
section
attribute [local irreducible] a0q a0r a0j a0R
def idC (c:Int):Prop:=(97<=c/\c<=122)\/(65<=c/\c<=90)\/(48<=c/\c<=57)\/c=95\/c=45
instance (c:Int):Decidable (idC c):=by unfold idC;infer_instance
def idB (s:ByteArray):Bool:=decide (∀k,k<s.size->idC (a0e s (k:Int)))&&decide (1<=s.size)&&decide (s.size<=16)
theorem e1T {s:ByteArray} {k:Nat} (h:k<s.size) (hc:¬idC (a0e s (k:Int))):idB s=false:=by
 unfold idB;rw [decide_eq_false (fun hh=>hc (hh k h))];rfl
theorem w0T {s:ByteArray} (h:∀k,k<s.size->idC (a0e s (k:Int))):idB s=(decide (1<=s.size)&&decide (s.size<=16)):=by
 unfold idB;rw [decide_eq_true h];rfl
theorem e1U {s:ByteArray} (h:idB s=true):(∀k,k<s.size->idC (a0e s (k:Int)))/\1<=s.size/\s.size<=16:=by
 unfold idB at h;simp only [k0P,decide_eq_true_eq] at h;exact ⟨h.1.1,h.1.2,h.2⟩
theorem c1Q {s:ByteArray} {k:Nat} (h:∀i,i<k->idC (a0e s (i:Int))) (hk:idC (a0e s (k:Int))):∀i,i<k+1->idC (a0e s (i:Int)):=by
 intro i hi;by_cases e:i=k
 .subst e;exact hk
 .exact h i (by omega)
theorem t0M (s:ByteArray) (hs:s.size<=9223372036854775807):a0V Tryz.prog 123 [.str s] (.bool (idB s)):=by
 refine fEx Tryz.func123 ?_
 (conv=>whnf)
 refine a0O (fun k:Nat=>⟨[(0,.str s),(3,.int .i64 k)],[],1⟩) (fun k=>k<=s.size/\∀i,i<k->idC (a0e s (i:Int))) (fun k=>s.size-k) 0 [0] [] wHx ⟨by omega,fun i hi=>by omega⟩ ?_;rintro k ⟨hk,hc⟩;by_cases hk2:k<s.size
 .by_cases hi:idC (a0e s (k:Int))
  .have hn:=c1Q hc hi;unfold idC at hi;repeat' ((conv=>whnf);first|refine a0a ?_|(apply bRx<;>intro h<;>try (exfalso;(try dsimp only at h);omega)))
   all_goals (conv=>whnf)
   all_goals first
    |exact ⟨k+1,[0],[],⟨hk2,hn⟩,(show s.size-(k+1)<s.size-k by omega),⟨rfl,⟨rfl,congrArg (fun z=>some (SV.int .i64 z)) (o0K (by omega)),trivial⟩,trivial⟩⟩
    |(exfalso;first|omega|(simp at*;omega))
    |trace_state
  .rw [e1T hk2 hi];unfold idC at hi;repeat' ((conv=>whnf);first|refine a0a ?_|(apply bRx<;>intro h<;>try (exfalso;(try dsimp only at h);omega)))
   all_goals (conv=>whnf)
   all_goals first
    |exact a0d rfl
    |(exfalso;first|omega|(simp at*;omega))
    |trace_state
 .have e:k=s.size:=by omega
  subst e;rw [w0T hc];by_cases w1:1<=s.size<;>by_cases w2:s.size<=16;all_goals simp only [w1,w2,decide_true,decide_false,i1g,i1O,h1i,h1z]
  all_goals repeat' ((conv=>whnf);first|refine a0a ?_|(apply bRx<;>intro h<;>try (exfalso;(try dsimp only at h);omega)))
  all_goals (conv=>whnf)
  all_goals first
   |exact a0d rfl
   |exact a0d (congrArg SV.bool (decide_eq_true (by omega)))
   |exact a0d (congrArg SV.bool (decide_eq_false (by omega)))
   |(exfalso;omega)
   |trace_state
theorem e1V {s:ByteArray}:nmB s=true↔idB s=true/\ltP (a0e s 0)/\∀k,k<s.size->a0e s (k:Int)≠45:=by
 constructor
 .intro h;unfold nmB at h;simp only [k0P,decide_eq_true_eq] at h;have hw:=fun k (hk:k<s.size)=>p0S hk h.2
  refine ⟨?_,h.1.2,fun k hk=> ?_⟩
  .rw [w0T (fun k hk=>by have:=hw k hk;unfold wdP ltP at this;unfold idC;omega),decide_eq_true h.1.1.1,decide_eq_true h.1.1.2];rfl
  .have:=hw k hk;unfold wdP ltP at this;omega
 .rintro ⟨h1,h2,h3⟩;obtain ⟨g1,g2,g3⟩:=e1U h1;unfold nmB;have hw:l0y s s.size=true:=by
   cases e:l0y s s.size with
   |true=>rfl
   |false=>
    obtain ⟨k,q1,_,q3⟩:=f0A _ e;exfalso;have a:=g1 k q1;have b:=h3 k q1;unfold idC at a;unfold wdP ltP at q3;omega
  rw [hw,decide_eq_true g2,decide_eq_true g3,decide_eq_true h2];rfl
theorem c1R {s:ByteArray} (h:¬(idB s=true/\ltP (a0e s 0)/\∀k,k<s.size->a0e s (k:Int)≠45)):nmB s=false:=by
 cases e:nmB s with
 |false=>rfl
 |true=>exact absurd (e1V.1 e) h
theorem o0R (s:ByteArray) (hs:s.size<=9223372036854775807):a0V Tryz.prog 88 [.str s] (.bool (nmB s)):=by
 have c:=t0M s hs;cases hid:idB s with
 |false=>
  rw [hid] at c;rw [c1R (fun h=>by rw [hid] at h;exact absurd h.1 (by decide))];refine fEx Tryz.func88 ?_;repeat' ((conv=>whnf);first|refine cPx c ?_|refine a0a ?_|(apply bRx<;>intro h<;>try (exfalso;(try dsimp only at h);omega)))
  all_goals (conv=>whnf)
  all_goals first
   |exact a0d rfl
   |(exfalso;omega)
   |trace_state
 |true=>
 rw [hid] at c;obtain ⟨g1,g2,g3⟩:=e1U hid;by_cases hl:ltP (a0e s 0)
 case neg=>
  rw [c1R (fun h=>hl h.2.1)];unfold ltP at hl;refine fEx Tryz.func88 ?_;repeat' ((conv=>whnf);first|refine cPx c ?_|refine a0a ?_|(apply bRx<;>intro h<;>try (exfalso;(try dsimp only at h);omega)))
  all_goals (conv=>whnf)
  all_goals first
   |exact a0d rfl
   |(exfalso;first|omega|(simp at*;omega))
   |trace_state
 have hl2:=hl;unfold ltP at hl2;refine fEx Tryz.func88 ?_;repeat' ((conv=>whnf);first|refine cPx c ?_|refine a0a ?_|(apply bRx<;>intro h<;>try (exfalso;(try dsimp only at h);omega)))
 all_goals (conv=>whnf)
 all_goals first
  |(exfalso;first|omega|(simp at*;omega))
  |skip
 all_goals refine a0O (fun k:Nat=>⟨[(0,.str s),(3,.int .i64 k)],[],1⟩) (fun k=>k<=s.size/\∀i,i<k->a0e s (i:Int)≠45) (fun k=>s.size-k) 0 [0] [] wHx ⟨by omega,fun i hi=>by omega⟩ ?_
 all_goals rintro k ⟨hk,hc⟩
 all_goals by_cases hk2:k<s.size
 all_goals first
  |(by_cases h45:a0e s (k:Int)=45
    .rw [c1R (fun h=>h.2.2 k hk2 h45)];repeat' ((conv=>whnf);first|refine a0a ?_|(apply bRx<;>intro h<;>try (exfalso;(try dsimp only at h);omega)))
     all_goals (conv=>whnf)
     all_goals first
      |exact a0d rfl
      |(exfalso;omega)
    .have hn:∀i,i<k+1->a0e s (i:Int)≠45:=fun i hi=>by
      by_cases e:i=k
      .subst e;exact h45
      .exact hc i (by omega)
     repeat' ((conv=>whnf);first|refine a0a ?_|(apply bRx<;>intro h<;>try (exfalso;(try dsimp only at h);omega)))
     all_goals (conv=>whnf)
     all_goals first
      |exact ⟨k+1,[0],[],⟨hk2,hn⟩,(show s.size-(k+1)<s.size-k by omega),⟨rfl,⟨rfl,congrArg (fun z=>some (SV.int .i64 z)) (o0K (by omega)),trivial⟩,trivial⟩⟩
      |(exfalso;omega))
  |(have e:k=s.size:=by omega
    subst e;rw [e1V.2 ⟨hid,hl,hc⟩];repeat' ((conv=>whnf);first|refine a0a ?_|(apply bRx<;>intro h<;>try (exfalso;(try dsimp only at h);omega)))
    all_goals (conv=>whnf)
    all_goals first
     |exact a0d rfl
     |(exfalso;omega))
  |trace_state
def inK (ps:List ByteArray) (s:ByteArray):Nat->Bool
 |0=>false
 |k+1=>inK ps s k||seq (ps.getD k ⟨#[]⟩) s
theorem w0U {ps:List ByteArray} {s:ByteArray}:∀{k:Nat},inK ps s k=true↔∃j,j<k/\ps.getD j ⟨#[]⟩=s
 |0=>by simp [inK]
 |k+1=>by
  simp only [inK,h1B,w0U (k:=k),r0Y];constructor
  .rintro (⟨j,h1,h2⟩|h)
   .exact ⟨j,by omega,h2⟩
   .exact ⟨k,by omega,h⟩
  .rintro ⟨j,h1,h2⟩;by_cases e:j=k
   .subst e;exact .inr h2
   .exact .inl ⟨j,by omega,h2⟩
theorem n0b (n:Nat) (ps:List ByteArray) (s:ByteArray) (m:Nat) (hm:m<=n) (hn:n<=1000000):FC Tryz.prog 2 89 [.sl 1 0 0 m,.str s] [(1,some (.one true (.cols n [.sc (.strs ps)])))] (a0f (.bool (inK ps s m)) [] 2):=by
 refine fEx Tryz.func89 ?_;repeat' ((conv=>whnf);first|refine a0a ?_|(apply bRx<;>intro h<;>try (exfalso;(try dsimp only at h);omega)))
 all_goals (conv=>whnf)
 refine a0O (fun k:Nat=>⟨[(0,.sl 1 0 0 m),(1,.str s),(5,.int .i64 k)],[(1,some (.one true (.cols n [.sc (.strs ps)])))],2⟩) (fun k=>k<=m/\inK ps s k=false) (fun k=>m-k) 0 [0,1] [] wHx ⟨z0h _,rfl⟩ ?_;rintro k ⟨hk,hin⟩;by_cases hk2:k<m
 .by_cases q:ps.getD k ⟨#[]⟩=s
  .have e:inK ps s m=true:=w0U.2 ⟨k,hk2,q⟩;rw [e];repeat' ((conv=>whnf);first|refine a0a ?_|(apply bRx<;>intro h<;>try (exfalso;(try dsimp only at h);omega)))
   all_goals (conv=>whnf)
   all_goals (try simp only [c0J] at*)
   all_goals first
    |exact rOx [0,1] a0b
    |(exfalso;first|omega|contradiction|exact absurd q.symm (by assumption))
    |trace_state
  .have e:inK ps s (k+1)=false:=by simp only [inK];rw [hin,Bool.false_or];unfold seq;exact decide_eq_false q
   repeat' ((conv=>whnf);first|refine a0a ?_|(apply bRx<;>intro h<;>try (exfalso;(try dsimp only at h);omega)))
   all_goals (conv=>whnf)
   all_goals (try simp only [c0J] at*)
   all_goals first
    |exact ⟨k+1,[0,1],[],⟨hk2,e⟩,(show m-(k+1)<m-k by omega),⟨rfl,⟨rfl,rfl,congrArg (fun z=>some (SV.int .i64 z)) (a0i (by omega)),trivial⟩,⟨rfl,trivial⟩⟩⟩
    |(exfalso;first|omega|contradiction)
    |trace_state
 .have e:k=m:=by omega
  subst e;rw [hin];repeat' ((conv=>whnf);first|refine a0a ?_|(apply bRx<;>intro h<;>try (exfalso;(try dsimp only at h);omega)))
  all_goals (conv=>whnf)
  all_goals first
   |exact rOx [0,1] a0b
   |(exfalso;omega)
   |trace_state
theorem l0Q (x:Int):a0V Tryz.prog 162 [.int .i64 x] (.bool (k0k x)):=by
 by_cases h: -4503599627370496<=x/\x<=4503599627370496
 .rw [o0I.2 h];refine fEx Tryz.func162 ?_;repeat' ((conv=>whnf);first|refine a0a ?_|(apply bRx<;>intro h<;>try (exfalso;(try dsimp only at h);omega)))
  all_goals (conv=>whnf)
  all_goals first
   |exact a0d rfl
   |(refine a0d (congrArg SV.bool ?_);simp;omega)
   |(exfalso;omega)
   |trace_state
 .rw [a1Y.2 h];refine fEx Tryz.func162 ?_;repeat' ((conv=>whnf);first|refine a0a ?_|(apply bRx<;>intro h<;>try (exfalso;(try dsimp only at h);omega)))
  all_goals (conv=>whnf)
  all_goals first
   |exact a0d rfl
   |(refine a0d (congrArg SV.bool ?_);simp;omega)
   |(exfalso;omega)
   |trace_state
theorem t0N (p1:ByteArray) (a1:Int) (c1:ByteArray) (p2:ByteArray) (a2:Int) (c2:ByteArray):a0V Tryz.prog 141 [.agg [.str p1,.int .i64 a1,.str c1],.agg [.str p2,.int .i64 a2,.str c2]] (.bool (plt ⟨p1,a1,c1⟩ ⟨p2,a2,c2⟩)):=by
 unfold plt;dsimp only;by_cases h1:c1=c2
 .have e:seq c1 c2=true:=r0Y.2 h1;subst h1;rw [e,b0r,Bool.false_or,h1i];have hi:=b0r c1;refine fEx Tryz.func141 ?_;repeat' ((conv=>whnf);first|(simp only [hi])|refine a0a ?_|(apply bRx<;>intro h<;>try (exfalso;(try dsimp only at h);omega)))
  all_goals (conv=>whnf)
  all_goals first
   |exact a0d rfl
   |(exfalso;first|contradiction|(simp [hi] at*;done))
   |trace_state
 .have e:seq c1 c2=false:=by unfold seq;exact decide_eq_false h1
  rw [e,h1z,Bool.or_false];cases hs:b0y c1 c2 with
  |true=>
   refine fEx Tryz.func141 ?_;repeat' ((conv=>whnf);first|(simp only [hs])|refine a0a ?_|(apply bRx<;>intro h<;>try (exfalso;(try dsimp only at h);omega)))
   all_goals (conv=>whnf)
   all_goals first
    |exact a0d rfl
    |(exfalso;first|contradiction|(simp [hs] at*;done))
    |trace_state
  |false=>
   refine fEx Tryz.func141 ?_;repeat' ((conv=>whnf);first|(simp only [hs])|refine a0a ?_|(apply bRx<;>intro h<;>try (exfalso;(try dsimp only at h);omega)))
   all_goals (conv=>whnf)
   all_goals first
    |exact a0d rfl
    |(exfalso;first|contradiction|(simp [hs] at*;done))
    |trace_state
def z0J (ps:List ByteArray) (n:Nat):SV->a0h->Nat->Prop:=if b0R ps≠0 then a0f (.tup [.nptr,.int .i64 (b0R ps)]) [] 2 else a0f (.tup [.ptr 2 0 0 0,.int .i64 0]) [(2,some (.one false (.cells [.sl 1 0 0 n,.nsl])))] 3
theorem o0S (ps:List ByteArray) (n:Nat) (hl:ps.length=n) (hsz:∀k,(ps.getD k ⟨#[]⟩).size<=9223372036854775807):FC Tryz.prog 2 53 [.sl 1 0 0 n] [(1,some (.one true (.cols n [.sc (.strs ps)])))] (z0J ps n):=by
 unfold z0J b0R;by_cases h16:16<n
 .rw [hl,if_pos h16,if_pos (by decide)];refine fEx Tryz.func53 ?_;repeat' ((conv=>whnf);first|refine a0a ?_|(apply bRx<;>intro h<;>try (exfalso;(try dsimp only at h);omega)))
  all_goals (conv=>whnf)
  all_goals first
   |exact rOx [0,1] a0b
   |(exfalso;omega)
   |trace_state
 rw [hl,if_neg h16];refine fEx Tryz.func53 ?_;repeat' ((conv=>whnf);first|refine a0a ?_|(apply bRx<;>intro h<;>try (exfalso;(try dsimp only at h);omega)))
 all_goals (conv=>whnf)
 all_goals first
  |(exfalso;omega)
  |skip
 refine a0O (fun k:Nat=>⟨[(0,.sl 1 0 0 n),(4,.int .i64 k)],[(1,some (.one true (.cols n [.sc (.strs ps)])))],2⟩) (fun k=>k<=n/\nwK ps k=0) (fun k=>n-k) 0 [0,1] [] wHx ⟨z0h _,rfl⟩ ?_;rintro k ⟨hk,h0⟩;by_cases hk2:k<n
 .have c1:=o0R (ps.getD k ⟨#[]⟩) (hsz k);have c2:=n0b n ps (ps.getD k ⟨#[]⟩) k (by omega) (by omega);have hE:nwE ps k=if nmB (ps.getD k ⟨#[]⟩)=false then 5 else if 0<=idI (ps.take k) (ps.getD k ⟨#[]⟩) k then 7 else 0:=rfl
  have hst:=fun h=>m0V h0 h n hk2
  have hs0:nwE ps k=0->nwK ps (k+1)=0:=fun h=>by simp only [nwK];rw [if_neg (by omega)];exact h
  have hII:inK ps (ps.getD k ⟨#[]⟩) k=decide (0<=idI (ps.take k) (ps.getD k ⟨#[]⟩) k):=by
   have htl:(ps.take k).length=k:=by rw [d1I];omega
   by_cases g:0<=idI (ps.take k) (ps.getD k ⟨#[]⟩) k
   .rw [decide_eq_true g];have hlt:a0l (ps.take k) (ps.getD k ⟨#[]⟩)<k:=by
     unfold idI at g;by_cases w:a0l (ps.take k) (ps.getD k ⟨#[]⟩)<k
     .exact w
     .rw [if_neg w] at g;omega
    have a0s:=Go.Sy.sidx_get (l:=ps.take k) (s:=ps.getD k ⟨#[]⟩) (by rw [htl];exact hlt);rw [h1F,if_pos hlt] at a0s;exact w0U.2 ⟨_,hlt,by rw [List.getD,a0s];rfl⟩
   .rw [decide_eq_false g];cases w:inK ps (ps.getD k ⟨#[]⟩) k with
    |false=>rfl
    |true=>
     exfalso;obtain ⟨j,hj,hje⟩:=w0U.1 w;apply g;have hmem:ps.getD k ⟨#[]⟩∈ps.take k:=by
      rw [<-hje];refine h1S.2 ⟨j,?_⟩;rw [h1F,if_pos hj,List.getD,j0I (by omega)];rfl
     have:=Go.Sy.sidx_lt.2 hmem;rw [htl] at this;unfold idI;rw [if_pos this];omega
  cases hnm:nmB (ps.getD k ⟨#[]⟩) with
  |false=>
   rw [hnm] at c1;rw [hnm,if_pos rfl] at hE;rw [hst (by omega),hE,if_pos (by decide)];repeat' ((conv=>whnf);first|refine cPx c1 ?_|refine a0a ?_|(apply bRx<;>intro h<;>try (exfalso;(try dsimp only at h);omega)))
   all_goals (conv=>whnf)
   all_goals first
    |exact rOx [0,1] a0b
    |(exfalso;omega)
    |trace_state
  |true=>
   rw [hnm] at c1;rw [hnm,if_neg (by simp)] at hE;by_cases hin:0<=idI (ps.take k) (ps.getD k ⟨#[]⟩) k
   .rw [if_pos hin] at hE;rw [hII,decide_eq_true hin] at c2;rw [hst (by omega),hE,if_pos (by decide)];repeat' ((conv=>whnf);first|refine cPx c1 ?_|refine cOx (l:= [0,1]) c2 ?_|refine a0a ?_|(apply bRx<;>intro h<;>try (exfalso;(try dsimp only at h);omega)))
    all_goals (conv=>whnf)
    all_goals first
     |exact rOx [0,1] a0b
     |(exfalso;omega)
     |trace_state
   .rw [if_neg hin] at hE;rw [hII,decide_eq_false hin] at c2;repeat' ((conv=>whnf);first|refine cPx c1 ?_|refine cOx (l:= [0,1]) c2 ?_|refine a0a ?_|(apply bRx<;>intro h<;>try (exfalso;(try dsimp only at h);omega)))
    all_goals (conv=>whnf)
    all_goals first
     |exact ⟨k+1,[0,1],[],⟨hk2,hs0 hE⟩,(show n-(k+1)<n-k by omega),⟨rfl,⟨rfl,congrArg (fun z=>some (SV.int .i64 z)) (a0i (by omega)),trivial⟩,⟨rfl,trivial⟩⟩⟩
     |(exfalso;omega)
     |trace_state
 .have e:k=n:=by omega
  subst e;rw [if_neg (by omega)];repeat' ((conv=>whnf);first|refine a0a ?_|(apply bRx<;>intro h<;>try (exfalso;(try dsimp only at h);omega)))
  all_goals (conv=>whnf)
  all_goals first
   |exact rOx [0,1,2] (a0c a0b)
   |(exfalso;omega)
   |trace_state
end
section
attribute [local irreducible] a0q a0r a0j a0R
def z0K (R:List Px) (p c:ByteArray):Nat->Nat->Int
 |0,_=>0
 |m+1,k=>if (R.getD k px0).p=p/\(R.getD k px0).c=c then (R.getD k px0).a else z0K R p c m (k+1)
def d0g (R:List Px) (p c:ByteArray):Int:=z0K R p c R.length 0
abbrev rbH (ro:Bool) (np:Nat) (ps:List ByteArray) (m:Nat) (R:List Px):a0h:= [(1,some (.one ro (.cells [.sl 2 0 0 np,.sl 3 0 0 m]))),(2,some (.one true (.cols np [.sc (.strs ps)]))),(3,some (.one true (pxB m (b0e R))))]
theorem o0T (np:Nat) (ps:List ByteArray) (R:List Px) (m:Nat) (hm:R.length=m) (hl:m<=100000) (p c:ByteArray):FC Tryz.prog 4 161 [.ptr 1 0 0 0,.str p,.str c] (rbH true np ps m R) (a0f (.int .i64 (d0g R p c)) [] 4):=by
 refine fEx Tryz.func161 ?_;repeat' ((conv=>whnf);first|refine a0a ?_|(apply bRx<;>intro h<;>try (exfalso;(try dsimp only at h);omega)))
 all_goals (conv=>whnf)
 refine a0O (fun k:Nat=>⟨[(0,.ptr 1 0 0 0),(1,.str p),(2,.str c),(7,.int .i64 k)],rbH true np ps m R,4⟩) (fun k=>k<=m/\z0K R p c (m-k) k=d0g R p c) (fun k=>m-k) 0 [0,1,2,3] [] wHx ⟨z0h _,by rw [Nat.sub_zero,<-hm];rfl⟩ ?_;rintro k ⟨hk,hc⟩;by_cases hk2:k<m
 .obtain ⟨b1,b2,b3⟩:=atP R k;rw [show m-k=(m-(k+1))+1 by omega,z0K] at hc;by_cases g:(R.getD k px0).p=p/\(R.getD k px0).c=c
  .rw [if_pos g] at hc;rw [<-hc];have g1:=g.1;have g2:=g.2;have bb:(SV.int .i64 ((b0e R).a.getD k 0))= .int .i64 (R.getD k px0).a:=by rw [b2]
   rw [<-b1] at g1;rw [<-b3] at g2;rw [<-b2];repeat' ((conv=>whnf);first|refine a0a ?_|(apply bRx<;>intro h<;>try (exfalso;(try dsimp only at h);omega)))
   all_goals (conv=>whnf)
   all_goals (try simp only [c0J,y0u,e1f] at*)
   all_goals first
    |exact rOx [0,1,2,3] a0b
    |(exfalso;first|omega|contradiction|exact absurd g1.symm (by assumption)|exact absurd g2.symm (by assumption))
    |trace_state
  .rw [if_neg g] at hc;rw [<-b1,<-b3] at g;repeat' ((conv=>whnf);first|refine a0a ?_|(apply bRx<;>intro h<;>try (exfalso;(try dsimp only at h);omega)))
   all_goals (conv=>whnf)
   all_goals (try simp only [c0J,y0u,e1f] at*)
   all_goals first
    |exact ⟨k+1,[0,1,2,3],[],⟨hk2,hc⟩,(show m-(k+1)<m-k by omega),⟨rfl,⟨rfl,rfl,rfl,congrArg (fun z=>some (SV.int .i64 z)) (a0i (by omega)),trivial⟩,⟨rfl,rfl,rfl,trivial⟩⟩⟩
    |(exfalso;first|omega|contradiction|exact g ⟨by assumption,by assumption⟩)
    |trace_state
 .have e:k=m:=by omega
  subst e;rw [h1P,z0K] at hc;rw [<-hc];repeat' ((conv=>whnf);first|refine a0a ?_|(apply bRx<;>intro h<;>try (exfalso;(try dsimp only at h);omega)))
  all_goals (conv=>whnf)
  all_goals first
   |exact rOx [0,1,2,3] a0b
   |(exfalso;omega)
   |trace_state
def ptX (p c:ByteArray) (n:Int) (x:Px):Px:=if x.p=p/\x.c=c then ⟨x.p,n,x.c⟩ else x
def ptK (R:List Px) (p c:ByteArray) (n:Int):Nat->List Px
 |0=> []
 |k+1=>ptK R p c n k++ [ptX p c n (R.getD k px0)]
def ptD (R:List Px) (p c:ByteArray):Nat->Bool
 |0=>false
 |k+1=>ptD R p c k||decide ((R.getD k px0).p=p/\(R.getD k px0).c=c)
theorem k0r (R:List Px) (p c:ByteArray) (n:Int):∀k,(ptK R p c n k).length=k
 |0=>rfl
 |k+1=>by simp only [ptK,y0A,k0r R p c n k];rfl
def l0R (R:List Px) (p c:ByteArray) (n:Int):List Px:=if ptD R p c R.length=true then ptK R p c n R.length else ptK R p c n R.length++ [⟨p,n,c⟩]
theorem n0c (R:List Px) (p c:ByteArray) (n:Int):(l0R R p c n).length<=R.length+1:=by
 unfold l0R;split
 .rw [k0r];omega
 .rw [y0A,k0r];exact m0D _
theorem o0U (R:List Px) (m:Nat) (hm:R.length=m) (hl:m<=100000) (p c:ByteArray) (n:Int) (r:Nat) (hr:(l0R R p c n).length=r):FC Tryz.prog 2 163 [.sl 1 0 0 m,.str p,.str c,.int .i64 n] [(1,some (.one true (pxB m (b0e R))))] (a0f (.sl 2 0 0 r) [(2,some (.one false (pxB r (b0e (l0R R p c n)))))] 3):=by
 refine fEx Tryz.func163 ?_;repeat' ((conv=>whnf);first|refine a0a ?_|(apply bRx<;>intro h<;>try (exfalso;(try dsimp only at h);omega)))
 all_goals (conv=>whnf)
 refine a0O (fun k:Nat=>⟨[(0,.sl 1 0 0 m),(1,.str p),(2,.str c),(3,.int .i64 n),(10,.bool (ptD R p c k)),(11,.int .i64 k),(9,.sl 2 0 0 k)],[(1,some (.one true (pxB m (b0e R)))),(2,some (.one false (pxB k (b0e (ptK R p c n k)))))],3⟩) (fun k=>k<=m) (fun k=>m-k) 0 [0,1,2] [.slot 9 [.sc (.strs []),.sc (.ints .i64 []),.sc (.strs [])]] wHx (z0h _) ?_;intro k hk;by_cases hk2:k<m
 .obtain ⟨b1,b2,b3⟩:=atP R k;have hs:=k0l (ptK R p c n k) (ptX p c n (R.getD k px0));have hst:ptK R p c n (k+1)=ptK R p c n k++ [ptX p c n (R.getD k px0)]:=rfl;have hd:ptD R p c (k+1)=(ptD R p c k||decide ((R.getD k px0).p=p/\(R.getD k px0).c=c)):=rfl;rw [<-hst] at hs;unfold ptX at hs;by_cases g:(R.getD k px0).p=p/\(R.getD k px0).c=c
  .rw [decide_eq_true g,Bool.or_true] at hd;rw [if_pos g] at hs;rw [<-b1,<-b3] at g;dsimp only at hs;rw [<-b1,<-b3] at hs;have g1:=g.1;have g2:=g.2;have bb:(some (HB.one false (pxB (k+1) ⟨(b0e (ptK R p c n k)).p++ [(b0e R).p.getD k ⟨#[]⟩],(b0e (ptK R p c n k)).a++ [n],(b0e (ptK R p c n k)).c++ [(b0e R).c.getD k ⟨#[]⟩]⟩)):Option HB)=some (.one false (pxB (k+1) (b0e (ptK R p c n (k+1))))):=by rw [hs]
   have bd:some (SV.bool true)=some (SV.bool (ptD R p c (k+1))):=by rw [hd]
   repeat' ((conv=>whnf);first|refine a0a ?_|(apply bRx<;>intro h<;>try (exfalso;(try dsimp only at h);omega)))
   all_goals (conv=>whnf)
   all_goals (try simp only [c0J,y0u,e1f] at*)
   all_goals first
    |exact ⟨k+1,[0,1,5],[],hk2,(show m-(k+1)<m-k by omega),⟨rfl,⟨rfl,rfl,rfl,rfl,bd,congrArg (fun z=>some (SV.int .i64 z)) (a0i (by omega)),rfl,trivial⟩,⟨rfl,bb,trivial⟩⟩⟩
    |(exfalso;first|omega|contradiction|exact absurd g1.symm (by assumption)|exact absurd g2.symm (by assumption))
    |trace_state
  .rw [decide_eq_false g,Bool.or_false] at hd;rw [if_neg g] at hs;rw [<-b1,<-b3] at g;rw [<-b1,<-b2,<-b3] at hs;have bb:(some (HB.one false (pxB (k+1) ⟨(b0e (ptK R p c n k)).p++ [(b0e R).p.getD k ⟨#[]⟩],(b0e (ptK R p c n k)).a++ [(b0e R).a.getD k 0],(b0e (ptK R p c n k)).c++ [(b0e R).c.getD k ⟨#[]⟩]⟩)):Option HB)=some (.one false (pxB (k+1) (b0e (ptK R p c n (k+1))))):=by rw [hs]
   have bd:some (SV.bool (ptD R p c k))=some (SV.bool (ptD R p c (k+1))):=by rw [hd]
   repeat' ((conv=>whnf);first|refine a0a ?_|(apply bRx<;>intro h<;>try (exfalso;(try dsimp only at h);omega)))
   all_goals (conv=>whnf)
   all_goals (try simp only [c0J,y0u,e1f] at*)
   all_goals first
    |exact ⟨k+1,[0,1,5],[],hk2,(show m-(k+1)<m-k by omega),⟨rfl,⟨rfl,rfl,rfl,rfl,bd,congrArg (fun z=>some (SV.int .i64 z)) (a0i (by omega)),rfl,trivial⟩,⟨rfl,bb,trivial⟩⟩⟩
    |(exfalso;first|omega|contradiction|exact g ⟨by assumption,by assumption⟩)
    |trace_state
 .have e:k=m:=by omega
  subst e;unfold l0R at hr⊢;rw [hm] at hr⊢;have hs:=k0l (ptK R p c n k) ⟨p,n,c⟩;cases hd:ptD R p c k with
  |true=>
   rw [hd,if_pos rfl,k0r] at hr;rw [if_pos rfl];subst hr;repeat' ((conv=>whnf);first|refine a0a ?_|(apply bRx<;>intro h<;>try (exfalso;(try dsimp only at h);omega)))
   all_goals (conv=>whnf)
   all_goals first
    |exact rOx [0,1,2] (a0c a0b)
    |(exfalso;first|omega|contradiction)
    |trace_state
  |false=>
   rw [hd,if_neg (by simp),y0A,k0r] at hr;rw [if_neg (by simp)];have bb:(some (HB.one false (pxB (k+1) ⟨(b0e (ptK R p c n k)).p++ [p],(b0e (ptK R p c n k)).a++ [n],(b0e (ptK R p c n k)).c++ [c]⟩)):Option HB)=some (.one false (pxB (k+1) (b0e (ptK R p c n k++ [⟨p,n,c⟩])))):=by rw [hs]
   have er:r=k+1:=hr.symm;subst er;repeat' ((conv=>whnf);first|refine a0a ?_|(apply bRx<;>intro h<;>try (exfalso;(try dsimp only at h);omega)))
   all_goals (conv=>whnf)
   all_goals first
    |exact a0H (l:= [0,1,4]) rfl rfl ⟨bb,trivial⟩ (a0c a0b)
    |(exfalso;first|omega|contradiction)
    |trace_state
end
section
attribute [local irreducible] a0q a0r a0j a0R
def rmE (np:Nat) (ps:List ByteArray) (R:List Px) (f t c:ByteArray) (a:Int):Int:=
 if inK ps f np=false\/inK ps t np=false then 6
 else if f=t then 4
 else if e0q a c≠0 then e0q a c
 else if a<0 then 4
 else if k0k (d0g R f c-a)=true/\k0k (d0g R t c+a)=true then 0 else 4
def rmR (R:List Px) (f t c:ByteArray) (a:Int):List Px:=l0R (l0R R f c (d0g R f c-a)) t c (d0g R t c+a)
def z0L (np:Nat) (ps:List ByteArray) (m:Nat) (R:List Px) (f t c:ByteArray) (a:Int):SV->a0h->Nat->Prop:=
 if rmE np ps R f t c a=0 then a0f (.int .i64 0) [(1,some (.one false (.cells [.sl 2 0 0 np,.sl 4 0 0 (rmR R f t c a).length]))),(4,some (.one false (pxB (rmR R f t c a).length (b0e (rmR R f t c a)))))] 5
 else a0f (.int .i64 (rmE np ps R f t c a)) [(1,some (.one false (.cells [.sl 2 0 0 np,.sl 3 0 0 m])))] 4
theorem l0S (np:Nat) (ps:List ByteArray) (hnp:np<=1000000) (R:List Px) (m:Nat) (hm:R.length=m) (hl:m<=10000) (f t c:ByteArray) (a:Int) (hb:∀p c,-4503599627370496<=d0g R p c/\d0g R p c<=4503599627370496):FC Tryz.prog 4 136 [.ptr 1 0 0 0,.str f,.str t,.agg [.int .i64 a,.str c]] (rbH false np ps m R) (z0L np ps m R f t c a):=by
 have c1:=n0b np ps f np (m0D _) hnp;have c2:=n0b np ps t np (m0D _) hnp;have c3:=j0U a c;unfold z0L;cases h1:inK ps f np with
 |false=>
  rw [h1] at c1;have e:rmE np ps R f t c a=6:=by unfold rmE;rw [if_pos (.inl h1)]
  rw [e,if_neg (by decide)];refine fEx Tryz.func136 ?_;repeat' ((conv=>whnf);first|refine cOx (l:= [0,2]) c1 ?_|refine a0a ?_|(apply bRx<;>intro h<;>try (exfalso;(try dsimp only at h);omega)))
  all_goals (conv=>whnf)
  all_goals first
   |exact rOx [0,1,2,3] (a0c a0b)
   |(exfalso;omega)
   |trace_state
 |true=>
 rw [h1] at c1;cases h2:inK ps t np with
 |false=>
  rw [h2] at c2;have e:rmE np ps R f t c a=6:=by unfold rmE;rw [if_pos (.inr h2)]
  rw [e,if_neg (by decide)];refine fEx Tryz.func136 ?_;repeat' ((conv=>whnf);first|refine cOx (l:= [0,2]) c1 ?_|refine cOx (l:= [0,2]) c2 ?_|refine a0a ?_|(apply bRx<;>intro h<;>try (exfalso;(try dsimp only at h);omega)))
  all_goals (conv=>whnf)
  all_goals first
   |exact rOx [0,1,2,3] (a0c a0b)
   |(exfalso;omega)
   |trace_state
 |true=>
 rw [h2] at c2;have e0:rmE np ps R f t c a=if f=t then 4 else if e0q a c≠0 then e0q a c else if a<0 then 4 else if k0k (d0g R f c-a)=true/\k0k (d0g R t c+a)=true then 0 else 4:=by
  unfold rmE;rw [if_neg (by rw [h1,h2];simp)]
 by_cases h3:f=t
 .rw [if_pos h3] at e0;rw [e0,if_neg (by decide)];refine fEx Tryz.func136 ?_;repeat' ((conv=>whnf);first|refine cOx (l:= [0,2]) c1 ?_|refine cOx (l:= [0,2]) c2 ?_|refine a0a ?_|(apply bRx<;>intro h<;>try (exfalso;(try dsimp only at h);omega)))
  all_goals (conv=>whnf)
  all_goals first
   |exact rOx [0,1,2,3] (a0c a0b)
   |(exfalso;first|omega|contradiction)
   |trace_state
 rw [if_neg h3] at e0;by_cases h4:e0q a c=0
 case neg=>
  rw [if_pos h4] at e0;rw [e0,if_neg h4];refine fEx Tryz.func136 ?_;repeat' ((conv=>whnf);first|refine cOx (l:= [0,2]) c1 ?_|refine cOx (l:= [0,2]) c2 ?_|refine cPx c3 ?_|refine a0a ?_|(apply bRx<;>intro h<;>try (exfalso;(try dsimp only at h);omega)))
  all_goals (conv=>whnf)
  all_goals first
   |exact rOx [0,1,2,3] (a0c a0b)
   |(exfalso;first|omega|contradiction)
   |trace_state
 rw [if_neg (by simpa using h4)] at e0;rw [h4] at c3;have ham:=m0O a c;rw [h4] at ham;have hF:=hb f c;have hT:=hb t c;have n1:=o0T np ps R m hm (by omega) f c;have n2:=o0T np ps R m hm (by omega) t c;have g1:IntKind.i64.wrap (d0g R f c-a)=d0g R f c-a:=a0m (by omega) (by omega);have g2:IntKind.i64.wrap (d0g R t c+a)=d0g R t c+a:=a0m (by omega) (by omega);have f1:=l0Q (IntKind.i64.wrap (d0g R f c-a));have f2:=l0Q (IntKind.i64.wrap (d0g R t c+a));have q1:k0k (IntKind.i64.wrap (d0g R f c-a))=k0k (d0g R f c-a):=by rw [g1]
 have q2:k0k (IntKind.i64.wrap (d0g R t c+a))=k0k (d0g R t c+a):=by rw [g2]
 rw [q1] at f1;rw [q2] at f2;by_cases h6:¬a<0/\k0k (d0g R f c-a)=true/\k0k (d0g R t c+a)=true
 case neg=>
  have e:rmE np ps R f t c a=4:=by
   rw [e0];by_cases w:a<0
   .rw [if_pos w]
   .rw [if_neg w,if_neg (fun q=>h6 ⟨w,q⟩)]
  rw [e,if_neg (by decide)];clear e0 e;refine fEx Tryz.func136 ?_;repeat' ((conv=>whnf);first|refine cOx (l:= [0,2]) c1 ?_|refine cOx (l:= [0,2]) c2 ?_|refine cPx c3 ?_|refine cOx (l:= [0,1,2,3]) n1 ?_|refine cOx (l:= [0,1,2,3]) n2 ?_|refine cPx f1 ?_|refine cPx f2 ?_|refine a0a ?_|(apply bRx<;>intro h<;>try (exfalso;(try dsimp only at h);omega)))
  all_goals (conv=>whnf)
  all_goals first
   |exact rOx [0,1,2,3] (a0c a0b)
   |(exfalso;first|omega|contradiction)
   |(exfalso;exact h6 ⟨by assumption,by assumption,by assumption⟩)
   |trace_state
 rw [if_neg h6.1,if_pos h6.2] at e0;have h61:=h6.1;rw [h6.2.1] at f1;rw [h6.2.2] at f2;rw [e0,if_pos rfl];have p1:=o0U R m hm (by omega) f c (d0g R f c-a) _ rfl;have hl1:=n0c R f c (d0g R f c-a);have p2:=o0U (l0R R f c (d0g R f c-a)) _ rfl (by omega) t c (d0g R t c+a) _ rfl;have eR:rmR R f t c a=l0R (l0R R f c (d0g R f c-a)) t c (d0g R t c+a):=rfl;rw [<-eR] at p2;clear e0 eR hl1;generalize rmR R f t c a=R2 at*;generalize l0R R f c (d0g R f c-a)=R1 at*;rw [<-g1] at p1;rw [<-g2] at p2;refine fEx Tryz.func136 ?_;repeat' ((conv=>whnf);first|refine cOx (l:= [0,2]) c1 ?_|refine cOx (l:= [0,2]) c2 ?_|refine cPx c3 ?_|refine cOx (l:= [0,1,2,3]) n1 ?_|refine cOx (l:= [0,1,2,3]) n2 ?_|refine cPx f1 ?_|refine cPx f2 ?_|refine cOx (l:= [0,3]) p1 ?_|refine cOx (l:= [0,5]) p2 ?_|refine a0a ?_|(apply bRx<;>intro h<;>try (exfalso;(try dsimp only at h);omega)))
 all_goals (conv=>whnf)
 all_goals first
  |exact rOx [0,1,2,3,6] (a0c (a0c a0b))
  |(exfalso;first|omega|contradiction)
  |trace_state
end
section
attribute [local irreducible] a0q a0r a0j a0R
theorem c1S {O:List Px} {m k:Nat} (hm:O.length=m) (hk:k<=m) {p c:ByteArray} {a:Int} {x:Px} (hx:(⟨p,a,c⟩:Px)=x):
  (some (HB.one false (.cols (k+1+(m-k)) [.sc (.strs (seg 0 k (b0e O).p++ [p]++seg (k+0) (m-k) (b0e O).p)),.sc (.ints .i64 (seg 0 k (b0e O).a++ [a]++seg (k+0) (m-k) (b0e O).a)),.sc (.strs (seg 0 k (b0e O).c++ [c]++seg (k+0) (m-k) (b0e O).c))])):Option HB)=some (.one false (pxB (k+1+(m-k)) (b0e (O.take k++x::O.drop k)))):=by
 subst hx;rw [i0K (l:=(b0e O).p) (by simp [b0e,hm]),i0K (l:=(b0e O).a) (by simp [b0e,hm]),i0K (l:=(b0e O).c) (by simp [b0e,hm])];unfold b0e;simp [s0n,List.map_take,List.map_drop]
theorem e1W {O:List Px} (ha:Asc O) {i j:Nat} (hij:i<j) (hj:j<O.length):plt (O.getD i px0) (O.getD j px0)=true:=by
 have:=h1u.1 ha i j (by omega) hj hij;rw [List.getD,List.getD,j0I (by omega),j0I hj];exact this
theorem e1X {R O:List Px} {i m k:Nat} (h:SoI R i m O) (hd:m0Z R) (hi:i<R.length) (hk:k<=m) (hl:0<k->plt (R.getD i px0) (O.getD (k-1) px0)=false):∀j,j<k->plt (O.getD j px0) (R.getD i px0)=true:=by
 intro j hj;have hm:=h.m;have hlast:plt (O.getD (k-1) px0) (R.getD i px0)=true:=by
  refine h0l (hl (by omega)) fun e=> ?_
  have hmem:O.getD (k-1) px0∈O:=by
   rw [List.getD,j0I (show k-1<O.length by omega)];exact b1P _
  exact s0m hd hi _ (i1J.1 (h.perm.subset hmem)).1 (f0G e)
 by_cases e:j=k-1
 .rw [e];exact hlast
 .exact f0g (e1W h.asc (show j<k-1 by omega) (by omega)) hlast
abbrev soS (n:Nat) (R:List Px) (x:Nat×Nat×List Px):VS:=⟨[(0,.sl 1 0 0 n),(3,.sl 2 0 0 x.2.1),(4,.int .i64 x.1)],[(1,some (.one true (pxB n (b0e R)))),(2,some (.one false (pxB x.2.1 (b0e x.2.2))))],3⟩
theorem o0V (R:List Px) (n:Nat) (hn:R.length=n) (hl:n<=100000) (hd:m0Z R):FC Tryz.prog 2 110 [.sl 1 0 0 n] [(1,some (.one true (pxB n (b0e R))))] (a0f (.sl 2 0 0 (nz R).length) [(2,some (.one false (pxB (nz R).length (b0e (srt (nz R))))))] 3):=by
 have hnz:∀{i:Nat},i<=n->(nz (R.take i)).length<=n:=fun {i} hi=>by
  have:=i1S (fun x:Px=>decide (x.a≠0)) (R.take i);rw [d1I] at this;unfold nz;omega
 refine fEx Tryz.func110 ?_;repeat' ((conv=>whnf);first|refine a0a ?_|(apply bRx<;>intro h<;>try (exfalso;(try dsimp only at h);omega)))
 all_goals (conv=>whnf)
 refine a0O (soS n R) (fun x=>SoI R x.1 x.2.1 x.2.2) (fun x=>n-x.1) (0,0,[]) [0,1,2] [.slot 3 [.sc (.strs []),.sc (.ints .i64 []),.sc (.strs [])]] wHx ⟨z0h _,rfl,List.Pairwise.nil,List.Perm.refl _⟩ ?_;rintro ⟨i,m,O⟩ hI;dsimp only at hI;unfold soS;dsimp only;have hi:=hI.le;have hmn:m<=n:=by rw [<-hI.m,hI.perm.length_eq];exact hnz (by omega)
 rw [hn] at hi;by_cases hi2:i<n
 .obtain ⟨b1,b2,b3⟩:=atP R i;by_cases hz:(b0e R).a.getD i 0=0
  .have hs:=z0I hI (by omega) (by rw [<-b2];exact hz);repeat' ((conv=>whnf);first|refine a0a ?_|(apply bRx<;>intro h<;>try (exfalso;(try dsimp only at h);omega)))
   all_goals (conv=>whnf)
   all_goals first
    |exact ⟨(i+1,m,O),[0,1,2],[],hs,(show n-(i+1)<n-i by omega),⟨rfl,⟨rfl,rfl,congrArg (fun z=>some (SV.int .i64 z)) (a0i (by omega)),trivial⟩,⟨rfl,rfl,trivial⟩⟩⟩
    |(exfalso;first|omega|contradiction)
    |trace_state
  .repeat' ((conv=>whnf);first|refine a0a ?_|(apply bRx<;>intro h<;>try (exfalso;(try dsimp only at h);omega)))
   all_goals (conv=>whnf)
   all_goals first
    |(exfalso;first|omega|contradiction)
    |skip
   refine a0O (fun k:Nat=>⟨[(0,.sl 1 0 0 n),(3,.sl 2 0 0 m),(4,.int .i64 i),(5,.int .i64 k)],[(1,some (.one true (pxB n (b0e R)))),(2,some (.one false (pxB m (b0e O))))],3⟩) (fun k=>k<=m/\(k<m->plt (R.getD i px0) (O.getD k px0)=true)) (fun k=>k) m [0,1,2] [] wHx ⟨m0D _,fun h=>absurd h (i1K _)⟩ ?_;rintro k ⟨hk,hge⟩;have hge2:k<m->plt (O.getD k px0) (R.getD i px0)=false:=fun h=>k0q (hge h)
   have e1:IntKind.i64.wrap ((k:Int)-1)=(k:Int)-1:=a0m (by omega) (by omega);have e2:((k:Int)-1).toNat=k-1:=by omega
   have c1:a0V Tryz.prog 141 [.agg [.str ((b0e R).p.getD i ⟨#[]⟩),.int .i64 ((b0e R).a.getD i 0),.str ((b0e R).c.getD i ⟨#[]⟩)],.agg [.str ((b0e O).p.getD (k-1) ⟨#[]⟩),.int .i64 ((b0e O).a.getD (k-1) 0),.str ((b0e O).c.getD (k-1) ⟨#[]⟩)]] (.bool (plt (R.getD i px0) (O.getD (k-1) px0))):=by
    obtain ⟨a1,a2,a3⟩:=atP O (k-1);rw [a1,a2,a3,b1,b2,b3];exact t0N _ _ _ _ _ _
   have hput:=fun (hl:0<k->plt (R.getD i px0) (O.getD (k-1) px0)=false)=>(show k+1+(m-k)=m+1 by omega)▸c1P hI hd (by omega) (by rw [<-b2];exact hz) hk (e1X hI hd (by omega) hk hl) hge2
   have hrow:=c1S hI.m hk (c1O R i);by_cases hk2:0<k
   .cases hlt:plt (R.getD i px0) (O.getD (k-1) px0) with
    |true=>
     rw [hlt] at c1;have hn2:k-1<=m/\(k-1<m->plt (R.getD i px0) (O.getD (k-1) px0)=true):=⟨by omega,fun _=>hlt⟩;have e3:(k:Int)-1=((k-1:Nat):Int):=by omega
     repeat' ((conv=>whnf);first|refine cPx c1 ?_|(simp only [e1,e2])|refine a0a ?_|(apply bRx<;>intro h<;>try (exfalso;(try dsimp only at h);omega)))
     all_goals (conv=>whnf)
     all_goals first
      |exact ⟨k-1,[0,1,2],[],hn2,(show k-1<k by omega),⟨rfl,⟨rfl,rfl,rfl,congrArg (fun z=>some (SV.int .i64 z)) (e1.trans e3),trivial⟩,⟨rfl,rfl,trivial⟩⟩⟩
      |exact ⟨k-1,[0,1,2],[],hn2,(show k-1<k by omega),⟨rfl,⟨rfl,rfl,rfl,congrArg (fun z=>some (SV.int .i64 z)) e3,trivial⟩,⟨rfl,rfl,trivial⟩⟩⟩
      |(exfalso;first|omega|contradiction)
      |trace_state
    |false=>
     rw [hlt] at c1;have hp:=hput (fun _=>hlt);repeat' ((conv=>whnf);first|refine cPx c1 ?_|(simp only [e1,e2])|refine a0a ?_|(apply bRx<;>intro h<;>try (exfalso;(try dsimp only at h);omega)))
     all_goals (conv=>whnf)
     all_goals first
      |(exfalso;first|omega|contradiction)
      |exact ⟨(i+1,k+1+(m-k),O.take k++R.getD i px0::O.drop k),[0,1,6],[],hp,(show n-(i+1)<n-i by omega),⟨rfl,⟨rfl,rfl,congrArg (fun z=>some (SV.int .i64 z)) (a0i (by omega)),trivial⟩,⟨rfl,hrow,trivial⟩⟩⟩
      |trace_state
   .have hp:=hput (fun h=>absurd h hk2);repeat' ((conv=>whnf);first|refine cPx c1 ?_|(simp only [e1,e2])|refine a0a ?_|(apply bRx<;>intro h<;>try (exfalso;(try dsimp only at h);omega)))
    all_goals (conv=>whnf)
    all_goals first
     |(exfalso;first|omega|contradiction)
     |exact ⟨(i+1,k+1+(m-k),O.take k++R.getD i px0::O.drop k),[0,1,6],[],hp,(show n-(i+1)<n-i by omega),⟨rfl,⟨rfl,rfl,congrArg (fun z=>some (SV.int .i64 z)) (a0i (by omega)),trivial⟩,⟨rfl,hrow,trivial⟩⟩⟩
     |trace_state
 .have e:i=n:=by omega
  subst e;have e1:srt (nz R)=O:=b1g (by have:=hI.perm;rwa [<-hn,e1e] at this) hI.asc;have e2:(nz R).length=m:=by have:=hI.perm.length_eq;rw [<-hn,e1e] at this;rw [<-this];exact hI.m
  rw [e1,e2];repeat' ((conv=>whnf);first|refine a0a ?_|(apply bRx<;>intro h<;>try (exfalso;(try dsimp only at h);omega)))
  all_goals (conv=>whnf)
  all_goals first
   |exact rOx [0,1,2] (a0c a0b)
   |(exfalso;omega)
   |trace_state
theorem t0O (np:Nat) (ps:List ByteArray) (R:List Px) (m:Nat) (hm:R.length=m) (hl:m<=100000) (hd:m0Z R):FC Tryz.prog 4 77 [.ptr 1 0 0 0] (rbH true np ps m R) (a0f (.sl 4 0 0 (nz R).length) [(4,some (.one false (pxB (nz R).length (b0e (srt (nz R))))))] 5):=by
 have c1:=o0V R m hm hl hd;refine fEx Tryz.func77 ?_;repeat' ((conv=>whnf);first|refine cOx (l:= [0,3]) c1 ?_|refine a0a ?_|(apply bRx<;>intro h<;>try (exfalso;(try dsimp only at h);omega)))
 all_goals (conv=>whnf)
 all_goals first
  |exact rOx [0,1,2,3,4] (a0c a0b)
  |(exfalso;omega)
  |trace_state
theorem c1T {l:List ByteArray} {s:ByteArray} {n:Nat} (hn:l.length=n):inK l s n=true↔s∈l:=by
 rw [w0U];constructor
 .rintro ⟨j,hj,e⟩;rw [<-e,List.getD,j0I (by omega)];exact b1P _
 .intro h;obtain ⟨j,hj,e⟩:=h1A h;exact ⟨j,by omega,by rw [List.getD,j0I hj];exact e⟩
end
section
theorem f0h {r:List Int} {ps:List ByteArray} {c:ByteArray}:∀i x,x∈liR r ps c i->x.c=c/\x.a≠0/\∃j,j<i/\x.p=ps.getD j ⟨#[]⟩/\x.a=r.getD j 0
 |0,x,h=>by simp [liR] at h
 |i+1,x,h=>by
  simp only [liR] at h;by_cases z:r.getD i 0=0
  .rw [if_pos z] at h;obtain ⟨h1,h2,j,h3,h4⟩:=f0h i x h;exact ⟨h1,h2,j,by omega,h4⟩
  .rw [if_neg z] at h;rcases e1n.1 h with h|h
   .obtain ⟨h1,h2,j,h3,h4⟩:=f0h i x h;exact ⟨h1,h2,j,by omega,h4⟩
   .rw [y0E] at h;subst h;exact ⟨rfl,z,i,by omega,rfl,rfl⟩
theorem w0V {r:List Int} {ps:List ByteArray} {c:ByteArray} {n:Nat} (h:∀i j,i<j->j<n->b0y (ps.getD i ⟨#[]⟩) (ps.getD j ⟨#[]⟩)=true):∀i,i<=n->(liR r ps c i).Pairwise (fun x y=>b0y x.p y.p=true)
 |0,_=>List.Pairwise.nil
 |i+1,hi=>by
  have ih:=w0V (r:=r) (c:=c) h i (by omega);simp only [liR];split
  .exact ih
  .refine i1Y.2 ⟨ih,i1e _ _,fun x hx y hy=> ?_⟩;rw [y0E] at hy;subst hy;obtain ⟨_,_,j,hj,e,_⟩:=f0h i x hx;rw [e];exact h j i hj hi
end
section
theorem c1U (R:List Px) (p c:ByteArray):∀m k,z0K R p c m k=match (seg k m R).find? (fun x=>decide (x.p=p/\x.c=c)) with|some x=>x.a|none=>0:=by
 intro m;induction m with
 |zero=>intro k;simp [z0K,seg]
 |succ m ih=>
  intro k;by_cases hk:k<R.length
  .have e:seg k (m+1) R=R.getD k px0::seg (k+1) m R:=by
    unfold seg;rw [i1x hk,j1W,List.getD,j0I hk];rfl
   rw [e,List.find?_cons,z0K,ih (k+1)];by_cases g:(R.getD k px0).p=p/\(R.getD k px0).c=c
   .rw [if_pos g,decide_eq_true g]
   .rw [if_neg g,decide_eq_false g]
  .have e1:seg k (m+1) R= []:=by unfold seg;rw [j1H (by omega)];rfl
   have e2:seg (k+1) m R= []:=by unfold seg;rw [j1H (by omega)];exact List.take_nil
   have e3:R.getD k px0=px0:=by rw [List.getD,p0J (by omega)];rfl
   rw [e1,z0K,ih (k+1),e2,e3];split<;>rfl
theorem w0W (R:List Px) (p c:ByteArray):d0g R p c=match R.find? (fun x=>decide (x.p=p/\x.c=c)) with|some x=>x.a|none=>0:=by
 unfold d0g;rw [c1U];have e:seg 0 R.length R=R:=by unfold seg;rw [j1d,e1e]
 rw [e]
theorem e0u {R:List Px} (hd:m0Z R) {x:Px} (hx:x∈R):d0g R x.p x.c=x.a:=by
 rw [w0W];induction R with
 |nil=>cases hx
 |cons y R ih=>
  rw [List.find?_cons];by_cases g:y.p=x.p/\y.c=x.c
  .rw [decide_eq_true g];rcases v0e.1 hx with e|e
   .rw [e]
   .exact absurd g ((h1X.1 hd).1 x e)
  .rw [decide_eq_false g];rcases v0e.1 hx with e|e
   .exact absurd ⟨by rw [e],by rw [e]⟩ g
   .exact ih (h1X.1 hd).2 e
theorem k0s {R:List Px} {p c:ByteArray} (h:∀x∈R,¬(x.p=p/\x.c=c)):d0g R p c=0:=by
 rw [w0W,List.find?_eq_none.2 (fun x hx=>by simpa using h x hx)]
theorem h0X (R:List Px) (p c:ByteArray):(∃x∈R,x.p=p/\x.c=c)\/(∀x∈R,¬(x.p=p/\x.c=c)):=by
 by_cases h:∃x∈R,x.p=p/\x.c=c
 .exact .inl h
 .exact .inr fun x hx hh=>h ⟨x,hx,hh⟩
theorem s0o (R:List Px) (p c:ByteArray) (n:Int):∀k,k<=R.length->ptK R p c n k=(R.take k).map (ptX p c n)
 |0,_=>rfl
 |k+1,h=>by
  simp only [ptK];rw [s0o R p c n k (by omega),h0m h,f1T];rfl
theorem e1Y (R:List Px) (p c:ByteArray):∀k,k<=R.length->(ptD R p c k=true↔∃x∈R.take k,x.p=p/\x.c=c)
 |0,_=>by simp [ptD]
 |k+1,h=>by
  simp only [ptD];rw [h1B,e1Y R p c k (by omega),h0m h,decide_eq_true_eq];constructor
  .rintro (⟨x,hx,hh⟩|hh)
   .exact ⟨x,i1I _ hx,hh⟩
   .exact ⟨_,j1N _ (y0E.2 rfl),hh⟩
  .rintro ⟨x,hx,hh⟩;rcases e1n.1 hx with q|q
   .exact .inl ⟨x,q,hh⟩
   .rw [y0E] at q;subst q;exact .inr hh
theorem w0X (R:List Px) (p c:ByteArray) (n:Int):(l0R R p c n=R.map (ptX p c n)/\∃x∈R,x.p=p/\x.c=c)\/(l0R R p c n=R++ [⟨p,n,c⟩]/\∀x∈R,¬(x.p=p/\x.c=c)):=by
 have h1:=s0o R p c n R.length (m0D _);have h2:=e1Y R p c R.length (m0D _);rw [e1e] at h1 h2;unfold l0R;cases hd:ptD R p c R.length with
 |true=>exact .inl ⟨by rw [if_pos rfl,h1],h2.1 hd⟩
 |false=>
  have hn:∀x∈R,¬(x.p=p/\x.c=c):=fun x hx hh=>by
   have:=h2.2 ⟨x,hx,hh⟩;rw [hd] at this;cases this
  refine .inr ⟨?_,hn⟩;rw [if_neg (by simp),h1];congr 1;refine (List.map_congr_left fun x hx=> ?_).trans (List.map_id R);unfold ptX;rw [if_neg (hn x hx)];rfl
theorem d0v (p c:ByteArray) (n:Int) (x:Px):(ptX p c n x).p=x.p/\(ptX p c n x).c=x.c:=by unfold ptX;split<;>exact ⟨rfl,rfl⟩
theorem i0L {R:List Px} (hd:m0Z R) (p c:ByteArray) (n:Int):m0Z (l0R R p c n):=by
 rcases w0X R p c n with ⟨e,_⟩|⟨e,hn⟩
 .rw [e];unfold m0Z;rw [List.pairwise_map];refine hd.imp fun {a b} h q=>h ?_
  unfold o0O at*;rw [(d0v p c n a).1,(d0v p c n a).2,(d0v p c n b).1,(d0v p c n b).2] at q;exact q
 .rw [e];refine i1Y.2 ⟨hd,i1e _ _,fun a ha b hb=> ?_⟩;rw [y0E] at hb;subst hb;exact hn a ha
theorem w0Y {R:List Px} (hd:m0Z R) (p c:ByteArray) (n:Int) (p' c':ByteArray):d0g (l0R R p c n) p' c'=if p'=p/\c'=c then n else d0g R p' c':=by
 have hd2:=i0L hd p c n;rcases w0X R p c n with ⟨e,x,hx,hx1,hx2⟩|⟨e,hn⟩
 .rcases h0X R p' c' with ⟨y,hy,hy1,hy2⟩|h
  .have hm:ptX p c n y∈l0R R p c n:=by rw [e];exact List.mem_map_of_mem hy
   have h1:=e0u hd2 hm;rw [(d0v p c n y).1,(d0v p c n y).2,hy1,hy2] at h1;have h2:=e0u hd hy;rw [hy1,hy2] at h2;rw [h1,h2];unfold ptX;rw [hy1,hy2];split<;>rfl
  .rw [k0s h,k0s,if_neg]
   .rintro ⟨q1,q2⟩;exact h x hx ⟨by rw [hx1,q1],by rw [hx2,q2]⟩
   .intro z hz;rw [e] at hz;obtain ⟨y,hy,rfl⟩:=f1S.1 hz;rw [(d0v p c n y).1,(d0v p c n y).2];exact h y hy
 .by_cases g:p'=p/\c'=c
  .rw [if_pos g];have hm:(⟨p,n,c⟩:Px)∈l0R R p c n:=by rw [e];exact j1N _ (y0E.2 rfl)
   have:=e0u hd2 hm;rw [g.1,g.2];exact this
  .rw [if_neg g];rcases h0X R p' c' with ⟨y,hy,hy1,hy2⟩|h
   .have hm:y∈l0R R p c n:=by rw [e];exact i1I _ hy
    have h1:=e0u hd2 hm;have h2:=e0u hd hy;rw [hy1,hy2] at h1 h2;rw [h1,h2]
   .rw [k0s h,k0s];intro z hz;rw [e] at hz;rcases e1n.1 hz with q|q
    .exact h z q
    .rw [y0E] at q;subst q;exact fun w=>g ⟨w.1.symm,w.2.symm⟩
structure RlB (b:Bk) (R:List Px):Prop where
 d:m0Z R
 net:∀p c,d0g R p c=s0f b p c
theorem c1V {b:Bk} {B:Int} (h:BkI b B) (hB:0<=B) (p c:ByteArray): -B<=s0f b p c/\s0f b p c<=B:=by
 unfold s0f;split
 .exact h.rb _ _
 .omega
theorem z0M {b:Bk} {B:Int} (h:BkI b B) (hnd:b.ps.Nodup) (x:Px):x∈b.list↔x.a≠0/\s0f b x.p x.c=x.a:=by
 have hA:∀cs k,x∈liA b cs k↔∃j,j<k/\x∈liR (b.row (cs.getD j ⟨#[]⟩)) b.ps (cs.getD j ⟨#[]⟩) b.n:=by
  intro cs k;induction k with
  |zero=>simp [liA]
  |succ k ih=>
   simp only [liA,e1n,ih];constructor
   .rintro (⟨j,hj,q⟩|q)
    .exact ⟨j,by omega,q⟩
    .exact ⟨k,by omega,q⟩
   .rintro ⟨j,hj,q⟩;by_cases e:j=k
    .subst e;exact .inr q
    .exact .inl ⟨j,by omega,q⟩
 have hR:∀(r:List Int) (c:ByteArray) (n:Nat),x∈liR r b.ps c n↔x.c=c/\x.a≠0/\∃j,j<n/\x.p=b.ps.getD j ⟨#[]⟩/\x.a=r.getD j 0:=by
  intro r c n;refine ⟨f0h n x,?_⟩;rintro ⟨h1,h2,j,hj,h3,h4⟩;induction n with
  |zero=>omega
  |succ n ih=>
   simp only [liR];by_cases e:j=n
   .subst e;rw [if_neg (by rw [<-h4];exact h2)];refine j1N _ (y0E.2 ?_);rw [<-h3,<-h4,<-h1]
   .split
    .exact ih (by omega)
    .exact i1I _ (ih (by omega))
 have hsl:(sortS b.cs).length=b.m:=by rw [b0K,h.C.cl]
 unfold Bk.list;rw [hA];constructor
 .rintro ⟨j,hj,q⟩;obtain ⟨h1,h2,i,hi,h3,h4⟩:=(hR _ _ _).1 q;refine ⟨h2,?_⟩;have hps:b.ps[i]? =some x.p:=by
   rw [h3,List.getD,j0I (by rw [h.psl];exact hi)];rfl
  have e:=Go.Sy.sidx_of_get hnd hps;unfold s0f;rw [e,if_pos hi,h1,h4]
 .rintro ⟨h1,h2⟩;unfold s0f at h2;by_cases hp:a0l b.ps x.p<b.n
  .rw [if_pos hp] at h2;have hc:x.c∈b.cs:=by
    rw [c1D h];intro e;rw [e,k0n] at h2;exact h1 h2.symm
   have hc2:x.c∈sortS b.cs:=(c0T b.cs).mem_iff.2 hc;obtain ⟨j,hj,e⟩:=h1A hc2;have e2:(sortS b.cs).getD j ⟨#[]⟩=x.c:=by rw [List.getD,j0I hj];exact e
   refine ⟨j,by omega,?_⟩;rw [e2,hR];exact ⟨rfl,h1,_,hp,(d0f b.ps (by rw [h.psl];exact hp)).symm,h2.symm⟩
  .rw [if_neg hp] at h2;exact absurd h2.symm h1
theorem z0N {b:Bk} {B:Int} (h:BkI b B) (hps:b.ps.Pairwise (fun a b=>b0y a b=true)):Asc b.list:=by
 have hpl:∀i j,i<j->j<b.n->b0y (b.ps.getD i ⟨#[]⟩) (b.ps.getD j ⟨#[]⟩)=true:=by
  intro i j hij hj;have:=h1u.1 hps i j (by rw [h.psl];omega) (by rw [h.psl];exact hj) hij;rw [List.getD,List.getD,j0I (by rw [h.psl];omega),j0I (by rw [h.psl];exact hj)];exact this
 have hsl:(sortS b.cs).length=b.m:=by rw [b0K,h.C.cl]
 have hm:∀k x,x∈liA b (sortS b.cs) k->∃j,j<k/\x.c=(sortS b.cs).getD j ⟨#[]⟩:=by
  intro k;induction k with
  |zero=>intro x hx;simp [liA] at hx
  |succ k ih=>
   intro x hx;simp only [liA] at hx;rcases e1n.1 hx with q|q
   .obtain ⟨j,hj,e⟩:=ih x q;exact ⟨j,by omega,e⟩
   .exact ⟨k,by omega,(f0h _ _ q).1⟩
 have:∀k,k<=b.m->Asc (liA b (sortS b.cs) k):=by
  intro k;induction k with
  |zero=>intro _;exact List.Pairwise.nil
  |succ k ih=>
   intro hk;simp only [liA];refine i1Y.2 ⟨ih (by omega),?_,fun x hx y hy=> ?_⟩
   .have ha:=w0V (r:=b.row ((sortS b.cs).getD k ⟨#[]⟩)) (c:=(sortS b.cs).getD k ⟨#[]⟩) hpl b.n (m0D _);refine ha.imp_of_mem fun {x y} hx hy q=>e0t.2 (.inr ⟨?_,q⟩)
    rw [(f0h _ _ hx).1,(f0h _ _ hy).1]
   .obtain ⟨j,hj,e⟩:=hm k x hx;refine e0t.2 (.inl ?_);rw [e,(f0h _ _ hy).1];exact z0f h.C.nd hj (by rw [h.C.cl];omega)
 exact this b.m (m0D _)
theorem c1W {b:Bk} {R:List Px} {B:Int} (h:BkI b B) (hps:b.ps.Pairwise (fun a b=>b0y a b=true)) (hr:RlB b R):srt (nz R)=b.list/\(nz R).length=b.list.length:=by
 have hnd:b.ps.Nodup:=hps.imp (fun {a b} h e=>by subst e;rw [b0r] at h;cases h);have ha:=z0N h hps;have nd1:b.list.Nodup:=ha.imp (fun {a b} h e=>by subst e;rw [l0P] at h;cases h);have nd2:(nz R).Nodup:=(hr.d.imp (fun {a b} h e=>h (by subst e;exact ⟨rfl,rfl⟩))).sublist j1b;have hp:b.list.Perm (nz R):=(i1v nd1 nd2).2 fun x=>by
  rw [z0M h hnd];unfold nz;rw [i1J,decide_eq_true_eq];constructor
  .rintro ⟨h1,h2⟩;rw [<-hr.net] at h2;refine ⟨?_,h1⟩;rcases h0X R x.p x.c with ⟨y,hy,hy1,hy2⟩|q
   .have:=e0u hr.d hy;rw [hy1,hy2,h2] at this;have e:x=y:=by cases x;cases y;simp_all
    rw [e];exact hy
   .rw [k0s q] at h2;exact absurd h2.symm h1
  .rintro ⟨h1,h2⟩;refine ⟨h2,?_⟩;rw [<-hr.net];exact e0u hr.d h1
 exact ⟨b1g hp ha,hp.length_eq.symm⟩
theorem w0Z {ps sp:List ByteArray} {n:Nat} (hp:sp.Perm ps) (hn:ps.length=n) (s:ByteArray):inK ps s n=false↔idI sp s n<0:=by
 have hl:sp.length=n:=hp.length_eq.trans hn;rw [<-Bool.not_eq_true,c1T hn,<-hp.mem_iff,<-Go.Sy.sidx_lt,hl];unfold idI;split
 .rename_i h;constructor
  .intro q;exact absurd h q
  .intro q;omega
 .rename_i h;exact ⟨fun _=>by decide,fun _=>h⟩
theorem x0a {b:Bk} {R:List Px} (h:BkI b 4503599627370496) {ps:List ByteArray} (hp:b.ps.Perm ps) (hr:RlB b R) (f t c:ByteArray) (a:Int):rmE b.n ps R f t c a=mvE b f t c a/\(mvE b f t c a=0->RlB (b.mv f t c a) (rmR R f t c a)):=by
 have hpl:ps.length=b.n:=by rw [<-hp.length_eq];exact h.psl
 have i1:=w0Z hp hpl f;have i2:=w0Z hp hpl t;have e0:rmE b.n ps R f t c a=mvE b f t c a:=by
  unfold rmE mvE;by_cases q:idI b.ps f b.n<0\/idI b.ps t b.n<0
  .rw [if_pos q,if_pos (q.elim (fun w=> .inl (i1.2 w)) (fun w=> .inr (i2.2 w)))]
  .rw [if_neg q,if_neg (fun w=>q (w.elim (fun w=> .inl (i1.1 w)) (fun w=> .inr (i2.1 w))))];have q1:a0l b.ps f<b.n:=by
    rcases a1K (a0l b.ps f) b.n with w|w
    .exact w
    .exact absurd (.inl (by rw [h0j (by omega)];decide)) q
   have q2:a0l b.ps t<b.n:=by
    rcases a1K (a0l b.ps t) b.n with w|w
    .exact w
    .exact absurd (.inr (by rw [h0j (by omega)];decide)) q
   have e3:f=t↔idI b.ps f b.n=idI b.ps t b.n:=by
    constructor
    .intro e;rw [e]
    .intro e;rw [i0s q1,i0s q2] at e;have g1:=d0f (s:=f) b.ps (by rw [h.psl];exact q1);have g2:=d0f (s:=t) b.ps (by rw [h.psl];exact q2);rw [<-g1,<-g2];congr 1;omega
   rw [hr.net,hr.net];unfold s0f;rw [if_pos q1,if_pos q2];by_cases w:f=t
   .rw [if_pos w,if_pos (e3.1 w)]
   .rw [if_neg w,if_neg (fun z=>w (e3.2 z))]
 refine ⟨e0,fun he=> ?_⟩;have s:stE b f t c a=0:=by
  rw [b1c] at he;by_cases q:stE b f t c a=0
  .exact q
  .rw [if_pos q] at he;exact he
 obtain ⟨hF,hT,hne,_⟩:=w0B s;have hft:f≠t:=fun e=>hne (by rw [e])
 have hrow:=e1N h (by rw [he,s]);have hmp:=z0z b f t c a;refine ⟨i0L (i0L hr.d _ _ _) _ _ _,fun p' c'=> ?_⟩;unfold rmR;rw [w0Y (i0L hr.d _ _ _),w0Y hr.d];have hN:s0f (b.mv f t c a) p' c'=if a0l b.ps p'<b.n then (b.row c').getD (a0l b.ps p') 0+dM b f t c a c' (a0l b.ps p') else 0:=by
  unfold s0f;rw [hmp.1,hmp.2];split
  .exact hrow c' _
  .rfl
 have hd:dM b f t c a c' (a0l b.ps p')=if c'=c then (if a0l b.ps p'=a0l b.ps f then-a else 0)+(if a0l b.ps p'=a0l b.ps t then a else 0) else 0:=by
  unfold dM;by_cases q:c'=c
  .rw [if_pos ⟨s,q⟩,if_pos q]
  .rw [if_neg (fun w=>q w.2),if_neg q]
 have inj:∀x,a0l b.ps p'<b.n->a0l b.ps x<b.n->a0l b.ps p'=a0l b.ps x->p'=x:=fun x g1 g2 e=>by
  have k1:=d0f (s:=p') b.ps (by rw [h.psl];exact g1);have k2:=d0f (s:=x) b.ps (by rw [h.psl];exact g2);rw [<-k1,<-k2,e]
 rw [hN,hd];by_cases q1:p'=t/\c'=c
 .obtain ⟨rfl,rfl⟩:=q1;rw [if_pos ⟨rfl,rfl⟩,if_pos hT,if_pos rfl,if_neg (fun e=>hne e.symm),if_pos rfl,hr.net];unfold s0f;rw [if_pos hT];omega
 .rw [if_neg q1];by_cases q2:p'=f/\c'=c
  .obtain ⟨rfl,rfl⟩:=q2;rw [if_pos ⟨rfl,rfl⟩,if_pos hF,if_pos rfl,if_pos rfl,if_neg hne,hr.net];unfold s0f;rw [if_pos hF];omega
  .rw [if_neg q2,hr.net];unfold s0f;split
   .rename_i hP;by_cases q3:c'=c
    .rw [if_pos q3,if_neg (fun e=>q2 ⟨inj f hP hF e,q3⟩),if_neg (fun e=>q1 ⟨inj t hP hT e,q3⟩)];omega
    .rw [if_neg q3];omega
   .rfl
end
section
attribute [local irreducible] sortI
structure Rc where
 d:Int
 mv:Bool
 cl:Bool
 R:List Px
def rc0:Rc:=⟨0,false,false,[]⟩
abbrev rcD (L:List Rc):List Int:=L.map Rc.d
def d0H (d:Int):Rc:=⟨d,false,false,[]⟩
def b0x (L:List Rc) (d:Int):Rc:=if d∈rcD L then L.getD (a0G (rcD L) d) rc0 else d0H d
def rcW (L:List Rc) (d:Int):List Rc:=if d∈rcD L then L else L++ [d0H d]
def h0n (L:List Rc) (d:Int) (x:Rc):List Rc:=(rcW L d).set (a0G (rcD (rcW L d)) d) x
def rcX (L:List Rc):List Int:=(L.filter Rc.cl).map Rc.d
theorem f0i (L:List Rc):(rcD L).length=L.length:=b1M ..
theorem d0Z {L:List Rc} {d:Int} (h:d∈rcD L):a0G (rcD L) d<L.length/\(L.getD (a0G (rcD L) d) rc0).d=d:=by
 have hi:=a0W.2 h;have e:=e0r hi;rw [f0i] at hi;refine ⟨hi,?_⟩;rw [v0g,j0I hi] at e;rw [List.getD,j0I hi];exact Option.some.inj e
theorem c1X {L:List Rc} (hn:(rcD L).Nodup) {x:Rc} (h:x∈L):b0x L x.d=x:=by
 have hm:x.d∈rcD L:=f1S.2 ⟨x,h,rfl⟩;obtain ⟨i,hi,e⟩:=h1x.1 h;have e2:(rcD L)[i]? =some x.d:=by rw [v0g,j0I hi,e];rfl
 have e3:=q0o hn e2;unfold b0x;rw [if_pos hm,e3,List.getD,j0I hi,e];rfl
theorem k0t {L:List Rc} (hn:(rcD L).Nodup) {d:Int}:d∈rcX L↔(b0x L d).cl=true:=by
 unfold rcX;constructor
 .intro h;obtain ⟨x,hx,rfl⟩:=f1S.1 h;obtain ⟨h1,h2⟩:=i1J.1 hx;rw [c1X hn h1];exact h2
 .intro h;by_cases hd:d∈rcD L
  .obtain ⟨hi,e⟩:=d0Z hd;unfold b0x at h;rw [if_pos hd] at h;refine f1S.2 ⟨_,i1J.2 ⟨?_,h⟩,e⟩;rw [List.getD,j0I hi];exact b1P _
  .unfold b0x at h;rw [if_neg hd] at h;cases h
theorem f0j (L:List Rc) (d:Int):d∈rcD (rcW L d):=by
 unfold rcW;split
 .assumption
 .simp [d0H]
theorem o0W {L:List Rc} (hn:(rcD L).Nodup) (d:Int):(rcD (rcW L d)).Nodup:=by
 unfold rcW;split
 .exact hn
 .rename_i h;simp only [rcD,f1T,e1F,h1W];exact h1Z.2 ⟨hn,by simp,fun a ha b hb e=>by simp [d0H] at hb;subst hb;subst e;exact h ha⟩
theorem k0u {l m:List Int} {x:Int} (h:a0G l x<l.length):a0G (l++m) x=a0G l x:=by
 induction l with
 |nil=>simp at h
 |cons a l ih=>
  simp only [d1H,a0G] at h⊢;cases he:decide (a=x) with
  |true=>rfl
  |false=>
   rw [he] at h;simp only [cond_false,y0x] at h⊢;rw [ih (by omega)]
theorem k0v {L:List Rc} (d x:Int):b0x (rcW L d) x=b0x L x:=by
 unfold rcW;by_cases h:d∈rcD L
 .rw [if_pos h]
 .rw [if_neg h];unfold b0x;by_cases hx:x∈rcD L
  .have hi:=a0W.2 hx;rw [if_pos (by simp only [rcD,f1T];exact i1I _ hx),if_pos hx];have e:a0G (rcD (L++ [d0H d])) x=a0G (rcD L) x:=by
    simp only [rcD,f1T];exact k0u hi
   rw [f0i] at hi;rw [e,List.getD,List.getD,v0f hi]
  .rw [if_neg hx];by_cases e:x=d
   .subst e;have hm:x∈rcD (L++ [d0H x]):=by simp [d0H]
    rw [if_pos hm];obtain ⟨hi,e2⟩:=d0Z hm;have e3:a0G (rcD (L++ [d0H x])) x=L.length:=by
     have h1:=w0c (rcD (L++ [d0H x])) x;rw [f0i,y0A,g1z] at h1;rcases a1K (a0G (rcD (L++ [d0H x])) x) L.length with q|q
     .exfalso;rw [List.getD,v0f q,j0I q] at e2;exact hx (f1S.2 ⟨_,b1P q,e2⟩)
     .rw [y0A,g1z] at hi;omega
    rw [e3,List.getD,v0k (m0D _),h1P];rfl
   .rw [if_neg (by simp only [rcD,f1T,e1n,d0H,e1F,h1W,y0E];exact fun q=>q.elim hx e)]
theorem x0b {L:List Rc} {d:Int} {x:Rc} (hx:x.d=d):rcD (h0n L d x)=rcD (rcW L d):=by
 obtain ⟨hi,e⟩:=d0Z (f0j L d);unfold h0n;simp only [rcD,List.map_set];refine h1s fun j=> ?_
 rw [h1r];split
 .rename_i h;subst h;rw [b1M,if_pos hi,hx];exact (e0r (a0W.2 (f0j L d))).symm
 .rfl
theorem c0S {L:List Rc} (hn:(rcD L).Nodup) {d:Int} {x:Rc} (hx:x.d=d) (e:Int):b0x (h0n L d x) e=if e=d then x else b0x L e:=by
 have hD:=x0b (L:=L) hx;obtain ⟨hi,hg⟩:=d0Z (f0j L d);by_cases h:e=d
 .subst h;rw [if_pos rfl];unfold b0x;rw [hD,if_pos (f0j L _)];unfold h0n;rw [List.getD,h1C hi];rfl
 .rw [if_neg h,<-k0v (L:=L) d e];unfold b0x;rw [hD];by_cases he:e∈rcD (rcW L d)
  .rw [if_pos he,if_pos he];obtain ⟨hj,hg2⟩:=d0Z he;unfold h0n;rw [List.getD,List.getD,h1J (fun q=>h (by rw [<-hg2,<-q,hg]))]
  .rw [if_neg he,if_neg he]
theorem k0w {L:List Rc} (hn:(rcD L).Nodup) {d:Int} {x:Rc} (hx:x.d=d):(rcD (h0n L d x)).Nodup:=by rw [x0b hx];exact o0W hn d
theorem n0d (L:List Rc) (d:Int):(rcW L d).length<=L.length+1:=by unfold rcW;split<;>simp
theorem o0X (L:List Rc) (d:Int) (x:Rc):(h0n L d x).length<=L.length+1:=by unfold h0n;rw [h1N];exact n0d L d
theorem x0c (L:List Rc) (d:Int):(b0x L d).d=d:=by
 unfold b0x;by_cases h:d∈rcD L
 .rw [if_pos h];exact (d0Z h).2
 .rw [if_neg h];rfl
theorem o0Y {hs cd cd':List Int} (h:∀d,d∈cd↔d∈cd'):∀k x,mvF hs cd k x=mvF hs cd' k x
 |0,_=>rfl
 |k+1,x=>by
  simp only [mvF];rw [o0Y h k];by_cases q:x∈cd
  .rw [if_pos q,if_pos ((h x).1 q)]
  .rw [if_neg q,if_neg (fun w=>q ((h x).2 w))]
theorem x0d {hs cd cd':List Int} (h:∀d,d∈cd↔d∈cd') (x:Int):mvD hs cd x=mvD hs cd' x:=by unfold mvD;exact o0Y h _ _
theorem z0O {ds:List Int} {D d:Int}:d∈i0z ds D↔d∈ds\/d=D:=by
 unfold i0z;split
 .rename_i h;exact ⟨.inl,fun q=>q.elim id (fun e=>by rw [e];exact h)⟩
 .simp
theorem x0e {ds:List Int} {B:List Bk} (hl:ds.length=B.length) (pr:List ByteArray) (D:Int) (b:Bk) (d:Int):c0c (i0z ds D) (o0M ds B D b) pr d=if d=D then b else c0c ds B pr d:=by
 unfold i0z o0M;by_cases hD:D∈ds
 .rw [if_pos hD,if_pos hD];have hi:=a0W.2 hD;unfold c0c;by_cases e:d=D
  .subst e;rw [if_pos rfl,if_pos hD,List.getD,h1C (by omega)];rfl
  .rw [if_neg e];by_cases hd:d∈ds
   .have hj:=a0W.2 hd;rw [if_pos hd,if_pos hd,List.getD,List.getD,h1J (fun q=>e ?_)];have e1:=e0r hi;have e2:=e0r hj;rw [q,e2] at e1;exact Option.some.inj e1
   .rw [if_neg hd,if_neg hd]
 .rw [if_neg hD,if_neg hD];unfold c0c;by_cases e:d=D
  .subst e;have hm:d∈ds++ [d]:=by simp
   have e3:a0G (ds++ [d]) d=ds.length:=by
    have h1:=a0W.2 hm;have e2:=e0r h1;rw [y0A,g1z] at h1;rcases a1K (a0G (ds++ [d]) d) ds.length with q|q
    .exfalso;rw [v0f q,j0I q] at e2;exact hD (by rw [<-Option.some.inj e2];exact b1P q)
    .omega
   rw [if_pos rfl,if_pos hm,e3,List.getD,v0k (by omega),hl,h1P];rfl
  .rw [if_neg e];by_cases hd:d∈ds
   .have hj:=a0W.2 hd;rw [if_pos (i1I _ hd),if_pos hd,k0u hj,List.getD,List.getD,v0f (by omega)]
   .rw [if_neg (by simp [hd,e]),if_neg hd]
def rcO (L:List Rc):List Int:=sortI ((L.filter fun x=>x.mv&& !x.cl).map Rc.d)
end
section
attribute [local irreducible] a0q a0r a0j a0R sortI
theorem z0P (ks:List Int) (n:Nat) (hl:ks.length=n) (hn:n<=100000) (d:Int):FC Tryz.prog 3 159 [.ptr 1 0 0 0,.int .i64 d] [(1,rcC true 2 n),(2,inB n ks)] (a0f (if isD d=true then nxV (nxI ks d) else nxV (-1)) [] 3):=by
 have c1:=d0Y d;cases h:isD d with
 |false=>
  rw [h] at c1;rw [if_neg (by simp)];refine fEx Tryz.func159 ?_;repeat' ((conv=>whnf);first|refine cPx c1 ?_|refine a0a ?_|(apply bRx<;>intro h<;>try (exfalso;(try dsimp only at h);omega)))
  all_goals (conv=>whnf)
  all_goals first
   |exact rOx [0,1,2] a0b
   |(exfalso;omega)
   |trace_state
 |true=>
  have hd:=f0b.1 h;rw [h] at c1;rw [if_pos rfl];obtain ⟨a,ea⟩:=j1C hd.1;subst ea;generalize hX:nxI ks (a:Int)=X;refine fEx Tryz.func159 ?_;repeat' ((conv=>whnf);first|refine cPx c1 ?_|refine a0a ?_|(apply bRx<;>intro h<;>try (exfalso;(try dsimp only at h);omega)))
  all_goals (conv=>whnf)
  refine a0O (fun k:Nat=>⟨[(0,.ptr 1 0 0 0),(6,.int .i64 k)],[(1,rcC true 2 n),(2,inB n ks)],3⟩) (fun k=>k<=100000/\nxI ks (k:Int)=X) (fun k=>100000-k) a [0,1,2] [] wHx ⟨by omega,hX⟩ ?_;rintro k ⟨hk,hx⟩;have c:=f0f ks n hl hn k;by_cases hk2:k<=99999
  .cases hb:i0I ks k with
   |true=>
    rw [w0s hb (by omega)] at hx;subst hx;rw [hb] at c;unfold nxV;rw [if_neg (by omega)];repeat' ((conv=>whnf);first|refine cOx (l:= [0,1,2]) c ?_|refine a0a ?_|(apply bRx<;>intro h<;>try (exfalso;(try dsimp only at h);omega)))
    all_goals (conv=>whnf)
    all_goals first
     |exact rOx [0,1,2] a0b
     |(exfalso;omega)
     |trace_state
   |false=>
    rw [b1a hb (by omega)] at hx;rw [hb] at c;repeat' ((conv=>whnf);first|refine cOx (l:= [0,1,2]) c ?_|refine a0a ?_|(apply bRx<;>intro h<;>try (exfalso;(try dsimp only at h);omega)))
    all_goals (conv=>whnf)
    all_goals first
     |exact ⟨k+1,[0,1,2],[],⟨by omega,hx⟩,(show 100000-(k+1)<100000-k by omega),⟨rfl,⟨rfl,congrArg (fun z=>some (SV.int .i64 z)) (a0i (by omega)),trivial⟩,⟨rfl,rfl,trivial⟩⟩⟩
     |(exfalso;omega)
     |trace_state
  .rw [m0W (by omega)] at hx;subst hx;repeat' ((conv=>whnf);first|refine a0a ?_|(apply bRx<;>intro h<;>try (exfalso;(try dsimp only at h);omega)))
   all_goals (conv=>whnf)
   all_goals first
    |exact rOx [0,1,2] a0b
    |(exfalso;omega)
    |trace_state
abbrev rgC (ro:Bool) (h5 np m:Nat) (cut:Int):Option HB:=some (.one ro (.cells [.ptr 2 0 0 0,.int .i64 cut,.sl 4 0 0 np,.sl h5 0 0 m]))
abbrev rgR (np hn m:Nat) (cut:Int) (hs:List Int):a0h:= [(1,rgC true 5 np m cut),(2,rcC true 3 hn),(3,inB hn hs)]
abbrev rgP (ro:Bool) (h m:Nat):Option HB:=some (.one ro (.cols m [.ptrs h m]))
def g6 (L:List Rc) (hb:Nat) (x:Nat):Blk:= .cells [.int .i64 (L.getD x rc0).d,.ptr hb x 0 0,.bool (L.getD x rc0).mv,.bool (L.getD x rc0).cl]
def g7 (L:List Rc) (hl np:Nat) (x:Nat):Blk:= .cells [.sl 4 0 0 np,.sl hl x 0 (L.getD x rc0).R.length]
def g8 (L:List Rc) (x:Nat):Blk:=pxB (L.getD x rc0).R.length (b0e (L.getD x rc0).R)
theorem o0Z (np hn m:Nat) (cut:Int) (hs:List Int) (hh:hs.length=hn) (hn4:hn<=100000) (d:Int) (hd:0<=d) (hd2:d<=99999):FC Tryz.prog 9 135 [.ptr 1 0 0 0,.int .i64 d] (rgR np hn m cut hs) (a0f (ofV (nxI hs (d+1))) [] 9):=by
 have e:IntKind.i64.wrap (d+1)=d+1:=a0m (by omega) (by omega);have c:=z0P hs hn hh hn4 (d+1);have hv:(if isD (d+1)=true then nxV (nxI hs (d+1)) else nxV (-1))=nxV (nxI hs (d+1)):=by
  cases h:isD (d+1) with
  |true=>rw [if_pos rfl]
  |false=>rw [if_neg (by simp),m0W (by have:=a1Z.1 h;omega)]
 rw [hv] at c;unfold nxV at c;unfold ofV;by_cases h:nxI hs (d+1)<0
 .rw [if_pos h] at c⊢;refine fEx Tryz.func135 ?_;repeat' ((conv=>whnf);first|(simp only [e])|refine cOx (l:= [0,2,3]) c ?_|refine a0a ?_|(apply bRx<;>intro h<;>try (exfalso;(try dsimp only at h);omega)))
  all_goals (conv=>whnf)
  all_goals first
   |exact rOx [0,1,2,3,4,5,6,7,8] a0b
   |(exfalso;omega)
   |trace_state
 .rw [if_neg h] at c⊢;refine fEx Tryz.func135 ?_;repeat' ((conv=>whnf);first|(simp only [e])|refine cOx (l:= [0,2,3]) c ?_|refine a0a ?_|(apply bRx<;>intro h<;>try (exfalso;(try dsimp only at h);omega)))
  all_goals (conv=>whnf)
  all_goals first
   |exact rOx [0,1,2,3,4,5,6,7,8] a0b
   |(exfalso;omega)
   |trace_state
theorem e1Z (np hn m:Nat) (cut:Int) (hs:List Int) (hh:hs.length=hn) (hn4:hn<=100000) (t:Int):FC Tryz.prog 9 134 [.ptr 1 0 0 0,.int .i64 t] (rgR np hn m cut hs) (a0f (ofV (ofI hs cut t)) [] 9):=by
 have c1:=w0R t;unfold ofI;by_cases h:g0m t<0
 .rw [if_pos h];generalize g0m t=d at*;refine fEx Tryz.func134 ?_;repeat' ((conv=>whnf);first|refine cPx c1 ?_|refine a0a ?_|(apply bRx<;>intro h<;>try (exfalso;(try dsimp only at h);omega)))
  all_goals (conv=>whnf)
  all_goals first
   |exact rOx [0,1,2,3,4,5,6,7,8] a0b
   |(exfalso;omega)
   |trace_state
 .have hd:=m0Y h;rw [if_neg h];have c2:=f0f hs hn hh hn4 (g0m t);have c3:=o0Z np hn m cut hs hh hn4 (g0m t) hd.2.1 hd.2.2.1;generalize g0m t=d at*;generalize w0p t=s at*;cases hb:i0I hs d with
  |true=>
   rw [hb] at c2;by_cases hq:s<cut
   .rw [if_pos ⟨rfl,hq⟩];unfold ofV;rw [if_neg h];refine fEx Tryz.func134 ?_;repeat' ((conv=>whnf);first|refine cPx c1 ?_|refine cOx (l:= [0,2,3]) c2 ?_|refine a0a ?_|(apply bRx<;>intro h<;>try (exfalso;(try dsimp only at h);omega)))
    all_goals (conv=>whnf)
    all_goals first
     |exact rOx [0,1,2,3,4,5,6,7,8] a0b
     |(exfalso;omega)
     |trace_state
   .rw [if_neg (fun w=>hq w.2)];unfold ofV at c3⊢;by_cases hx:nxI hs (d+1)<0
    .rw [if_pos hx] at c3⊢;refine fEx Tryz.func134 ?_;repeat' ((conv=>whnf);first|refine cPx c1 ?_|refine cOx (l:= [0,2,3]) c2 ?_|refine cOx (l:= [0,1,2,3,4,5,6,7,8]) c3 ?_|refine a0a ?_|(apply bRx<;>intro h<;>try (exfalso;(try dsimp only at h);omega)))
     all_goals (conv=>whnf)
     all_goals first
      |exact rOx [0,1,2,3,4,5,6,7,8] a0b
      |(exfalso;omega)
      |trace_state
    .rw [if_neg hx] at c3⊢;refine fEx Tryz.func134 ?_;repeat' ((conv=>whnf);first|refine cPx c1 ?_|refine cOx (l:= [0,2,3]) c2 ?_|refine cOx (l:= [0,1,2,3,4,5,6,7,8]) c3 ?_|refine a0a ?_|(apply bRx<;>intro h<;>try (exfalso;(try dsimp only at h);omega)))
     all_goals (conv=>whnf)
     all_goals first
      |exact rOx [0,1,2,3,4,5,6,7,8] a0b
      |(exfalso;omega)
      |trace_state
  |false=>
   rw [hb] at c2;rw [if_neg (fun w=>by simp at w)];unfold ofV at c3⊢;by_cases hx:nxI hs (d+1)<0
   .rw [if_pos hx] at c3⊢;refine fEx Tryz.func134 ?_;repeat' ((conv=>whnf);first|refine cPx c1 ?_|refine cOx (l:= [0,2,3]) c2 ?_|refine cOx (l:= [0,1,2,3,4,5,6,7,8]) c3 ?_|refine a0a ?_|(apply bRx<;>intro h<;>try (exfalso;(try dsimp only at h);omega)))
    all_goals (conv=>whnf)
    all_goals first
     |exact rOx [0,1,2,3,4,5,6,7,8] a0b
     |(exfalso;omega)
     |trace_state
   .rw [if_neg hx] at c3⊢;refine fEx Tryz.func134 ?_;repeat' ((conv=>whnf);first|refine cPx c1 ?_|refine cOx (l:= [0,2,3]) c2 ?_|refine cOx (l:= [0,1,2,3,4,5,6,7,8]) c3 ?_|refine a0a ?_|(apply bRx<;>intro h<;>try (exfalso;(try dsimp only at h);omega)))
    all_goals (conv=>whnf)
    all_goals first
     |exact rOx [0,1,2,3,4,5,6,7,8] a0b
     |(exfalso;omega)
     |trace_state
def rfV (L:List Rc) (h:Nat) (d:Int):SV:=if d∈rcD L then .ptr h (a0G (rcD L) d) 0 0 else .nptr
theorem l0T {l:List Int} {d:Int} {k:Nat} (hk:k<l.length) (he:l.getD k 0=d) (hn:∀i,i<k->l.getD i 0≠d):a0G l d=k:=by
 induction l generalizing k with
 |nil=>simp at hk
 |cons a l ih=>
  simp only [a0G];cases k with
  |zero=>
   have:a=d:=he;rw [decide_eq_true this];rfl
  |succ k=>
   have h0:a≠d:=hn 0 (Nat.succ_pos k);rw [decide_eq_false h0,cond_false,ih (by simpa using hk) he (fun i hi=>hn (i+1) (by omega))]
theorem i0M (L:List Rc) (m:Nat) (hL:L.length=m) (hm:m<=100000) (np:Nat) (cut:Int) (d:Int):FC Tryz.prog 9 76 [.ptr 1 0 0 0,.int .i64 d] [(1,rgC true 5 np m cut),(5,rgP true 6 m),(6,fmB true m (g6 L 7))] (a0f (rfV L 6 d) [] 9):=by
 have hg:∀k,(rcD L).getD k 0=if k<m then (L.getD k rc0).d else 0:=by
  intro k;split
  .rename_i h;rw [List.getD,v0g,j0I (by omega),List.getD,j0I (by omega)];rfl
  .rename_i h;rw [List.getD,v0g,p0J (by omega)];rfl
 refine fEx Tryz.func76 ?_;repeat' ((conv=>whnf);first|refine a0a ?_|(apply bRx<;>intro h<;>try (exfalso;(try dsimp only at h);omega)))
 all_goals (conv=>whnf)
 all_goals first
  |(exfalso;omega)
  |skip
 refine a0O (fun k:Nat=>⟨[(0,.ptr 1 0 0 0),(1,.int .i64 d),(5,.int .i64 k)],[(1,rgC true 5 np m cut),(5,rgP true 6 m),(6,fmB true m (g6 L 7))],9⟩) (fun k=>k<=m/\∀i,i<k->(rcD L).getD i 0≠d) (fun k=>m-k) 0 [0,1,2,3,4,5,6,7,8] [] wHx ⟨z0h _,fun i hi=>absurd hi (h1E _)⟩ ?_;rintro k ⟨hk,hn⟩;by_cases hk2:k<m
 .have hk3:=hg k;rw [if_pos hk2] at hk3;by_cases e:(L.getD k rc0).d=d
  .have hm2:d∈rcD L:=by rw [<-e];exact f1S.2 ⟨_,by rw [List.getD,j0I (by omega)];exact b1P _,rfl⟩
   have hi:a0G (rcD L) d=k:=l0T (by rw [f0i];omega) (hk3.trans e) hn;unfold rfV;rw [if_pos hm2,hi];repeat' ((conv=>whnf);first|refine a0a ?_|(apply bRx<;>intro h<;>try (exfalso;(try dsimp only at h);omega)))
   all_goals (conv=>whnf)
   all_goals first
    |(exfalso;first|omega|contradiction)
    |exact rOx [0,1,2,3,4,5,6,7,8] a0b
    |trace_state
  .have hn2:∀i,i<k+1->(rcD L).getD i 0≠d:=fun i hi=>by
    by_cases w:i=k
    .rw [w,hk3];exact e
    .exact hn i (by omega)
   repeat' ((conv=>whnf);first|refine a0a ?_|(apply bRx<;>intro h<;>try (exfalso;(try dsimp only at h);omega)))
   all_goals (conv=>whnf)
   all_goals first
    |(exfalso;first|omega|contradiction)
    |exact ⟨k+1,[0,1,2,3,4,5,6,7,8],[],⟨hk2,hn2⟩,(show m-(k+1)<m-k by omega),⟨rfl,⟨rfl,rfl,congrArg (fun z=>some (SV.int .i64 z)) (a0i (by omega)),trivial⟩,⟨rfl,rfl,rfl,trivial⟩⟩⟩
    |trace_state
 .have hm2:¬d∈rcD L:=fun h=>by
   obtain ⟨h1,h2⟩:=d0Z h;have:=hn (a0G (rcD L) d) (by omega);rw [hg,if_pos (by omega)] at this;exact this h2
  unfold rfV;rw [if_neg hm2];repeat' ((conv=>whnf);first|refine a0a ?_|(apply bRx<;>intro h<;>try (exfalso;(try dsimp only at h);omega)))
  all_goals (conv=>whnf)
  all_goals first
   |(exfalso;omega)
   |exact rOx [0,1,2,3,4,5,6,7,8] a0b
   |trace_state
theorem l0U (L:List Rc) (m:Nat) (hL:L.length=m) (hm:m<=100000) (np:Nat) (cut:Int) (d:Int):FC Tryz.prog 9 103 [.ptr 1 0 0 0,.int .i64 d] [(1,rgC true 5 np m cut),(5,rgP true 6 m),(6,fmB true m (g6 L 7))] (a0f (.bool (b0x L d).cl) [] 9):=by
 have c:=i0M L m hL hm np cut d;unfold b0x;by_cases h:d∈rcD L
 .have hi:=(d0Z h).1;unfold rfV at c;rw [if_pos h] at c;rw [if_pos h];refine fEx Tryz.func103 ?_;repeat' ((conv=>whnf);first|refine cOx (l:= [0,1,2,3,4,5,6,7,8]) c ?_|refine a0a ?_|(apply bRx<;>intro h<;>try (exfalso;(try dsimp only at h);omega)))
  all_goals (conv=>whnf)
  all_goals first
   |(exfalso;omega)
   |exact rOx [0,1,2,3,4,5,6,7,8] a0b
   |trace_state
 .unfold rfV at c;rw [if_neg h] at c;rw [if_neg h];refine fEx Tryz.func103 ?_;repeat' ((conv=>whnf);first|refine cOx (l:= [0,1,2,3,4,5,6,7,8]) c ?_|refine a0a ?_|(apply bRx<;>intro h<;>try (exfalso;(try dsimp only at h);omega)))
  all_goals (conv=>whnf)
  all_goals first
   |(exfalso;omega)
   |exact rOx [0,1,2,3,4,5,6,7,8] a0b
   |trace_state
end
section
attribute [local irreducible] a0q a0r a0j a0R sortI
theorem k0x {L:List Rc} {x:Rc} {q:Nat} (h:q<L.length):(L++ [x]).getD q rc0=L.getD q rc0:=by
 rw [List.getD,List.getD,v0f h]
theorem k0y {L:List Rc} {x:Rc} {m:Nat} (h:L.length=m):(L++ [x]).getD m rc0=x:=by
 rw [List.getD,v0k (by omega),<-h,h1P];rfl
abbrev rnD (n hc hb hl np:Nat) (L:List Rc):List GD:= [⟨6,hc,g6 L (n+1)⟩,⟨7,hb,g7 L (n+2) np⟩,⟨8,hl,g8 L⟩]
theorem c1Y {H:a0h} {n m np th hc hb hl:Nat} {L:List Rc} {x:Rc} (hn:9<=n) (ht:9<=th/\th<n) (hc9:9<=hc/\hc≠th) (hb9:9<=hb/\hb≠th) (hl9:9<=hl/\hl≠th) (hL:L.length=m)
  (h5:a0s H th=some (.one false (.cols (m+1) [.svs (d0I 6 m++ [.ptr hc 0 0 0])]))) (h6:a0s H 6=fmB false m (g6 L 7)) (h7:a0s H 7=fmB false m (g7 L 8 np)) (h8:a0s H 8=fmB false m (g8 L))
  (k6:a0s H hc=some (.one false (.cells [.int .i64 x.d,.ptr hb 0 0 0,.bool x.mv,.bool x.cl]))) (k7:a0s H hb=some (.one false (.cells [.sl 4 0 0 np,.sl hl 0 0 x.R.length]))) (k8:a0s H hl=some (.one false (pxB x.R.length (b0e x.R))))
  (hdist:v0h (rnD n hc hb hl np (L++ [x]))=true):
  Relab H n (gdR n m (rnD n hc hb hl np (L++ [x]))) (fun _=>0) ((th,rgP false n (m+1))::gdN n (m+1) 0 (rnD n hc hb hl np (L++ [x]))) [6,hc,7,hb,8,hl] 3:=by
 have r0:∀q,q<m->gdR n m (rnD n hc hb hl np (L++ [x])) n q=some (6,q):=fun q hq=>e0j (D:=rnD n hc hb hl np (L++ [x])) (i:=0) (d:=⟨6,hc,g6 (L++ [x]) (n+1)⟩) rfl hq
 have r1:∀q,q<m->gdR n m (rnD n hc hb hl np (L++ [x])) (n+1) q=some (7,q):=fun q hq=>e0j (D:=rnD n hc hb hl np (L++ [x])) (i:=1) (d:=⟨7,hb,g7 (L++ [x]) (n+2) np⟩) rfl hq
 have r2:∀q,q<m->gdR n m (rnD n hc hb hl np (L++ [x])) (n+2) q=some (8,q):=fun q hq=>e0j (D:=rnD n hc hb hl np (L++ [x])) (i:=2) (d:=⟨8,hl,g8 (L++ [x])⟩) rfl hq
 have s0:gdR n m (rnD n hc hb hl np (L++ [x])) n m=some (hc,0):=d0D (D:=rnD n hc hb hl np (L++ [x])) (i:=0) (d:=⟨6,hc,g6 (L++ [x]) (n+1)⟩) rfl;have s1:gdR n m (rnD n hc hb hl np (L++ [x])) (n+1) m=some (hb,0):=d0D (D:=rnD n hc hb hl np (L++ [x])) (i:=1) (d:=⟨7,hb,g7 (L++ [x]) (n+2) np⟩) rfl;have s2:gdR n m (rnD n hc hb hl np (L++ [x])) (n+2) m=some (hl,0):=d0D (D:=rnD n hc hb hl np (L++ [x])) (i:=2) (d:=⟨8,hl,g8 (L++ [x])⟩) rfl;have e6:∀q,q<m->g6 (L++ [x]) (n+1) q= .cells [.int .i64 (L.getD q rc0).d,.ptr (n+1) q 0 0,.bool (L.getD q rc0).mv,.bool (L.getD q rc0).cl]:=fun q hq=>by unfold g6;rw [k0x (by omega)]
 have e7:∀q,q<m->g7 (L++ [x]) (n+2) np q= .cells [.sl 4 0 0 np,.sl (n+2) q 0 (L.getD q rc0).R.length]:=fun q hq=>by unfold g7;rw [k0x (by omega)]
 have e8:∀q,q<m->g8 (L++ [x]) q=g8 L q:=fun q hq=>by unfold g8;rw [k0x (by omega)]
 have f6:g6 (L++ [x]) (n+1) m= .cells [.int .i64 x.d,.ptr (n+1) m 0 0,.bool x.mv,.bool x.cl]:=by unfold g6;rw [k0y hL]
 have f7:g7 (L++ [x]) (n+2) np m= .cells [.sl 4 0 0 np,.sl (n+2) m 0 x.R.length]:=by unfold g7;rw [k0y hL]
 have f8:g8 (L++ [x]) m=pxB x.R.length (b0e x.R):=by unfold g8;rw [k0y hL]
 exact f0v (n:=n) (th:=th) (rnD n hc hb hl np (L++ [x])) (by omega) h5 (d0q ⟨⟨fun _=>rfl,r0C (by omega) r0 s0⟩,trivial⟩)
  ⟨⟨(show (6:Nat)≠th by omega),hc9.2,⟨_,_,h6,fun q hq=>⟨hq,by dsimp only;rw [e6 q hq];exact b0l ⟨a0E _,c0G (by omega) (r1 q hq),a0E _,a0E _,trivial⟩⟩⟩,_,k6,by dsimp only;rw [f6];exact b0l ⟨a0E _,c0G (by omega) s1,a0E _,a0E _,trivial⟩⟩,
    ⟨(show (7:Nat)≠th by omega),hb9.2,⟨_,_,h7,fun q hq=>⟨hq,by dsimp only;rw [e7 q hq];exact b0l ⟨a0E _,e0Q (by omega) (r2 q hq),trivial⟩⟩⟩,_,k7,by dsimp only;rw [f7];exact b0l ⟨a0E _,e0Q (by omega) s2,trivial⟩⟩,
    ⟨(show (8:Nat)≠th by omega),hl9.2,⟨_,_,h8,fun q hq=>⟨hq,.inl (e8 q hq)⟩⟩,_,k8,.inl f8⟩,trivial⟩ hdist
abbrev roD (n np:Nat) (L:List Rc):List RD:= [⟨6,g6 L (n+1)⟩,⟨7,g7 L (n+2) np⟩,⟨8,g8 L⟩]
theorem c1Z {H:a0h} {n m np th:Nat} {L:List Rc} (hn:9<=n) (ht:th<n/\th≠6/\th≠7/\th≠8)
  (h5:a0s H th=rgP false 6 m) (h6:a0s H 6=fmB false m (g6 L 7)) (h7:a0s H 7=fmB false m (g7 L 8 np)) (h8:a0s H 8=fmB false m (g8 L)):
  Relab H n (rdR n m (roD n np L)) (fun _=>0) ((th,rgP false n m)::rdN n m 0 (roD n np L)) [6,7,8] 3:=by
 have r0:∀q,q<m->rdR n m (roD n np L) n q=some (6,q):=fun q hq=>i0q (D:=roD n np L) (i:=0) (d:=⟨6,g6 L (n+1)⟩) rfl hq
 have r1:∀q,q<m->rdR n m (roD n np L) (n+1) q=some (7,q):=fun q hq=>i0q (D:=roD n np L) (i:=1) (d:=⟨7,g7 L (n+2) np⟩) rfl hq
 have r2:∀q,q<m->rdR n m (roD n np L) (n+2) q=some (8,q):=fun q hq=>i0q (D:=roD n np L) (i:=2) (d:=⟨8,g8 L⟩) rfl hq
 exact o0C (n:=n) (th:=th) (roD n np L) ht.1 h5 (d0q ⟨⟨fun _=>rfl,fun i hi=>c0G (by omega) (r0 i hi)⟩,trivial⟩)
  ⟨⟨(show (6:Nat)≠th by omega),_,_,h6,fun q hq=>⟨hq,b0l ⟨a0E _,c0G (by omega) (r1 q hq),a0E _,a0E _,trivial⟩⟩⟩,⟨(show (7:Nat)≠th by omega),_,_,h7,fun q hq=>⟨hq,b0l ⟨a0E _,e0Q (by omega) (r2 q hq),trivial⟩⟩⟩,⟨(show (8:Nat)≠th by omega),_,_,h8,fun q hq=>⟨hq,.inl rfl⟩⟩,trivial⟩ rfl
end
section
attribute [local irreducible] a0q a0r a0j a0R sortI
abbrev rgH (h5 h6 h7 h8 np m:Nat) (cut:Int) (L:List Rc):a0h:= [(1,rgC false h5 np m cut),(h5,rgP false h6 m),(h6,fmB false m (g6 L h7)),(h7,fmB false m (g7 L h8 np)),(h8,fmB false m (g8 L))]
theorem k0z {h5 h6 h7 h8 np m:Nat} {cut:Int} {L:List Rc}:d0A (rgH h5 h6 h7 h8 np m cut L):=a0c (a0c (a0u (a0u (a0u a0b))))
abbrev rgI (np m:Nat) (cut:Int) (L:List Rc) (pr:List ByteArray):a0h:=(4,cyP true np pr)::rgH 5 6 7 8 np m cut L
theorem z0Q {ρ:Nat->Nat} {h h' m hc hc':Nat} (e1:ρ h=h') (e2:ρ hc=hc'):SV.rens ρ (d0I h m++ [.ptr hc 0 0 0])=d0I h' m++ [.ptr hc' 0 0 0]:=by
 rw [g0b];simp [d0I,SV.ren,e1,e2]
theorem p0a (L:List Rc) (m:Nat) (hL:L.length=m) (hm:m<=100000) (pr:List ByteArray) (np:Nat) (cut d:Int) (h:d∈rcD L):FC Tryz.prog 9 105 [.ptr 1 0 0 0,.int .i64 d] (rgI np m cut L pr) (a0f (.ptr 6 (a0G (rcD L) d) 0 0) (rgH 12 6 7 8 np m cut L) 13):=by
 have c:=i0M L m hL hm np cut d;unfold rfV at c;rw [if_pos h] at c;refine fEx Tryz.func105 ?_;repeat' ((conv=>whnf);first|refine cOx (l:= [0,1,2,3,4,5,6,7,8]) c ?_|refine a0a ?_|(apply bRx<;>intro h<;>try (exfalso;(try dsimp only at h);omega)))
 all_goals (conv=>whnf)
 all_goals first
  |(exfalso;omega)
  |exact rOx [0,1,2,3,4,5,6,7,8,0,0,0,5] k0z
  |trace_state
abbrev rgN (h5 hc m:Nat):Nat×Option HB:=(h5,some (.one false (.cols (m+1) [.svs (d0I 6 m++ [.ptr hc 0 0 0])])))
theorem p0b (L:List Rc) (m:Nat) (hL:L.length=m) (hm:m<=100000) (pr:List ByteArray) (np:Nat) (hp:pr.length=np) (he:b0R pr=0) (hsz:∀k,(pr.getD k ⟨#[]⟩).size<=9223372036854775807) (cut d:Int) (h:¬d∈rcD L):
  FC Tryz.prog 9 105 [.ptr 1 0 0 0,.int .i64 d] (rgI np m cut L pr)
   (a0f (.ptr 9 0 0 0) [(1,rgC false 12 np (m+1) cut),rgN 12 9 m,(9,some (.one false (.cells [.int .i64 d,.ptr 10 0 0 0,.bool false,.bool false]))),(10,some (.one false (.cells [.sl 4 0 0 np,.sl 11 0 0 0]))),(11,some (.one false (pxB 0 (b0e [])))),(6,fmB false m (g6 L 7)),(7,fmB false m (g7 L 8 np)),(8,fmB false m (g8 L))] 13):=by
 have c:=i0M L m hL hm np cut d;unfold rfV at c;rw [if_neg h] at c;have cN:=o0S pr np hp hsz;unfold z0J at cN;rw [if_neg (by rw [he];simp)] at cN;refine fEx Tryz.func105 ?_;repeat' ((conv=>whnf);first|refine cOx (l:= [0,1,2,3,4,5,6,7,8]) c ?_|refine cOx (l:= [0,4]) cN ?_|refine a0a ?_|(apply bRx<;>intro h<;>try (exfalso;(try dsimp only at h);omega)))
 all_goals (conv=>whnf)
 refine e0z (l:= [0,1,2,3,4,5,6,7,8,10,9,13,12]) [.cell 9 1 [.sc (.strs []),.sc (.ints .i64 []),.sc (.strs [])]] ⟨rfl,rfl,?_⟩ (a0c (a0c (a0c (a0c (a0c (a0u (a0u (a0u a0b))))))));refine ⟨rfl,?_,rfl,rfl,rfl,rfl,rfl,rfl,trivial⟩;exact (congrArg (fun x=>some (HB.one false (Blk.cols (m+1) [BCol.svs x]))) (z0Q (h':=6) (hc':=10) rfl rfl)).symm
theorem s0p (L:List Rc) (m m':Nat) (hL:L.length=m) (hm:m<=100000) (pr:List ByteArray) (np:Nat) (hp:pr.length=np) (he:b0R pr=0) (hsz:∀k,(pr.getD k ⟨#[]⟩).size<=9223372036854775807) (cut d:Int) (hm':(rcW L d).length=m'):
  FC Tryz.prog 9 105 [.ptr 1 0 0 0,.int .i64 d] (rgI np m cut L pr) (a0f (.ptr 13 (a0G (rcD (rcW L d)) d) 0 0) (rgH 12 13 14 15 np m' cut (rcW L d)) 16):=by
 by_cases h:d∈rcD L
 .have e:rcW L d=L:=if_pos h;rw [e] at hm'⊢;rw [hL] at hm';subst hm';have hi:a0G (rcD L) d<m:=by have:=(d0Z h).1;omega
  exact o0N [(1,rgC false 12 np m cut)] (p0a L m hL hm pr np cut d h) (c1Z (n:=13) (np:=np) (L:=L) (by omega) (by omega) rfl rfl rfl rfl)
   (c0G (m0D 13) (i0q (D:=roD 13 np L) (i:=0) (d:=⟨6,g6 L 14⟩) rfl hi)) (fun h hh=>by
    simp only [a0n,y0E] at hh;subst hh;exact ⟨rfl,by simp [a0n,rdN],by simp⟩)
 .have e:rcW L d=L++ [d0H d]:=if_neg h;rw [e] at hm'⊢;rw [y0A,hL,g1z] at hm';subst hm';have hi:a0G (rcD (L++ [d0H d])) d=m:=by
   have e3:rcD (L++ [d0H d])=rcD L++ [d]:=by simp [d0H]
   rw [e3];refine l0T (by rw [y0A,f0i,hL];simp) ?_ (fun i hi q=>h ?_)
   .rw [List.getD,v0k (by rw [f0i];omega),f0i,hL,h1P];rfl
   .have hl:i<(rcD L).length:=by rw [f0i];omega
    rw [List.getD,v0f hl,j0I hl] at q;rw [<-q];exact b1P hl
  rw [hi];exact o0N [(1,rgC false 12 np (m+1) cut)] (p0b L m hL hm pr np hp he hsz cut d h) (c1Y (n:=13) (th:=12) (hc:=9) (hb:=10) (hl:=11) (np:=np) (L:=L) (x:=d0H d) (by omega) (by omega) (by omega) (by omega) (by omega) hL rfl rfl rfl rfl rfl rfl rfl rfl)
   (c0G (m0D 13) (d0D (D:=rnD 13 9 10 11 np (L++ [d0H d])) (i:=0) (d:=⟨6,9,g6 (L++ [d0H d]) 14⟩) rfl)) (fun h hh=>by
    simp only [a0n,y0E] at hh;subst hh;exact ⟨rfl,by simp [a0n,gdN],by simp⟩)
end
section
attribute [local irreducible] a0q a0r a0j a0R sortI
def g7q (hp:Nat) (L:List Rc) (hl np:Nat) (x:Nat):Blk:= .cells [.sl hp 0 0 np,.sl hl x 0 (L.getD x rc0).R.length]
def f1a (x:Rc) (f t c:ByteArray) (a:Int):Rc:= { x with mv:=true,R:=rmR x.R f t c a}
theorem q0E {L:List Rc} {m i np:Nat} (hi:i<m) (pr:List ByteArray) (hnp:np<=1000000) (hr:(L.getD i rc0).R.length<=10000) (f t c:ByteArray) (a:Int) (hb:∀p c,-4503599627370496<=d0g (L.getD i rc0).R p c/\d0g (L.getD i rc0).R p c<=4503599627370496) (he:rmE np pr (L.getD i rc0).R f t c a≠0):
  FC Tryz.prog 4 136 [.ptr 1 i 0 0,.str f,.str t,.agg [.int .i64 a,.str c]] [(1,fmB false m (g7q 2 L 3 np)),(2,some (.one true (.cols np [.sc (.strs pr)]))),(3,fmB true m (g8 L))] (a0f (.int .i64 (rmE np pr (L.getD i rc0).R f t c a)) [(1,fmB false m (g7q 2 L 3 np))] 4):=by
 have cM:=l0S np pr hnp (L.getD i rc0).R _ rfl hr f t c a hb;unfold z0L at cM;rw [if_neg he] at cM;have c0:=j0G [(1,⟨i,fun x=>x<m,g7q 2 L 3 np⟩),(3,⟨i,fun x=>x<m,g8 L⟩)] (by
  refine ⟨⟨by decide,by decide,_,_,rfl,hi,?_,.inr ⟨rfl,_,rfl⟩⟩,⟨by decide,by decide,_,_,rfl,hi,rfl,.inl rfl⟩,trivial⟩;show Blk.cells [.sl 2 0 0 np,.sl 3 i 0 _]= .cells [.sl 2 0 0 np,.sl 3 (0+i) 0 _];rw [a1J]) (by exact ⟨rfl,rfl,rfl,trivial⟩) (by exact ⟨rfl,trivial⟩) (a0c a0b) cM
 have e:SV.mems (fmu [(1,⟨i,fun x=>x<m,g7q 2 L 3 np⟩),(3,⟨i,fun x=>x<m,g8 L⟩)]) [.ptr 1 0 0 0,.str f,.str t,.agg [.int .i64 a,.str c]]= [.ptr 1 i 0 0,.str f,.str t,.agg [.int .i64 a,.str c]]:=by
  show [SV.ptr 1 (0+i) 0 0,.str f,.str t,.agg [.int .i64 a,.str c]]=_;rw [a1J]
 rw [e] at c0;have e2:(fmB false m (g7q 2 L 3 np))=fmB false m (fun x=>if x=i then .cells [.sl 2 0 0 np,.sl 3 (0+i) 0 (L.getD i rc0).R.length] else g7q 2 L 3 np x):=by
  refine congrArg (fun f=>some (HB.fam false (fun x=>x<m) f)) (funext fun x=> ?_);split
  .rename_i h;subst h;rw [a1J];rfl
  .rfl
 have c1:FC Tryz.prog 4 136 [.ptr 1 i 0 0,.str f,.str t,.agg [.int .i64 a,.str c]] [(1,fmB false m (g7q 2 L 3 np)),(2,some (.one true (.cols np [.sc (.strs pr)]))),(3,fmB true m (g8 L))] (a0f (.int .i64 (rmE np pr (L.getD i rc0).R f t c a)) [(1,fmB false m (fun x=>if x=i then .cells [.sl 2 0 0 np,.sl 3 (0+i) 0 (L.getD i rc0).R.length] else g7q 2 L 3 np x))] 4):=c0;rw [<-e2] at c1;exact c1
abbrev g7n (hp nw hl:Nat) (L:List Rc) (i np k:Nat):Nat->Blk:=fun x=>if x=i then .cells [.sl hp 0 0 np,.sl nw 0 0 k] else g7q hp L hl np x
theorem q0F {L:List Rc} {m i np:Nat} (hi:i<m) (pr:List ByteArray) (hnp:np<=1000000) (hr:(L.getD i rc0).R.length<=10000) (f t c:ByteArray) (a:Int) (hb:∀p c,-4503599627370496<=d0g (L.getD i rc0).R p c/\d0g (L.getD i rc0).R p c<=4503599627370496) (he:rmE np pr (L.getD i rc0).R f t c a=0):
  FC Tryz.prog 4 136 [.ptr 1 i 0 0,.str f,.str t,.agg [.int .i64 a,.str c]] [(1,fmB false m (g7q 2 L 3 np)),(2,some (.one true (.cols np [.sc (.strs pr)]))),(3,fmB true m (g8 L))]
   (a0f (.int .i64 0) [(1,fmB false m (g7n 2 4 3 L i np (rmR (L.getD i rc0).R f t c a).length)),(4,some (.one false (pxB (rmR (L.getD i rc0).R f t c a).length (b0e (rmR (L.getD i rc0).R f t c a)))))] 5):=by
 have cM:=l0S np pr hnp (L.getD i rc0).R _ rfl hr f t c a hb;unfold z0L at cM;rw [if_pos he] at cM;have c0:=j0G [(1,⟨i,fun x=>x<m,g7q 2 L 3 np⟩),(3,⟨i,fun x=>x<m,g8 L⟩)] (by
  refine ⟨⟨by decide,by decide,_,_,rfl,hi,?_,.inr ⟨rfl,_,rfl⟩⟩,⟨by decide,by decide,_,_,rfl,hi,rfl,.inl rfl⟩,trivial⟩;show Blk.cells [.sl 2 0 0 np,.sl 3 i 0 _]= .cells [.sl 2 0 0 np,.sl 3 (0+i) 0 _];rw [a1J]) (by exact ⟨rfl,rfl,rfl,trivial⟩) (by exact ⟨rfl,rfl,trivial⟩) (a0c (a0c a0b)) cM
 have e:SV.mems (fmu [(1,⟨i,fun x=>x<m,g7q 2 L 3 np⟩),(3,⟨i,fun x=>x<m,g8 L⟩)]) [.ptr 1 0 0 0,.str f,.str t,.agg [.int .i64 a,.str c]]= [.ptr 1 i 0 0,.str f,.str t,.agg [.int .i64 a,.str c]]:=by
  show [SV.ptr 1 (0+i) 0 0,.str f,.str t,.agg [.int .i64 a,.str c]]=_;rw [a1J]
 rw [e] at c0;exact c0
abbrev spD (n a b c nw i np:Nat) (L:List Rc):List SD:= [⟨fun q=>(a,q),g6 L (n+1)⟩,⟨fun q=>(b,q),g7 L (n+2) np⟩,⟨fun q=>if q=i then (nw,0) else (c,q),g8 L⟩]
theorem h0o {L:List Rc} {i:Nat} (hi:i<L.length) (y:Rc) (q:Nat):(L.set i y).getD q rc0=if q=i then y else L.getD q rc0:=by
 split
 .rename_i h;subst h;rw [List.getD,h1C hi];rfl
 .rename_i h;rw [List.getD,List.getD,h1J (fun w=>h w.symm)]
theorem d1a {H:a0h} {n m np th a b c nw i:Nat} {L:List Rc} {y:Rc} (hL:L.length=m) (hi:i<m) (hn:th<n/\a<n/\b<n/\c<n/\nw<n/\4<n) (hd:a≠th/\b≠th/\c≠th/\nw≠th) (hd2:a≠b/\a≠c/\a≠nw/\b≠c/\b≠nw/\c≠nw) {f6 f7:Nat->Blk}
  (h5:a0s H th=rgP false a m) (h6:a0s H a=fmB false m f6) (h7:a0s H b=fmB false m f7) (h8:a0s H c=fmB false m (g8 L)) (h9:a0s H nw=some (.one false (pxB y.R.length (b0e y.R))))
  (e6:∀q,f6 q=if q=i then .cells [.int .i64 y.d,.ptr b i 0 0,.bool y.mv,.bool y.cl] else g6 L b q) (e7:∀q,f7 q=if q=i then .cells [.sl 4 0 0 np,.sl nw 0 0 y.R.length] else g7 L c np q):
  Relab H n (sdR n m (spD n a b c nw i np (L.set i y))) (fun _=>0) ((th,rgP false n m)::sdN n m 0 (spD n a b c nw i np (L.set i y))) [a,b,c,nw] 3:=by
 have r0:∀q,q<m->sdR n m (spD n a b c nw i np (L.set i y)) n q=some (a,q):=fun q hq=>s0l (D:=spD n a b c nw i np (L.set i y)) (i:=0) (d:=⟨fun q=>(a,q),g6 (L.set i y) (n+1)⟩) rfl hq
 have r1:∀q,q<m->sdR n m (spD n a b c nw i np (L.set i y)) (n+1) q=some (b,q):=fun q hq=>s0l (D:=spD n a b c nw i np (L.set i y)) (i:=1) (d:=⟨fun q=>(b,q),g7 (L.set i y) (n+2) np⟩) rfl hq
 have r2:∀q,q<m->sdR n m (spD n a b c nw i np (L.set i y)) (n+2) q=some (if q=i then (nw,0) else (c,q)):=fun q hq=>s0l (D:=spD n a b c nw i np (L.set i y)) (i:=2) (d:=⟨fun q=>if q=i then (nw,0) else (c,q),g8 (L.set i y)⟩) rfl hq
 have hs:=h0o (L:=L) (i:=i) (by omega) y;refine w0Q (n:=n) (th:=th) (spD n a b c nw i np (L.set i y)) [a,b,c,nw] hn.1 h5 (d0q ⟨⟨fun _=>rfl,fun i hi=>c0G (by omega) (r0 i hi)⟩,trivial⟩) ?_ ?_
 .intro j d hj q hq
  match j,hj with
  |0,hj=>
   simp only [nth,Option.some.injEq] at hj;subst hj;refine ⟨hd.1,by simp,f6 q,⟨_,h6,⟨hq,rfl⟩,rfl⟩,?_⟩;dsimp only;rw [e6];unfold g6;rw [hs];by_cases e:q=i
   .subst e;rw [if_pos rfl,if_pos rfl];exact b0l ⟨a0E _,c0G (by omega) (r1 q hq),a0E _,a0E _,trivial⟩
   .rw [if_neg e,if_neg e];exact b0l ⟨a0E _,c0G (by omega) (r1 q hq),a0E _,a0E _,trivial⟩
  |1,hj=>
   simp only [nth,Option.some.injEq] at hj;subst hj;refine ⟨hd.2.1,by simp,f7 q,⟨_,h7,⟨hq,rfl⟩,rfl⟩,?_⟩;dsimp only;rw [e7];have r2q:=r2 q hq;unfold g7;rw [hs];by_cases e:q=i
   .subst e;rw [if_pos rfl] at r2q;rw [if_pos rfl,if_pos rfl];exact b0l ⟨a0E _,e0Q (by omega) r2q,trivial⟩
   .rw [if_neg e] at r2q;rw [if_neg e,if_neg e];exact b0l ⟨a0E _,e0Q (by omega) r2q,trivial⟩
  |2,hj=>
   simp only [nth,Option.some.injEq] at hj;subst hj;dsimp only;unfold g8;rw [hs];by_cases e:q=i
   .subst e;rw [if_pos rfl,if_pos rfl];exact ⟨hd.2.2.2,by simp,_,⟨_,h9,⟨rfl,rfl⟩,rfl⟩,.inl rfl⟩
   .rw [if_neg e,if_neg e];exact ⟨hd.2.2.1,by simp,_,⟨_,h8,⟨hq,rfl⟩,rfl⟩,.inl rfl⟩
  |j+3,hj=>simp [nth] at hj
 .intro j k d e q q' hj hk hq hq' heq;have hall:∀(j:Nat) (d:SD) (q:Nat),nth (spD n a b c nw i np (L.set i y)) j=some d->(j=0/\d.src q=(a,q))\/(j=1/\d.src q=(b,q))\/(j=2/\d.src q=if q=i then (nw,0) else (c,q)):=by
   intro j d q hj
   match j,hj with
   |0,hj=>simp only [nth,Option.some.injEq] at hj;subst hj;exact .inl ⟨rfl,rfl⟩
   |1,hj=>simp only [nth,Option.some.injEq] at hj;subst hj;exact .inr (.inl ⟨rfl,rfl⟩)
   |2,hj=>simp only [nth,Option.some.injEq] at hj;subst hj;exact .inr (.inr ⟨rfl,rfl⟩)
   |j+3,hj=>simp [nth] at hj
  obtain ⟨x1,x2,x3,x4,x5,x6⟩:=hd2;rcases hall j d q hj with ⟨rfl,h1⟩|⟨rfl,h1⟩|⟨rfl,h1⟩<;>rcases hall k e q' hk with ⟨rfl,h2⟩|⟨rfl,h2⟩|⟨rfl,h2⟩<;>rw [h1,h2] at heq
  .simp only [Prod.mk.injEq] at heq;exact ⟨rfl,heq.2⟩
  .simp only [Prod.mk.injEq] at heq;omega
  .split at heq<;>simp only [Prod.mk.injEq] at heq<;>omega
  .simp only [Prod.mk.injEq] at heq;omega
  .simp only [Prod.mk.injEq] at heq;exact ⟨rfl,heq.2⟩
  .split at heq<;>simp only [Prod.mk.injEq] at heq<;>omega
  .split at heq<;>simp only [Prod.mk.injEq] at heq<;>omega
  .split at heq<;>simp only [Prod.mk.injEq] at heq<;>omega
  .split at heq<;>split at heq<;>simp only [Prod.mk.injEq] at heq<;>omega
end
section
attribute [local irreducible] a0q a0r a0j a0R sortI
def z0R (L:List Rc) (pr:List ByteArray) (np:Nat) (D:Int) (f t c:ByteArray) (a:Int):Int:=if D<0 then 14 else rmE np pr (b0x L D).R f t c a
def p0k (L:List Rc) (pr:List ByteArray) (np:Nat) (D:Int) (f t c:ByteArray) (a:Int):List Rc:=if D<0 then L else if rmE np pr (b0x L D).R f t c a=0 then h0n L D (f1a (b0x L D) f t c a) else rcW L D
def f1b (L:List Rc) (pr:List ByteArray) (np:Nat) (cut D:Int) (f t c:ByteArray) (a:Int):SV->a0h->Nat->Prop:=
 a0f (.tup [.int .i64 (if z0R L pr np D f t c a=0 then D else 0),.int .i64 (z0R L pr np D f t c a)]) (rgH 9 10 11 12 np (p0k L pr np D f t c a).length cut (p0k L pr np D f t c a)) 13
abbrev f1H (np m hn:Nat) (cut:Int) (hs:List Int) (L:List Rc) (pr:List ByteArray):a0h:=(2,rcC true 3 hn)::(3,inB hn hs)::rgI np m cut L pr
theorem d1b {ρ:Nat->Nat} {i:Nat} {A:Blk} {F:Nat->Blk} {B:Blk} {G:Nat->Blk} (h:Blk.ren ρ A=B/\∀q,Blk.ren ρ (F q)=G q) (q:Nat):Blk.ren ρ (if q=i then A else F q)=if q=i then B else G q:=by
 split
 .exact h.1
 .exact h.2 q
set_option maxHeartbeats 1000000 in
theorem z0S {np m hn:Nat} {hs:List Int} {L:List Rc} {pr:List ByteArray} (hL:L.length=m) (hm:m<=1000) (hN:(rcD L).Nodup) (hh:hs.length=hn) (hn4:hn<=100000) (hp:pr.length=np) (he:b0R pr=0) (hsz:∀k,(pr.getD k ⟨#[]⟩).size<=9223372036854775807) (hnp:np<=1000)
  (hR:∀d,(b0x L d).R.length<=10000) (hB:∀d p c,-4503599627370496<=d0g (b0x L d).R p c/\d0g (b0x L d).R p c<=4503599627370496) (cut t:Int) (f g c:ByteArray) (a:Int):
  FC Tryz.prog 9 99 [.ptr 1 0 0 0,.int .i64 t,.str f,.str g,.agg [.int .i64 a,.str c]] (f1H np m hn cut hs L pr) (f1b L pr np cut (mvD hs (rcX L) (ofI hs cut t)) f g c a):=by
 have c1:=e1Z np hn m cut hs hh hn4 t;rw [s0j] at c1;have hX:=b1f (hs:=hs) (cut:=cut) (t:=t);generalize ofI hs cut t=X at*;have hD:mvF hs (rcX L) 100001 X=mvD hs (rcX L) X:=by unfold mvD;rfl
 generalize mvD hs (rcX L) X=D at*;obtain ⟨K0,hK⟩:∃K:Nat,K=100001:=⟨_,rfl⟩;rw [<-hK] at hD;refine fEx Tryz.func99 ?_;repeat' ((conv=>whnf);first|refine cOx (l:= [0,1,2,3,4,5,6,7,8]) c1 ?_|refine a0a ?_|(apply bRx<;>intro h<;>try (exfalso;(try dsimp only at h);omega)))
 all_goals (conv=>whnf)
 refine a0o (fun x:Nat×Int=>⟨[(0,.ptr 1 0 0 0),(2,.str f),(3,.str g),(9,.ptr 9 0 0 0),(12,.int .i64 (ofP x.2)),(13,.int .i64 (ofQ x.2))],(9,some (.one false (.cells [.int .i64 a,.str c])))::f1H np m hn cut hs L pr,10⟩) (fun x=>mvF hs (rcX L) x.1 x.2=D/\x.2<=99999/\(x.2<0\/100001-x.2<=(x.1:Int))) (fun x=>x.1) (K0,X) [0,1,2,3,4,5,6,7,8,9] [] wHx ⟨hD,hX,by dsimp only;omega⟩ ?_;rintro ⟨k,x⟩ ⟨hF,hx,hk⟩;dsimp only at hF hx hk;clear hD hX hK c1;by_cases h0:x<0
 .have e1:ofP x=0:=if_pos h0;have e2:ofQ x=14:=if_pos h0;dsimp only;rw [e1,e2];rw [q0C h0] at hF;subst hF;have o1:z0R L pr np (-1) f g c a=14:=if_pos (by decide);have o2:p0k L pr np (-1) f g c a=L:=if_pos (by decide);unfold f1b;rw [o1,o2,if_neg (by decide),hL];repeat' ((conv=>whnf);first|refine a0a ?_|(apply bRx<;>intro h<;>try (exfalso;(try dsimp only at h);omega)))
  all_goals (conv=>whnf)
  all_goals first
   |exact rOx [0,1,2,3,4,5,6,7,8,5,6,7,8] k0z
   |(exfalso;omega)
   |trace_state
 .have e1:ofP x=x:=if_neg h0;have e2:ofQ x=0:=if_neg h0;dsimp only;rw [e1,e2];obtain ⟨k,rfl⟩:∃j,k=j+1:=⟨k-1,by omega⟩;simp only [mvF] at hF;rw [if_neg h0] at hF;have c2:=l0U L m hL (by omega) np cut x;by_cases hxc:x∈rcX L
  .rw [if_pos hxc] at hF;rw [(k0t hN).1 hxc] at c2;have c3:=o0Z np hn m cut hs hh hn4 x (by omega) hx;rw [s0j] at c3;have hN2:nxI hs (x+1)<=99999/\(nxI hs (x+1)<0\/x+1<=nxI hs (x+1)):=by
    by_cases q:nxI hs (x+1)<0
    .exact ⟨by omega,.inl q⟩
    .have:=w0E q;exact ⟨this.2.1,.inr this.1⟩
   generalize nxI hs (x+1)=y at*;repeat' ((conv=>whnf);first|refine cOx (l:= [0,1,2,3,4,5,6,7,8]) c2 ?_|refine cOx (l:= [0,1,2,3,4,5,6,7,8]) c3 ?_|refine a0a ?_|(apply bRx<;>intro h<;>try (exfalso;(try dsimp only at h);omega)))
   all_goals (conv=>whnf)
   all_goals first
    |exact ⟨(k,y),[0,1,2,3,4,5,6,7,8,9],[],⟨hF,hN2.1,by dsimp only;omega⟩,Nat.lt_succ_self k,⟨rfl,⟨rfl,rfl,rfl,rfl,rfl,rfl,trivial⟩,⟨rfl,rfl,rfl,rfl,rfl,rfl,rfl,rfl,rfl,trivial⟩⟩⟩
    |(exfalso;omega)
    |trace_state
  .rw [if_neg hxc] at hF;have hcl:(b0x L x).cl=false:=by
    cases q:(b0x L x).cl with
    |false=>rfl
    |true=>exact absurd ((k0t hN).2 q) hxc
   rw [hcl] at c2;subst hF;have hlen:=n0d L x;have hat:b0x L x=(rcW L x).getD (a0G (rcD (rcW L x)) x) rc0:=by
    rw [<-k0v x x];exact if_pos (f0j L x)
   have hi:a0G (rcD (rcW L x)) x<(rcW L x).length:=(d0Z (f0j L x)).1;have c3:=s0p L m (rcW L x).length hL (by omega) pr np hp he hsz cut x rfl;have hRx:=hR x;have hBx:=hB x;have oX:z0R L pr np x f g c a=rmE np pr (b0x L x).R f g c a:=if_neg h0;by_cases hz:rmE np pr (b0x L x).R f g c a=0
   .have oL:p0k L pr np x f g c a=(rcW L x).set (a0G (rcD (rcW L x)) x) (f1a (b0x L x) f g c a):=by
     unfold p0k;rw [if_neg h0,if_pos hz];rfl
    unfold f1b;rw [oX,oL,hz,if_pos rfl,h1N];rw [hat] at hz hRx hBx⊢;clear oX oL hat;generalize a0G (rcD (rcW L x)) x=i at*;generalize rcW L x=L2 at*;obtain ⟨m2,hm2⟩:∃m2,L2.length=m2:=⟨_,rfl⟩;rw [hm2] at hi c3⊢;have c4:=q0F hi pr (by omega) hRx f g c a hBx hz;repeat' ((conv=>whnf);first|refine cOx (l:= [0,1,2,3,4,5,6,7,8]) c2 ?_|refine cOx (l:= [0,1,2,3,4,5,6,7,8]) c3 ?_|refine cOx (l:= [0,15,4,16]) c4 ?_|refine a0a ?_|(apply bRx<;>intro h<;>try (exfalso;(try dsimp only at h);omega)))
    all_goals (conv=>whnf)
    all_goals first
     |exact e0z (l:= [0,1,2,3,4,5,6,7,8,13,18,19,20]) [.relab (sdR 18 m2 (spD 18 14 15 16 17 i np (L2.set i (f1a (L2.getD i rc0) f g c a)))) (fun _=>0) ((13,rgP false 18 m2)::sdN 18 m2 0 (spD 18 14 15 16 17 i np (L2.set i (f1a (L2.getD i rc0) f g c a)))) [14,15,16,17] 3] ⟨d1a (n:=18) (y:=f1a (L2.getD i rc0) f g c a) hm2 hi (by decide) (by decide) (by decide) rfl rfl rfl rfl rfl (fun q=>rfl) (d1b ⟨rfl,fun _=>rfl⟩),rfl,rfl,⟨rfl,rfl,rfl,rfl,rfl,trivial⟩⟩ k0z
     |(exfalso;omega)
     |trace_state
   .have oL:p0k L pr np x f g c a=rcW L x:=by
     unfold p0k;rw [if_neg h0,if_neg hz]
    unfold f1b;rw [oX,oL,if_neg hz];rw [hat] at hz hRx hBx⊢;clear oX oL hat;generalize a0G (rcD (rcW L x)) x=i at*;generalize rcW L x=L2 at*;obtain ⟨m2,hm2⟩:∃m2,L2.length=m2:=⟨_,rfl⟩;rw [hm2] at hi c3⊢;have c4:=q0E hi pr (by omega) hRx f g c a hBx hz;generalize rmE np pr (L2.getD i rc0).R f g c a=e at*;repeat' ((conv=>whnf);first|refine cOx (l:= [0,1,2,3,4,5,6,7,8]) c2 ?_|refine cOx (l:= [0,1,2,3,4,5,6,7,8]) c3 ?_|refine cOx (l:= [0,15,4,16]) c4 ?_|refine a0a ?_|(apply bRx<;>intro h<;>try (exfalso;(try dsimp only at h);omega)))
    all_goals (conv=>whnf)
    all_goals first
     |exact rOx [0,1,2,3,4,5,6,7,8,13,14,15,16] k0z
     |(exfalso;omega)
     |trace_state
end
section
attribute [local irreducible] a0q a0r a0j a0R sortI
def opF (L:List Rc):List Int:=(L.filter fun x=>x.mv&& !x.cl).map Rc.d
structure OoI (L:List Rc) (i m:Nat) (O:List Int):Prop where
 le:i<=L.length
 m:O.length=m
 asc:O.Pairwise (fun a b=>a<=b)
 perm:O.Perm (opF (L.take i))
theorem d1c (L:List Rc):(opF L).length<=L.length:=by unfold opF;rw [b1M];exact i1S _ _
theorem x0f {L:List Rc} {i:Nat} (hi:i<L.length):L.take (i+1)=L.take i++ [L.getD i rc0]:=by
 rw [i1A,List.getD,j0I hi];rfl
theorem z0T {L:List Rc} {i m:Nat} {O:List Int} (h:OoI L i m O) (hi:i<L.length) (ho:((L.getD i rc0).mv&& !(L.getD i rc0).cl)=false):OoI L (i+1) m O:=by
 refine ⟨hi,h.m,h.asc,?_⟩;rw [x0f hi];unfold opF;rw [i1h,i1b,ho];simp only [h1K,if_false,j1U,j1T];exact h.perm
theorem d1d {L:List Rc} {i m k:Nat} {O:List Int} (h:OoI L i m O) (hi:i<L.length) (ho:((L.getD i rc0).mv&& !(L.getD i rc0).cl)=true) (hk:k<=m) (h1:0<k->O.getD (k-1) 0<=(L.getD i rc0).d) (h2:k<m->(L.getD i rc0).d<=O.getD k 0):OoI L (i+1) (k+1+(m-k)) (O.take k++(L.getD i rc0).d::O.drop k):=by
 have hm:=h.m;have asc:∀{a b:Nat},a<b->b<O.length->O.getD a 0<=O.getD b 0:=fun {a b} hab hb=>by
  have:=h1u.1 h.asc a b (by omega) hb hab;rw [List.getD,List.getD,j0I (by omega),j0I hb];exact this
 refine ⟨hi,by simp;omega,?_,?_⟩
 .refine i1Y.2 ⟨h.asc.sublist (List.take_sublist _ _),h1X.2 ⟨fun b hb=> ?_,h.asc.sublist (List.drop_sublist _ _)⟩,fun a ha b hb=> ?_⟩
  .obtain ⟨j,hj,e⟩:=h1x.1 hb;rw [h1k] at hj;rw [List.getElem_drop] at e;have e2:O.getD (k+j) 0=b:=by rw [List.getD,j0I (by omega),e];rfl
   have:=h2 (by omega);by_cases q:j=0
   .subst q;rw [<-e2];exact this
   .have:=asc (show k<k+j by omega) (by omega);omega
  .obtain ⟨j,hj,e⟩:=h1x.1 ha;rw [d1I] at hj;rw [i1m] at e;have e2:O.getD j 0=a:=by rw [List.getD,j0I (by omega),e];rfl
   have hb1:=h1 (by omega);have hle:a<=O.getD (k-1) 0:=by
    by_cases q:j=k-1
    .rw [<-q,e2];exact Int.le_refl _
    .rw [<-e2];exact asc (show j<k-1 by omega) (by omega)
   rcases v0e.1 hb with rfl|hb
   .omega
   .obtain ⟨j',hj',e'⟩:=h1x.1 hb;rw [h1k] at hj';rw [List.getElem_drop] at e';have e3:O.getD (k+j') 0=b:=by rw [List.getD,j0I (by omega),e'];rfl
    rw [<-e2,<-e3];exact asc (show j<k+j' by omega) (by omega)
 .rw [x0f hi];have e:opF (L.take i++ [L.getD i rc0])=opF (L.take i)++ [(L.getD i rc0).d]:=by
   unfold opF;rw [i1h,i1b,ho];simp only [if_true,j1U,f1T,e1F,h1W]
  rw [e];have p1:(O.take k++(L.getD i rc0).d::O.drop k).Perm ((L.getD i rc0).d::(O.take k++O.drop k)):=List.perm_middle;rw [i1o] at p1;exact p1.trans ((List.Perm.cons _ h.perm).trans (List.perm_append_singleton _ _).symm)
theorem d1e {O:List Int} {m k:Nat} (hm:O.length=m) (hk:k<=m) {d:Int}:
  (some (HB.one false (.cols (0+k+1+(m-k)) [.sc (.ints .i64 (seg 0 k O++ [d]++seg (k+0) (m-k) O))])):Option HB)=some (.one false (.cols (0+k+1+(m-k)) [.sc (.ints .i64 (O.take k++d::O.drop k))])):=by
 rw [i0K (l:=O) (by simp [hm])];simp [s0n]
theorem x0g {l m:List Int} (hp:m.Perm l) (hm:m.Pairwise (fun a b=>a<=b)):sortI l=m:=
 (h0S l|>.trans hp.symm).eq_of_pairwise (le:=fun a b=>a<=b) (fun a b _ _ h1 h2=>Int.le_antisymm h1 h2) (d0F l) hm
theorem z0U (L:List Rc) (n:Nat) (hn:L.length=n) (hl:n<=100000) (np:Nat) (cut:Int):FC Tryz.prog 9 104 [.ptr 1 0 0 0] [(1,rgC true 5 np n cut),(5,rgP true 6 n),(6,fmB true n (g6 L 7))] (a0f (.sl 9 0 0 (rcO L).length) [(9,some (.one false (.cols (rcO L).length [.sc (.ints .i64 (rcO L))])))] 10):=by
 refine fEx Tryz.func104 ?_;repeat' ((conv=>whnf);first|refine a0a ?_|(apply bRx<;>intro h<;>try (exfalso;(try dsimp only at h);omega)))
 all_goals (conv=>whnf)
 refine a0O (fun x:Nat×Nat×List Int=>⟨[(0,.ptr 1 0 0 0),(3,.sl 9 0 0 x.2.1),(4,.int .i64 x.1)],[(1,rgC true 5 np n cut),(5,rgP true 6 n),(6,fmB true n (g6 L 7)),(9,some (.one false (.cols x.2.1 [.sc (.ints .i64 x.2.2)])))],10⟩) (fun x=>OoI L x.1 x.2.1 x.2.2) (fun x=>n-x.1) (0,0,[]) [0,1,2,3,4,5,6,7,8,9] [.slot 3 [.sc (.ints .i64 [])]] wHx ⟨z0h _,rfl,List.Pairwise.nil,List.Perm.refl _⟩ ?_;rintro ⟨i,m,O⟩ hI;dsimp only at hI⊢;have hi:=hI.le;rw [hn] at hi;have hmn:m<=n:=by
  have h1:=hI.perm.length_eq;have h2:=d1c (L.take i);rw [d1I] at h2;have:=hI.m;omega
 by_cases hi2:i<n
 .cases ho:((L.getD i rc0).mv&& !(L.getD i rc0).cl) with
  |false=>
   have hs:=z0T hI (by omega) ho;repeat' ((conv=>whnf);first|refine a0a ?_|(apply bRx<;>intro h<;>try (exfalso;(try dsimp only at h);omega)))
   all_goals (conv=>whnf)
   all_goals first
    |exact ⟨(i+1,m,O),[0,1,2,3,4,5,6,7,8,9],[],hs,(show n-(i+1)<n-i by omega),⟨rfl,⟨rfl,rfl,congrArg (fun z=>some (SV.int .i64 z)) (a0i (by omega)),trivial⟩,⟨rfl,rfl,rfl,rfl,trivial⟩⟩⟩
    |(exfalso;first|omega|contradiction)
    |(exfalso;simp_all;done)
    |trace_state
  |true=>
   obtain ⟨hmv,hcl⟩:(L.getD i rc0).mv=true/\(L.getD i rc0).cl=false:=by simpa using ho
   repeat' ((conv=>whnf);first|refine a0a ?_|(apply bRx<;>intro h<;>try (exfalso;(try dsimp only at h);omega)))
   all_goals (conv=>whnf)
   all_goals first
    |(exfalso;first|omega|contradiction)
    |(exfalso;simp_all;done)
    |skip
   refine a0O (fun k:Nat=>⟨[(0,.ptr 1 0 0 0),(3,.sl 9 0 0 m),(4,.int .i64 i),(5,.ptr 6 i 0 0),(6,.int .i64 k)],[(1,rgC true 5 np n cut),(5,rgP true 6 n),(6,fmB true n (g6 L 7)),(9,some (.one false (.cols m [.sc (.ints .i64 O)])))],10⟩) (fun k=>k<=m/\(k<m->(L.getD i rc0).d<=O.getD k 0)) (fun k=>k) m [0,1,2,3,4,5,6,7,8,9] [] wHx ⟨m0D _,fun h=>absurd h (i1K _)⟩ ?_;rintro k ⟨hk,hge⟩;have e1:IntKind.i64.wrap ((k:Int)-1)=(k:Int)-1:=a0m (by omega) (by omega);have e2:((k:Int)-1).toNat=k-1:=by omega
   have hq:O.getD (k-1+0) 0=O.getD (k-1) 0:=rfl;have hput:=fun (h1:0<k->O.getD (k-1) 0<=(L.getD i rc0).d)=>(show k+1+(m-k)=0+k+1+(m-k) by omega)▸d1d hI (by omega) ho hk h1 hge
   have hrow:=d1e hI.m hk (d:=(L.getD i rc0).d);by_cases hk2:0<k
   .by_cases hlt:(L.getD i rc0).d<O.getD (k-1) 0
    .have hn2:k-1<=m/\(k-1<m->(L.getD i rc0).d<=O.getD (k-1) 0):=⟨by omega,fun _=>by omega⟩;have e3:(k:Int)-1=((k-1:Nat):Int):=by omega
     repeat' ((conv=>whnf);first|(simp only [e1,e2])|(refine And.intro ⟨?_,trivial,?_⟩ ?_;omega;omega)|refine a0a ?_|(apply bRx<;>intro h<;>try (exfalso;(try dsimp only at h);omega)))
     all_goals (conv=>whnf)
     all_goals first
      |exact ⟨k-1,[0,1,2,3,4,5,6,7,8,9],[],hn2,(show k-1<k by omega),⟨rfl,⟨rfl,rfl,rfl,rfl,congrArg (fun z=>some (SV.int .i64 z)) (e1.trans e3),trivial⟩,⟨rfl,rfl,rfl,rfl,trivial⟩⟩⟩
      |exact ⟨k-1,[0,1,2,3,4,5,6,7,8,9],[],hn2,(show k-1<k by omega),⟨rfl,⟨rfl,rfl,rfl,rfl,congrArg (fun z=>some (SV.int .i64 z)) e3,trivial⟩,⟨rfl,rfl,rfl,rfl,trivial⟩⟩⟩
      |(exfalso;first|omega|contradiction)
      |trace_state
    .have hp:=hput (fun _=>by omega);repeat' ((conv=>whnf);first|(simp only [e1,e2])|(refine And.intro ⟨?_,trivial,?_⟩ ?_;omega;omega)|refine a0a ?_|(apply bRx<;>intro h<;>try (exfalso;(try dsimp only at h);omega)))
     all_goals (conv=>whnf)
     all_goals first
      |(exfalso;first|omega|contradiction)
      |exact ⟨(i+1,0+k+1+(m-k),O.take k++(L.getD i rc0).d::O.drop k),[0,1,2,3,4,5,6,7,8,14],[],hp,(show n-(i+1)<n-i by omega),⟨rfl,⟨rfl,rfl,congrArg (fun z=>some (SV.int .i64 z)) (a0i (by omega)),trivial⟩,⟨rfl,rfl,rfl,hrow,trivial⟩⟩⟩
      |trace_state
   .have hp:=hput (fun h=>absurd h hk2);repeat' ((conv=>whnf);first|(simp only [e1,e2])|(refine And.intro ⟨?_,trivial,?_⟩ ?_;omega;omega)|refine a0a ?_|(apply bRx<;>intro h<;>try (exfalso;(try dsimp only at h);omega)))
    all_goals (conv=>whnf)
    all_goals first
     |(exfalso;first|omega|contradiction)
     |exact ⟨(i+1,0+k+1+(m-k),O.take k++(L.getD i rc0).d::O.drop k),[0,1,2,3,4,5,6,7,8,14],[],hp,(show n-(i+1)<n-i by omega),⟨rfl,⟨rfl,rfl,congrArg (fun z=>some (SV.int .i64 z)) (a0i (by omega)),trivial⟩,⟨rfl,rfl,rfl,hrow,trivial⟩⟩⟩
     |trace_state
 .have e:i=n:=by omega
  subst e;have e1:rcO L=O:=by
   have:=hI.perm;rw [<-hn,e1e] at this;exact x0g this hI.asc
  have e2:=hI.m;rw [e1,e2];repeat' ((conv=>whnf);first|refine a0a ?_|(apply bRx<;>intro h<;>try (exfalso;(try dsimp only at h);omega)))
  all_goals (conv=>whnf)
  all_goals first
   |exact rOx [0,1,2,3,4,5,6,7,8,9] (a0c a0b)
   |(exfalso;omega)
   |trace_state
end
section
attribute [local irreducible] a0q a0r a0j a0R sortI
theorem q0G {L:List Rc} {m i np:Nat} (hi:i<m) (pr:List ByteArray) (hr:(L.getD i rc0).R.length<=100000) (hd:m0Z (L.getD i rc0).R):
  FC Tryz.prog 4 77 [.ptr 1 i 0 0] [(1,fmB true m (g7q 2 L 3 np)),(2,some (.one true (.cols np [.sc (.strs pr)]))),(3,fmB true m (g8 L))] (a0f (.sl 4 0 0 (nz (L.getD i rc0).R).length) [(4,some (.one false (pxB (nz (L.getD i rc0).R).length (b0e (srt (nz (L.getD i rc0).R))))))] 5):=by
 have cM:=t0O np pr (L.getD i rc0).R _ rfl hr hd;have c0:=j0G [(1,⟨i,fun x=>x<m,g7q 2 L 3 np⟩),(3,⟨i,fun x=>x<m,g8 L⟩)] (by
  refine ⟨⟨by decide,by decide,_,_,rfl,hi,?_,.inl rfl⟩,⟨by decide,by decide,_,_,rfl,hi,rfl,.inl rfl⟩,trivial⟩;show Blk.cells [.sl 2 0 0 np,.sl 3 i 0 _]= .cells [.sl 2 0 0 np,.sl 3 (0+i) 0 _];rw [a1J]) (by exact ⟨rfl,rfl,rfl,trivial⟩) (by exact ⟨rfl,trivial⟩) (a0c a0b) cM
 have e:SV.mems (fmu [(1,⟨i,fun x=>x<m,g7q 2 L 3 np⟩),(3,⟨i,fun x=>x<m,g8 L⟩)]) [.ptr 1 0 0 0]= [.ptr 1 i 0 0]:=by
  show [SV.ptr 1 (0+i) 0 0]=_;rw [a1J]
 rw [e] at c0;exact c0
def rpL (L:List Rc) (d:Int):List Px:=if (b0x L d).mv=true then srt (nz (b0x L d).R) else []
abbrev rpR (np m:Nat) (cut:Int) (L:List Rc) (pr:List ByteArray):a0h:= [(1,rgC true 5 np m cut),(4,cyP true np pr),(5,rgP true 6 m),(6,fmB true m (g6 L 7)),(7,fmB true m (g7 L 8 np)),(8,fmB true m (g8 L))]
theorem h0p (L:List Rc) (m:Nat) (hL:L.length=m) (hm:m<=100000) (np:Nat) (pr:List ByteArray) (cut d:Int) (hr:(b0x L d).R.length<=100000) (hd:m0Z (b0x L d).R):
  FC Tryz.prog 9 37 [.ptr 1 0 0 0,.int .i64 d] (rpR np m cut L pr) (a0f (.sl 9 0 0 (rpL L d).length) [(9,some (.one false (pxB (rpL L d).length (b0e (rpL L d)))))] 10):=by
 have c:=i0M L m hL hm np cut d;unfold rfV at c;unfold rpL;by_cases h:d∈rcD L
 .have hi:a0G (rcD L) d<m:=by have:=(d0Z h).1;omega
  have hat:b0x L d=L.getD (a0G (rcD L) d) rc0:=if_pos h;rw [if_pos h] at c;rw [hat] at hr hd⊢;clear hat;generalize a0G (rcD L) d=i at*;cases hmv:(L.getD i rc0).mv with
  |true=>
   rw [if_pos rfl];have c2:=q0G (np:=np) hi pr hr hd;have el:(nz (L.getD i rc0).R).length=(srt (nz (L.getD i rc0).R)).length:=(n0a _).length_eq.symm;rw [el] at c2;refine fEx Tryz.func37 ?_;repeat' ((conv=>whnf);first|refine cOx (l:= [0,1,2,3,4,5,6,7,8]) c ?_|refine cOx (l:= [0,7,4,8]) c2 ?_|refine a0a ?_|(apply bRx<;>intro h<;>try (exfalso;(try dsimp only at h);omega)))
   all_goals (conv=>whnf)
   all_goals first
    |(exfalso;first|omega|contradiction)
    |exact rOx [0,1,2,3,4,5,6,7,8,9] (a0c a0b)
    |(exfalso;simp_all;done)
    |trace_state
  |false=>
   rw [if_neg (by simp)];refine r0y rfl ?_;refine fEx Tryz.func37 ?_;repeat' ((conv=>whnf);first|refine cOx (l:= [0,1,2,3,4,5,6,7,8]) c ?_|refine a0a ?_|(apply bRx<;>intro h<;>try (exfalso;(try dsimp only at h);omega)))
   all_goals (conv=>whnf)
   all_goals first
    |(exfalso;first|omega|contradiction)
    |exact d0R (fun _ _ _ h=> .inl h) (rOx [0,1,2,3,4,5,6,7,8] a0b)
    |(exfalso;simp_all;done)
    |trace_state
 .rw [if_neg h] at c;have hmv:¬(b0x L d).mv=true:=by unfold b0x;rw [if_neg h];simp [d0H]
  rw [if_neg hmv];refine r0y rfl ?_;refine fEx Tryz.func37 ?_;repeat' ((conv=>whnf);first|refine cOx (l:= [0,1,2,3,4,5,6,7,8]) c ?_|refine a0a ?_|(apply bRx<;>intro h<;>try (exfalso;(try dsimp only at h);omega)))
  all_goals (conv=>whnf)
  all_goals first
   |(exfalso;first|omega|contradiction)
   |exact d0R (fun _ _ _ h=> .inl h) (rOx [0,1,2,3,4,5,6,7,8] a0b)
   |trace_state
end
section
attribute [local irreducible] a0q a0r a0j a0R sortI
theorem f1c {L:List Rc} {h i:Nat} (hi:i<L.length) (y:Rc):(fun x=>if x=i then Blk.cells [.int .i64 y.d,.ptr h i 0 0,.bool y.mv,.bool y.cl] else g6 L h x)=g6 (L.set i y) h:=by
 funext x;unfold g6;rw [h0o hi];by_cases e:x=i
 .subst e;rw [if_pos rfl,if_pos rfl]
 .rw [if_neg e,if_neg e]
theorem f1d {L:List Rc} {h np i:Nat} (hi:i<L.length) {y:Rc} (hy:y.R=(L.getD i rc0).R):g7 (L.set i y) h np=g7 L h np:=by
 funext x;unfold g7;rw [h0o hi];by_cases e:x=i
 .subst e;rw [if_pos rfl,hy]
 .rw [if_neg e]
theorem f1e {L:List Rc} {i:Nat} (hi:i<L.length) {y:Rc} (hy:y.R=(L.getD i rc0).R):g8 (L.set i y)=g8 L:=by
 funext x;unfold g8;rw [h0o hi];by_cases e:x=i
 .subst e;rw [if_pos rfl,hy]
 .rw [if_neg e]
def d1f (x:Rc):Rc:=⟨x.d,x.mv,true,x.R⟩
def f1f (hs:List Int) (L:List Rc) (d:Int):Int:=if i0I hs d=false then 14 else if d∈rcX L then 23 else if 0<(rcO L).length/\(rcO L).getD 0 0<d then 8 else 0
def t0P (L:List Rc) (d:Int):List Rc:=h0n L d (d1f (b0x L d))
def g1h (np m:Nat) (cut:Int) (hs:List Int) (L:List Rc) (d:Int):SV->a0h->Nat->Prop:=
 if f1f hs L d=0 then a0f (.tup [.sl 13 0 0 (rpL L d).length,.int .i64 0]) ((13,some (.one false (pxB (rpL L d).length (b0e (rpL L d)))))::rgH 9 10 11 12 np (t0P L d).length cut (t0P L d)) 14
 else a0f (.tup [.nsl,.int .i64 (f1f hs L d)]) (rgH 9 10 11 12 np m cut L) 13
set_option maxHeartbeats 1000000 in
theorem x0h {np m hn:Nat} {hs:List Int} {L:List Rc} {pr:List ByteArray} (hL:L.length=m) (hm:m<=1000) (hN:(rcD L).Nodup) (hh:hs.length=hn) (hn4:hn<=100000) (hp:pr.length=np) (he:b0R pr=0) (hsz:∀k,(pr.getD k ⟨#[]⟩).size<=9223372036854775807) (cut d:Int)
  (hr:(b0x L d).R.length<=100000) (hd:m0Z (b0x L d).R):
  FC Tryz.prog 9 71 [.ptr 1 0 0 0,.int .i64 d] (f1H np m hn cut hs L pr) (g1h np m cut hs L d):=by
 have c1:=f0f hs hn hh hn4 d;have c2:=l0U L m hL (by omega) np cut d;unfold g1h f1f;cases hq:i0I hs d with
 |false=>
  rw [hq] at c1;rw [if_pos rfl,if_neg (by decide)];refine fEx Tryz.func71 ?_;repeat' ((conv=>whnf);first|refine cOx (l:= [0,2,3]) c1 ?_|refine a0a ?_|(apply bRx<;>intro h<;>try (exfalso;(try dsimp only at h);omega)))
  all_goals (conv=>whnf)
  all_goals first
   |exact rOx [0,1,2,3,4,5,6,7,8,5,6,7,8] k0z
   |(exfalso;omega)
   |trace_state
 |true=>
  rw [hq] at c1;rw [if_neg (show¬true=false by simp)];by_cases hX:d∈rcX L
  .rw [(k0t hN).1 hX] at c2;rw [if_pos hX,if_neg (by decide)];refine fEx Tryz.func71 ?_;repeat' ((conv=>whnf);first|refine cOx (l:= [0,2,3]) c1 ?_|refine cOx (l:= [0,1,2,3,4,5,6,7,8]) c2 ?_|refine a0a ?_|(apply bRx<;>intro h<;>try (exfalso;(try dsimp only at h);omega)))
   all_goals (conv=>whnf)
   all_goals first
    |exact rOx [0,1,2,3,4,5,6,7,8,5,6,7,8] k0z
    |(exfalso;omega)
    |trace_state
  .have hcl:(b0x L d).cl=false:=by
    cases q:(b0x L d).cl with
    |false=>rfl
    |true=>exact absurd ((k0t hN).2 q) hX
   rw [hcl] at c2;rw [if_neg hX];have c3:=z0U L m hL (by omega) np cut;have hol:(rcO L).length<=1000:=by
    unfold rcO;rw [e0S,b1M];exact f1X (i1S _ _) (by omega)
   generalize rcO L=S at*;by_cases hS:0<S.length/\S.getD 0 0<d
   .rw [if_pos hS,if_neg (by decide)];refine fEx Tryz.func71 ?_;repeat' ((conv=>whnf);first|refine cOx (l:= [0,2,3]) c1 ?_|refine cOx (l:= [0,1,2,3,4,5,6,7,8]) c2 ?_|refine cOx (l:= [0,1,2,3,4,5,6,7,8]) c3 ?_|refine a0a ?_|(apply bRx<;>intro h<;>try (exfalso;(try dsimp only at h);omega)))
    all_goals (conv=>whnf)
    all_goals first
     |exact rOx [0,1,2,3,4,5,6,7,8,5,6,7,8] k0z
     |exact absurd hS.2 h
     |exact absurd ⟨by omega,h⟩ hS
     |(exfalso;omega)
     |trace_state
   .rw [if_neg hS,if_pos rfl];have hat:b0x L d=(rcW L d).getD (a0G (rcD (rcW L d)) d) rc0:=by
     rw [<-k0v d d];exact if_pos (f0j L d)
    have hi:a0G (rcD (rcW L d)) d<(rcW L d).length:=(d0Z (f0j L d)).1;have hlen:=n0d L d;have hx:(d1f (b0x L d)).d=d:=x0c L d;have c4:=s0p L m (rcW L d).length hL (by omega) pr np hp he hsz cut d rfl;have hR2:b0x (t0P L d) d=(d1f (b0x L d)):=by unfold t0P;rw [c0S hN hx,if_pos rfl]
    have hP:rpL (t0P L d) d=rpL L d:=by unfold rpL;rw [hR2];rfl
    have hlc:(t0P L d).length=(rcW L d).length:=by unfold t0P h0n;rw [h1N]
    have c5:=h0p (t0P L d) (rcW L d).length hlc (by omega) np pr cut d (by rw [hR2];exact hr) (by rw [hR2];exact hd);rw [hP] at c5;rw [hlc];have eL:t0P L d=(rcW L d).set (a0G (rcD (rcW L d)) d) (d1f ((rcW L d).getD (a0G (rcD (rcW L d)) d) rc0)):=by unfold t0P;rw [hat];rfl
    generalize rpL L d=P at*;rw [eL] at c5⊢;clear hR2 hP hlc eL hat hx;generalize a0G (rcD (rcW L d)) d=i at*;generalize rcW L d=L2 at*;have e6:=f1c (h:=15) hi (d1f (L2.getD i rc0));have e7:=fun h=>f1d (h:=h) (np:=np) hi (y:=(d1f (L2.getD i rc0))) rfl
    have e8:=f1e hi (y:=(d1f (L2.getD i rc0))) rfl;unfold rpR at c5;rw [e7,e8] at c5;obtain ⟨m2,hm2⟩:∃m2,L2.length=m2:=⟨_,rfl⟩;rw [hm2] at hi c4 c5⊢;unfold rgH;rw [e7,e8];refine fEx Tryz.func71 ?_;repeat' ((conv=>whnf);first|refine cOx (l:= [0,2,3]) c1 ?_|refine cOx (l:= [0,1,2,3,4,5,6,7,8]) c2 ?_|refine cOx (l:= [0,1,2,3,4,5,6,7,8]) c3 ?_|refine cOx (l:= [0,1,2,3,4,5,6,7,8]) c4 ?_|(refine b1R (l:= [0,1,2,3,4,13,14,15,16]) c5 ?_ (h6:=by (repeat' (first|exact trivial|exact e6|constructor));first|done|fail))|(refine y0y (l:= [0,1,2,3,4,13,14,15,16]) c5 ?_ (h6:=by (repeat' (first|exact trivial|exact e6|constructor));first|done|fail))|refine a0a ?_|(apply bRx<;>intro h<;>try (exfalso;(try dsimp only at h);omega)))
    all_goals (conv=>whnf)
    .exact absurd ⟨by omega,h⟩ hS
    all_goals exact a0H (l:= [0,1,2,3,4,5,6,7,8,13,14,15,16,17]) rfl rfl ⟨rfl,rfl,rfl,(congrArg (fun f=>some (HB.fam false (fun x=>x<m2) f)) e6),rfl,rfl,trivial⟩ (a0c (a0c (a0c (a0u (a0u (a0u a0b))))))
end
section
attribute [local irreducible] a0q a0r a0j a0R sortI
abbrev d1M (ro:Bool) (hc hp hl np m:Nat) (cut:Int):Option HB:=some (.one ro (.cells [.ptr hc 0 0 0,.int .i64 cut,.sl hp 0 0 np,.sl hl 0 0 m]))
def f1I (cut:Int) (ps:List ByteArray) (n:Nat):SV->a0h->Nat->Prop:=if cnE cut ps=0 then a0f (.tup [.ptr 3 0 0 0,.int .i64 0]) [(3,d1M false 1 4 5 n 0 cut),(4,cyP false n ps),(5,rgP false 6 0),(6,fmB false 0 (g6 [] 7)),(7,fmB false 0 (g7q 4 [] 8 n)),(8,fmB false 0 (g8 []))] 9 else a0f (.tup [.nptr,.int .i64 (cnE cut ps)]) [] 3
theorem x0i (cut:Int) (ps:List ByteArray) (n:Nat) (hl:ps.length=n) (hsz:∀k,(ps.getD k ⟨#[]⟩).size<=9223372036854775807):FC Tryz.prog 3 25 [.ptr 1 0 0 0,.int .i64 cut,.sl 2 0 0 n] [(2,some (.one true (.cols n [.sc (.strs ps)])))] (f1I cut ps n):=by
 have c1:=o0S ps n hl hsz;unfold f1I cnE;by_cases h:cut<0\/86400<cut
 .rw [if_pos h,if_neg (by decide)];refine fEx Tryz.func25 ?_;repeat' ((conv=>whnf);first|refine a0a ?_|(apply bRx<;>intro h<;>try (exfalso;(try dsimp only at h);omega)))
  all_goals (conv=>whnf)
  all_goals first
   |exact rOx [0,1,2] a0b
   |(exfalso;omega)
   |trace_state
 rw [if_neg h];unfold z0J at c1;by_cases he:b0R ps=0
 .rw [if_neg (by rw [he];simp)] at c1;rw [if_pos he];have hn16:=(h0k he).1;refine fEx Tryz.func25 ?_;repeat' ((conv=>whnf);first|refine cOx (l:= [0,2]) c1 ?_|(refine And.intro ⟨?_,trivial,?_⟩ ?_;omega;omega)|refine a0a ?_|(apply bRx<;>intro h<;>try (exfalso;(try dsimp only at h);omega)))
  all_goals (conv=>whnf)
  rw [a1J n,s0h hl];exact e0z (l:= [0,1,2,6,5,7,8,9,10]) [.cell 6 3 [.svs []],.relab (fun _ _=>none) (fun _=>0) ((7,rgP false 8 0)::gdN 8 0 0 [⟨0,0,g6 [] 9⟩,⟨0,0,g7q 5 [] 10 n⟩,⟨0,0,g8 []⟩]) [] 3] ⟨f0w (n:=8) (th:=7) [⟨0,0,g6 [] 9⟩,⟨0,0,g7q 5 [] 10 n⟩,⟨0,0,g8 []⟩] (by decide) rfl (d0q ⟨⟨fun _=>rfl,fun i hi=>absurd hi (h1E _)⟩,trivial⟩),rfl,rfl,⟨rfl,rfl,rfl,rfl,rfl,rfl,trivial⟩⟩ (a0c (a0c (a0c (a0u (a0u (a0u a0b))))))
 .rw [if_pos he] at c1;rw [if_neg he];generalize b0R ps=e at*;refine fEx Tryz.func25 ?_;repeat' ((conv=>whnf);first|refine cOx (l:= [0,2]) c1 ?_|refine a0a ?_|(apply bRx<;>intro h<;>try (exfalso;(try dsimp only at h);omega)))
  all_goals (conv=>whnf)
  all_goals first
   |exact rOx [0,1,2] a0b
   |(exfalso;omega)
   |trace_state
end
section
attribute [local irreducible] a0q a0r a0j a0R
theorem f1g {ps:List ByteArray}:RlB (nwB ps) []:=by
 refine ⟨List.Pairwise.nil,fun p c=> ?_⟩;unfold s0f;have e:(nwB ps).row c=z16:=rfl;rw [e,k0n];split<;>rfl
end
section
attribute [local irreducible] sortI
structure RcI (ds cd:List Int) (B:List Bk) (pr:List ByteArray) (L:List Rc) (k:Nat):Prop where
 nd:(rcD L).Nodup
 mv:∀d,(b0x L d).mv=true↔d∈ds
 cl:∀d,(b0x L d).cl=true↔d∈cd
 bk:∀d,RlB (c0c ds B pr d) (b0x L d).R
 len:L.length<=k
 rl:∀d,(b0x L d).R.length<=2*k
theorem d1g (pr:List ByteArray):RcI [] [] [] pr [] 0:=by
 refine ⟨h1M,fun d=> ?_,fun d=> ?_,fun d=> ?_,m0D _,fun d=> ?_⟩
 .show (b0x [] d).mv=true↔_;simp [b0x,d0H]
 .show (b0x [] d).cl=true↔_;simp [b0x,d0H]
 .show RlB (nwB pr) [];exact f1g
 .exact z0h _
theorem RcI.up {ds cd:List Int} {B:List Bk} {pr:List ByteArray} {L:List Rc} {k k':Nat} (h:RcI ds cd B pr L k) (hk:k<=k'):RcI ds cd B pr L k':=
 ⟨h.nd,h.mv,h.cl,h.bk,f1X h.len hk,fun d=>f1X (h.rl d) (j1Y 2 hk)⟩
theorem RcI.w {ds cd:List Int} {B:List Bk} {pr:List ByteArray} {L:List Rc} {k:Nat} (h:RcI ds cd B pr L k) (d:Int):RcI ds cd B pr (rcW L d) (k+1):=by
 have hl:=n0d L d;have hk:=h.len;refine ⟨o0W h.nd d,fun x=> ?_,fun x=> ?_,fun x=> ?_,by omega,fun x=> ?_⟩
 .rw [k0v];exact h.mv x
 .rw [k0v];exact h.cl x
 .rw [k0v];exact h.bk x
 .rw [k0v];have:=h.rl x;omega
theorem RcI.C {ds cd:List Int} {B:List Bk} {pr:List ByteArray} {L:List Rc} {k:Nat} (h:RcI ds cd B pr L k) (d:Int):d∈rcX L↔d∈cd:=(k0t h.nd).trans (h.cl d)
theorem RcI.close {ds cd:List Int} {B:List Bk} {pr:List ByteArray} {L:List Rc} {k:Nat} (h:RcI ds cd B pr L k) (D:Int):RcI ds (cd++ [D]) B pr (h0n L D { b0x L D with cl:=true}) (k+1):=by
 have hx:({ b0x L D with cl:=true}:Rc).d=D:=x0c L D;have hl:=o0X L D { b0x L D with cl:=true};have hk:=h.len;refine ⟨k0w h.nd hx,fun x=> ?_,fun x=> ?_,fun x=> ?_,by omega,fun x=> ?_⟩
 .rw [c0S h.nd hx];split
  .rename_i e;subst e;exact h.mv _
  .exact h.mv x
 .rw [c0S h.nd hx,e1n,y0E];split
  .rename_i e;simp [e]
  .rename_i e;simp [e];exact h.cl x
 .rw [c0S h.nd hx];split
  .rename_i e;subst e;exact h.bk _
  .exact h.bk x
 .rw [c0S h.nd hx];split
  .rename_i e;subst e;have:=h.rl x;show (b0x L x).R.length<=_;omega
  .have:=h.rl x;omega
theorem RcI.move {ds cd:List Int} {B:List Bk} {pr:List ByteArray} {L:List Rc} {k:Nat} (h:RcI ds cd B pr L k) (hB:ds.length=B.length) (D:Int) {b:Bk} {f t c:ByteArray} {a:Int} (hb:RlB b (rmR (b0x L D).R f t c a)):
  RcI (i0z ds D) cd (o0M ds B D b) pr (h0n L D { b0x L D with mv:=true,R:=rmR (b0x L D).R f t c a}) (k+1):=by
 have hx:({ b0x L D with mv:=true,R:=rmR (b0x L D).R f t c a}:Rc).d=D:=x0c L D;have hl:=o0X L D { b0x L D with mv:=true,R:=rmR (b0x L D).R f t c a};have hk:=h.len;refine ⟨k0w h.nd hx,fun x=> ?_,fun x=> ?_,fun x=> ?_,by omega,fun x=> ?_⟩
 .rw [c0S h.nd hx,z0O];split
  .rename_i e;simp [e]
  .rename_i e;simp [e];exact h.mv x
 .rw [c0S h.nd hx];split
  .rename_i e;subst e;exact h.cl _
  .exact h.cl x
 .rw [c0S h.nd hx,x0e hB];split
  .exact hb
  .exact h.bk x
 .rw [c0S h.nd hx];split
  .show (rmR (b0x L D).R f t c a).length<=_;have h1:=h.rl D;unfold rmR;have h2:=n0c (b0x L D).R f c (d0g (b0x L D).R f c-a);have h3:=n0c (l0R (b0x L D).R f c (d0g (b0x L D).R f c-a)) t c (d0g (b0x L D).R t c+a);omega
  .have:=h.rl x;omega
theorem RcI.open {ds cd:List Int} {B:List Bk} {pr:List ByteArray} {L:List Rc} {k:Nat} (h:RcI ds cd B pr L k) (hd:ds.Nodup):rcO L=h0W ds cd:=by
 unfold rcO h0W;refine k0e ?_;have n1:((L.filter fun x=>x.mv&& !x.cl).map Rc.d).Nodup:=h.nd.sublist ((j1b (l:=L)).map Rc.d);have n2:(ds.filter (fun t=> !decide (t∈cd))).Nodup:=hd.sublist j1b;refine (i1v n1 n2).2 fun d=> ?_
 rw [i1J,<-h.mv d];constructor
 .intro q;obtain ⟨x,hx,rfl⟩:=f1S.1 q;obtain ⟨q1,q2⟩:=i1J.1 hx;rw [k0P] at q2;rw [c1X h.nd q1];refine ⟨q2.1,?_⟩;have:¬x.d∈cd:=fun w=>by
   have:=(h.cl x.d).2 w;rw [c1X h.nd q1] at this;rw [this] at q2;exact absurd q2.2 (by decide)
  simp [this]
 .rintro ⟨q1,q2⟩;have q3:¬d∈cd:=by simpa using q2
  by_cases hm:d∈rcD L
  .obtain ⟨hi,e⟩:=d0Z hm;have ea:b0x L d=L.getD (a0G (rcD L) d) rc0:=by unfold b0x;rw [if_pos hm]
   refine f1S.2 ⟨_,i1J.2 ⟨by rw [List.getD,j0I hi];exact b1P _,?_⟩,e⟩;rw [<-ea,k0P];refine ⟨q1,?_⟩;cases hc:(b0x L d).cl with
   |false=>rfl
   |true=>exact absurd ((h.cl d).1 hc) q3
  .unfold b0x at q1;rw [if_neg hm] at q1;cases q1
end
section
attribute [local irreducible] sortI
theorem b1h (l cd:List Int):∀k x,mvF (ddS l) cd k x=mvF l cd k x
 |0,_=>rfl
 |k+1,x=>by simp only [mvF];rw [b1b,b1h l cd k]
theorem f1h (l cd:List Int) (x:Int):mvD (ddS l) cd x=mvD l cd x:=by unfold mvD;exact b1h l cd _ _
theorem g1X {ds:List Int} {B:List Bk} {m np:Nat} {pr:List ByteArray} (hb:BksI ds B m np (sortS pr)) (hp:pr.length=np) (he:b0R pr=0) (d:Int):BkI (c0c ds B pr d) 4503599627370496/\(c0c ds B pr d).n=np/\(c0c ds B pr d).ps=sortS pr/\(c0c ds B pr d).m<=100000:=by
 unfold c0c;by_cases hd:d∈ds
 .rw [if_pos hd];exact hb.I _ (by rw [<-hb.dl];exact a0W.2 hd)
 .rw [if_neg hd];exact ⟨(c1E he).up (by decide),hp,rfl,z0h _⟩
set_option maxHeartbeats 1000000 in
structure Cpi (pr:List ByteArray) (ds cd:List Int) (B:List Bk) (L:List Rc) (k:Nat):Prop where
 b:BksI ds B ds.length pr.length (sortS pr)
 r:RcI ds cd B pr L k
 m:∀d,(c0c ds B pr d).m<=k
theorem d1h (pr:List ByteArray):Cpi pr [] [] [] [] 0:=
 ⟨⟨rfl,rfl,h1M,fun i hi=>absurd hi (h1E _)⟩,d1g pr,fun d=>m0D _⟩
theorem Cpi.up {pr:List ByteArray} {ds cd:List Int} {B:List Bk} {L:List Rc} {k k':Nat} (h:Cpi pr ds cd B L k) (hk:k<=k'):Cpi pr ds cd B L k':=⟨h.b,h.r.up hk,fun d=>f1X (h.m d) hk⟩
theorem Cpi.bl {pr:List ByteArray} {ds cd:List Int} {B:List Bk} {L:List Rc} {k:Nat} (h:Cpi pr ds cd B L k):ds.length=B.length:=h.b.bl.symm
theorem x0j {ds:List Int} {B:List Bk} {m np:Nat} {sp:List ByteArray} (h:BksI ds B m np sp) (D:Int) {b:Bk} (hb:BkI b 4503599627370496/\b.n=np/\b.ps=sp/\b.m<=100000):BksI (i0z ds D) (o0M ds B D b) (i0z ds D).length np sp:=by
 unfold i0z o0M;by_cases hD:D∈ds
 .rw [if_pos hD,if_pos hD];refine ⟨rfl,by rw [h1N,h.bl,h.dl],h.nd,fun i hi=> ?_⟩;rw [List.getD,h1r];split
  .split
   .exact hb
   .rename_i h1 h2;exact absurd (by rw [h.bl,<-h.dl,h1];exact hi) h2
  .have:=h.I i (by rw [<-h.dl];exact hi);rw [List.getD] at this;exact this
 .rw [if_neg hD,if_neg hD];refine ⟨rfl,by simp [h.bl,h.dl],?_,fun i hi=> ?_⟩
  .exact h1Z.2 ⟨h.nd,by simp,fun a ha b hb e=>by simp at hb;subst hb;subst e;exact hD ha⟩
  .rw [y0A,g1z,h.dl] at hi;by_cases e:i<m
   .rw [List.getD,v0f (by rw [h.bl];exact e)];have:=h.I i e;rw [List.getD] at this;exact this
   .have e2:i=m:=by omega
    rw [e2,List.getD,v0k (by rw [h.bl];exact m0D _),h.bl,h1P];exact hb
section
variable {pr:List ByteArray} {ds cd:List Int} {B:List Bk} {L:List Rc} {k:Nat}
theorem Cpi.at (h:Cpi pr ds cd B L k) (he:b0R pr=0) (d:Int):BkI (c0c ds B pr d) 4503599627370496/\(c0c ds B pr d).n=pr.length/\(c0c ds B pr d).ps=sortS pr/\(c0c ds B pr d).m<=100000:=g1X h.b rfl he d
theorem Cpi.D (h:Cpi pr ds cd B L k) (hol:List Int) (x:Int):mvD hol (rcX L) x=mvD hol cd x:=x0d (fun d=>h.r.C d) x
theorem Cpi.X (h:Cpi pr ds cd B L k) (he:b0R pr=0) (hs:List Int) (D:Int) (f g c:ByteArray) (a:Int):z0R L pr pr.length D f g c a=mvX hs ds cd B pr D f g c a:=by
 unfold z0R mvX;by_cases h0:D<0
 .rw [if_pos h0,if_pos h0]
 .rw [if_neg h0,if_neg h0];obtain ⟨h1,h2,h3,_⟩:=h.at he D;have:=(x0a h1 (ps:=pr) (by rw [h3];exact c0T pr) (h.r.bk D) f g c a).1;rw [h2] at this;exact this
theorem Cpi.move (h:Cpi pr ds cd B L k) (he:b0R pr=0) (hk:k<=1000) (hs:List Int) (D:Int) (f g c:ByteArray) (a:Int) (h0:mvX hs ds cd B pr D f g c a=0):Cpi pr (i0z ds D) cd (o0M ds B D ((c0c ds B pr D).mv f g c a)) (p0k L pr pr.length D f g c a) (k+1):=by
 obtain ⟨h1,h2,h3,h4⟩:=h.at he D;have hm:=h.m D;have hX:=h.X he hs D f g c a;rw [h0] at hX;have hD:¬D<0:=fun w=>by unfold z0R at hX;rw [if_pos w] at hX;cases hX
 have hX2:rmE pr.length pr (b0x L D).R f g c a=0:=by unfold z0R at hX;rw [if_neg hD] at hX;exact hX
 have h02:mvE (c0c ds B pr D) f g c a=0:=by unfold mvX at h0;rw [if_neg hD] at h0;exact h0
 have hR:=(x0a h1 (ps:=pr) (by rw [h3];exact c0T pr) (h.r.bk D) f g c a).2 h02;have e:p0k L pr pr.length D f g c a=h0n L D { b0x L D with mv:=true,R:=rmR (b0x L D).R f g c a}:=by unfold p0k;rw [if_neg hD,if_pos hX2];rfl
 rw [e];have hmm:=g1F (c0c ds B pr D) f g c a;refine ⟨x0j h.b D ⟨g1G h1 f g c a,by rw [(z0z _ f g c a).2];exact h2,by rw [(z0z _ f g c a).1];exact h3,by omega⟩,h.r.move h.bl D hR,fun d=> ?_⟩;rw [x0e h.bl];split
 .omega
 .have:=h.m d;omega
theorem Cpi.move_no (h:Cpi pr ds cd B L k) (he:b0R pr=0) (hs:List Int) (D:Int) (f g c:ByteArray) (a:Int) (h0:mvX hs ds cd B pr D f g c a≠0):Cpi pr ds cd B (p0k L pr pr.length D f g c a) (k+1):=by
 have hX:=h.X he hs D f g c a;unfold p0k;by_cases hD:D<0
 .rw [if_pos hD];exact h.up (h1O _)
 .rw [if_neg hD];unfold z0R at hX;rw [if_neg hD] at hX;rw [if_neg (by rw [hX];exact h0)];exact ⟨h.b,h.r.w D,fun d=>f1X (h.m d) (h1O _)⟩
theorem Cpi.E (h:Cpi pr ds cd B L k) (hol:List Int) (d:Int):f1f hol L d=clE (ddS hol) ds cd d:=by
 unfold f1f clE;rw [q0w,h.r.open h.b.nd];by_cases q:d∈cd
 .rw [if_pos q,if_pos ((h.r.C d).2 q)]
 .rw [if_neg q,if_neg (fun w=>q ((h.r.C d).1 w))]
theorem Cpi.close (h:Cpi pr ds cd B L k) (d:Int):Cpi pr ds (cd++ [d]) B (t0P L d) (k+1):=⟨h.b,h.r.close d,fun x=>f1X (h.m x) (h1O _)⟩
theorem Cpi.P (h:Cpi pr ds cd B L k) (he:b0R pr=0) (d:Int):rpL L d=h0v ds B d:=by
 unfold rpL h0v;by_cases q:d∈ds
 .rw [if_pos q,if_pos ((h.r.mv d).2 q)];obtain ⟨h1,h2,h3,h4⟩:=h.at he d;have:=(c1W h1 (by rw [h3];exact d0E (h0k he).2.1) (h.r.bk d)).1;rw [this];unfold c0c;rw [if_pos q]
 .rw [if_neg q,if_neg (fun w=>q ((h.r.mv d).1 w))]
theorem Cpi.net (h:Cpi pr ds cd B L k) (he:b0R pr=0) (d:Int) (p c:ByteArray): -4503599627370496<=d0g (b0x L d).R p c/\d0g (b0x L d).R p c<=4503599627370496:=by
 rw [(h.r.bk d).net];exact c1V (h.at he d).1 (by decide) p c
end
end
section
attribute [local irreducible] sortI
abbrev p0c:ByteArray:=⟨#[112,97,114,116,121,58]⟩
def d0w (p:ByteArray):ByteArray:=p0c++p
structure Bks where
 cur:ByteArray
 days:Int
 na:Nat
 au:List Au
 cut:Int
 hn:Nat
 hs:List Int
 np:Nat
 pr:List ByteArray
 m:Nat
 ds:List Int
 B:List Bk
 nc:Nat
 cd:List Int
 lg:Lg
 last:Int
abbrev Bks.aid (s:Bks):List ByteArray:=s.au.map Au.id
abbrev Bks.pl (s:Bks) (id:ByteArray):Nat:=a0l s.aid id
def b0j (L:List Au) (i:Nat):Au:=⟨(L.map Au.id).getD i ⟨#[]⟩,(L.map Au.cur).getD i ⟨#[]⟩,(L.map Au.app).getD i 0,(L.map Au.rev).getD i 0,(L.map Au.cle).getD i 0,(L.map Au.exp).getD i 0,(L.map Au.st).getD i 0,(L.map Au.att).getD i 0,(L.map Au.unt).getD i 0,(L.map Au.pa).getD i 0⟩
theorem x0k (L:List Au) (i:Nat):b0j L i=L.getD i Au.zero:=by
 unfold b0j;simp only [List.getD,v0g];cases L[i]?<;>rfl
def auB (n:Nat) (L:List Au):Blk:= .cols n [.sc (.strs (L.map Au.id)),.sc (.strs (L.map Au.cur)),.sc (.ints .i64 (L.map Au.app)),.sc (.ints .i64 (L.map Au.rev)),.sc (.ints .i64 (L.map Au.cle)),.sc (.ints .i64 (L.map Au.exp)),.sc (.ints .i64 (L.map Au.st)),.sc (.ints .i64 (L.map Au.att)),.sc (.ints .i64 (L.map Au.unt)),.sc (.ints .i64 (L.map Au.pa))]
theorem f0k (n:Nat) (L:List Au) (i:Nat) (a:Au):(.cols n [.sc (.strs ((L.map Au.id).set i a.id)),.sc (.strs ((L.map Au.cur).set i a.cur)),.sc (.ints .i64 ((L.map Au.app).set i a.app)),.sc (.ints .i64 ((L.map Au.rev).set i a.rev)),.sc (.ints .i64 ((L.map Au.cle).set i a.cle)),.sc (.ints .i64 ((L.map Au.exp).set i a.exp)),.sc (.ints .i64 ((L.map Au.st).set i a.st)),.sc (.ints .i64 ((L.map Au.att).set i a.att)),.sc (.ints .i64 ((L.map Au.unt).set i a.unt)),.sc (.ints .i64 ((L.map Au.pa).set i a.pa))]:Blk)=auB n (L.set i a):=by
 unfold auB;simp only [List.map_set]
theorem x0l (n:Nat) (L:List Au) (a:Au):(.cols n [.sc (.strs (L.map Au.id++ [a.id])),.sc (.strs (L.map Au.cur++ [a.cur])),.sc (.ints .i64 (L.map Au.app++ [a.app])),.sc (.ints .i64 (L.map Au.rev++ [a.rev])),.sc (.ints .i64 (L.map Au.cle++ [a.cle])),.sc (.ints .i64 (L.map Au.exp++ [a.exp])),.sc (.ints .i64 (L.map Au.st++ [a.st])),.sc (.ints .i64 (L.map Au.att++ [a.att])),.sc (.ints .i64 (L.map Au.unt++ [a.unt])),.sc (.ints .i64 (L.map Au.pa++ [a.pa]))]:Blk)=auB n (L++ [a]):=by
 unfold auB;simp only [f1T,e1F,h1W]
def k0E (s:Bks) (t:Int):Int:=t+s.days*86400
def x0m (s:Bks) (o:Bop):Int:=if s.pl o.au<s.na then 7 else if 256<=s.na then 12 else (v0s o.au s.cur o.am o.t (k0E s o.t)).2
def b1i (s:Bks) (o:Bop):Bks:= { s with na:=s.na+1,au:=s.au++ [(v0s o.au s.cur o.am o.t (k0E s o.t)).1]}
def s0q (s:Bks) (o:Bop):Au×Int:=
 if o.k=2 then d0r (b0j s.au (s.pl o.au)) o.am (max (b0j s.au (s.pl o.au)).unt (k0E s o.t))
 else if o.k=3 then ((b0g (b0j s.au (s.pl o.au)) o.am).1,(b0g (b0j s.au (s.pl o.au)) o.am).2.2)
 else ((b0M (b0j s.au (s.pl o.au)) o.t).1,(b0M (b0j s.au (s.pl o.au)) o.t).2.2)
def d0l (s:Bks) (o:Bop):Int:=if s.pl o.au<s.na then (s0q s o).2 else 6
def f0L (s:Bks) (o:Bop):Bks:= { s with au:=s.au.set (s.pl o.au) (s0q s o).1}
def bkD (s:Bks) (t:Int):Int:=mvD s.hs s.cd (ofI s.hs s.cut t)
def owX (s:Bks) (t:Int) (f g:ByteArray) (n:Int):Int:=mvX s.hs s.ds s.cd s.B s.pr (bkD s t) f g s.cur n
def mtF (o:Bop):ByteArray:=if o.k=5 then o.ac else if o.k=6/\¬o.am<0 then o.ac else o.is
def mtG (o:Bop):ByteArray:=if o.k=5 then o.is else if o.k=6/\¬o.am<0 then o.is else o.ac
def mtN (o:Bop):Int:=if o.k=6 then (if o.am<0 then-o.am else o.am) else o.am-o.fe
def enB (s:Bks) (o:Bop):Le:=⟨o.id,g0m o.t,[⟨d0w (mtF o),-mtN o,s.cur⟩,⟨d0w (mtG o),mtN o,s.cur⟩],2⟩
def clA (s:Bks) (o:Bop):Au×Int×Int×Int:=e0U (b0j s.au (s.pl o.au)) o.am o.fi
def mmE (s:Bks) (o:Bop):Int:=
 if inL o.id s.lg.ids then 15 else if 512<=s.lg.ne then 12
 else if o.k=4 then (if s.pl o.au<s.na then (if (clA s o).2.2.2≠0 then (clA s o).2.2.2 else owX s o.t (mtF o) (mtG o) (mtN o)) else 6)
 else owX s o.t (mtF o) (mtG o) (mtN o)
def owS (s:Bks) (o:Bop):Bks:= { s with
 m:=(i0z s.ds (bkD s o.t)).length,ds:=i0z s.ds (bkD s o.t),
 B:=o0M s.ds s.B (bkD s o.t) ((c0c s.ds s.B s.pr (bkD s o.t)).mv (mtF o) (mtG o) s.cur (mtN o)),lg:=lgP s.lg (enB s o)}
def mmS (s:Bks) (o:Bop):Bks:=if o.k=4 then { owS s o with au:=s.au.set (s.pl o.au) (clA s o).1} else owS s o
def clS (s:Bks) (o:Bop):Bks:= { s with nc:=s.nc+1,cd:=s.cd++ [o.am]}
def pfE (s:Bks) (o:Bop):Int:=
 if o.k=1 then x0m s o else if o.k=8 then clE s.hs s.ds s.cd o.am else if o.k=4\/o.k=5\/o.k=6 then mmE s o else d0l s o
def pfS (s:Bks) (o:Bop):Bks:=if o.k=1 then b1i s o else if o.k=8 then clS s o else if o.k=4\/o.k=5\/o.k=6 then mmS s o else f0L s o
def doE (s:Bks) (o:Bop):Int:=if ckE o≠0 then ckE o else if o.t<s.last then 14 else pfE s o
def doS (s:Bks) (o:Bop):Bks:=if doE s o=0 then { pfS s o with last:=o.t} else s
structure BkOk (s:Bks):Prop where
 lg:LgOk s.lg
 acc:s.lg.acc=s.pr.map d0w
 bd:∀a c,-(999999999999*(s.lg.ne:Int))<=s.lg.bal a c/\s.lg.bal a c<=999999999999*(s.lg.ne:Int)
 hn:s.hs.length=s.hn
 np:s.pr.length=s.np
 err:b0R s.pr=0
 bks:BksI s.ds s.B s.m s.np (sortS s.pr)
 nc:s.cd.length=s.nc
 na:s.au.length=s.na
 n256:s.na<=256
 days:1<=s.days/\s.days<=1000
 cur:d0k s.cur=true
 last:0<=s.last/\s.last<=1099511627776
 mle:s.m<=s.lg.ne
 mb:∀i,i<s.m->(s.B.getD i bk0).m<=s.lg.ne
theorem f1i {s:ByteArray} (h:auI s=true):h0u s=true:=by
 unfold auI at h;rw [k0P] at h;obtain ⟨h1,h2⟩:=h;have h1:=of_decide_eq_true h1;unfold h0u;rw [k0P];refine ⟨decide_eq_true (by omega),?_⟩;rw [h1D] at h2⊢;intro i hi;have h3:=h2 i hi;unfold auC at h3;have h3:=of_decide_eq_true h3;unfold e1w;exact decide_eq_true (by omega)
theorem k0A {o:Bop} (h:CkOk o) (hk:o.k=4\/o.k=5\/o.k=6): -999999999999<=mtN o/\mtN o<=999999999999:=by
 have ha:=h.a;have hf:=h.f;unfold pmB at ha;unfold mtN;rcases hk with e|e|e<;>rw [e] at ha hf⊢<;>simp at ha hf⊢
 .omega
 .omega
 .split<;>omega
theorem n0e {hs ds cd:List Int} {B:List Bk} {pr:List ByteArray} {D:Int} {f g c:ByteArray} {a:Int} (h:mvX hs ds cd B pr D f g c a=0) (hp:(c0c ds B pr D).ps=sortS pr) (hl:(c0c ds B pr D).ps.length=(c0c ds B pr D).n):¬D<0/\mvE (c0c ds B pr D) f g c a=0/\f∈pr/\g∈pr/\f≠g/\e0q a c=0:=by
 unfold mvX at h;split at h
 .cases h
 rename_i hD;refine ⟨hD,h,?_⟩;unfold mvE at h;split at h
 .cases h
 rename_i h1;split at h
 .cases h
 rename_i h2;split at h
 .rename_i h3;exact absurd h h3
 rename_i h3;have key:∀x,¬idI (c0c ds B pr D).ps x (c0c ds B pr D).n<0->x∈pr:=by
  intro x hx;by_cases q:a0l (c0c ds B pr D).ps x<(c0c ds B pr D).n
  .rw [hp] at q;rw [<-hl,hp] at q;exact (c0T pr).mem_iff.1 (sidx_lt.1 q)
  .exact absurd (show idI (c0c ds B pr D).ps x (c0c ds B pr D).n<0 by rw [h0j q];decide) hx
 exact ⟨key f (by omega),key g (by omega),fun e=>h2 (by rw [e]),i1l.1 h3⟩
theorem s0r {ds:List Int} {B:List Bk} {m np:Nat} {pr:List ByteArray} (hb:BksI ds B m np (sortS pr)) (hp:pr.length=np) (he:b0R pr=0) (d:Int):BkI (c0c ds B pr d) 4503599627370496/\(c0c ds B pr d).n=np/\(c0c ds B pr d).ps=sortS pr:=by
 unfold c0c;split
 .rename_i h;have hi:=a0W.2 h;obtain ⟨h1,h2,h3,_⟩:=hb.I _ (by rw [<-hb.dl];exact hi);exact ⟨h1,h2,h3⟩
 .exact ⟨(c1E he).up (by decide),hp,rfl⟩
theorem d1i {hs cd:List Int} {cut t:Int} (h:¬mvD hs cd (ofI hs cut t)<0):0<=g0m t/\g0m t<=99999:=by
 by_cases q:g0m t<0
 .exfalso;refine h ?_;have e:ofI hs cut t= -1:=by unfold ofI;rw [if_pos q]
  rw [e];unfold mvD;rw [q0C (by decide)];decide
 .have:=m0Y q;omega
theorem x0n (s:Bks) (o:Bop) (h: -999999999999<=mtN o/\mtN o<=999999999999) (hne:d0w (mtF o)≠d0w (mtG o)) (a c:ByteArray): -999999999999<=lgS (enB s o).ps a c/\lgS (enB s o).ps a c<=999999999999:=by
 simp only [enB,lgS];split
 .rename_i h1;rw [if_neg (fun h2=>hne (h1.1.trans h2.1.symm))];omega
 .split<;>omega
theorem s0s {p q:ByteArray} (h:d0w p=d0w q):p=q:=by
 have h2:=congrArg (fun b:ByteArray=>b.data.toList) h;simp only [d0w,j1M,h1Y,List.append_cancel_left_eq] at h2;cases p;cases q;congr 1;exact h1I.1 h2
theorem d1j {s:Bks} (h:BkOk s) {o:Bop} (hc:CkOk o) (hk:o.k=4\/o.k=5\/o.k=6) (hi:¬inL o.id s.lg.ids) (hf:¬512<=s.lg.ne) (hx:owX s o.t (mtF o) (mtG o) (mtN o)=0):lgE s.lg (enB s o)=0/\d0w (mtF o)≠d0w (mtG o):=by
 obtain ⟨b1,b2,b3⟩:=s0r h.bks h.np h.err (bkD s o.t);obtain ⟨m1,m2,m3,m4,m5,m6⟩:=n0e hx b3 b1.psl;have hne:d0w (mtF o)≠d0w (mtG o):=fun e=>m5 (s0s e)
 refine ⟨?_,hne⟩;have hd:=d1i m1;have hb:=k0A hc hk;have hid:h0u o.id=true:=by
  have hn:=hc.n;unfold bkN at hn;rw [k0P] at hn;have h1:=hn.1;have hmv:f0B o.k=true:=decide_eq_true hk;rw [hmv] at h1;exact f1i h1
 refine e1y ⟨hid,hd,rfl,by show 1<=2;omega,by show 2<=16;omega,?_,?_⟩ (fun q=>hi (f0T.2 q)) ?_ (by omega)
 .refine d0t.2 fun p hp=> ?_
  simp only [enB,v0e,h1l,or_false] at hp;rw [h.acc];rcases hp with rfl|rfl
  .exact ⟨f1S.2 ⟨_,m3,rfl⟩,y0U m6⟩
  .exact ⟨f1S.2 ⟨_,m4,rfl⟩,m6⟩
 .rw [g0W];intro c;simp only [enB,lgC];split<;>omega
 .refine e1z fun a c=> ?_
  have h1:=h.bd a c;have h2:=x0n s o hb hne a c;have h3:(s.lg.ne:Int)<=511:=by omega
  omega
end
section
attribute [local irreducible] sortI
theorem z0V {ds:List Int} {B:List Bk} {m np:Nat} {sp:List ByteArray} (h:BksI ds B m np sp) (D:Int) {b:Bk} (hI:BkI b 4503599627370496) (hn:b.n=np) (hp:b.ps=sp) (hm:b.m<=100000):BksI (i0z ds D) (o0M ds B D b) (i0z ds D).length np sp:=by
 unfold i0z o0M;by_cases hd:D∈ds
 .rw [if_pos hd,if_pos hd];have hi:=a0W.2 hd;refine ⟨rfl,by rw [h1N,h.bl,h.dl],h.nd,fun i hi2=> ?_⟩;by_cases e:a0G ds D=i
  .subst e;rw [List.getD,h1C (by rw [h.bl,<-h.dl];exact hi)];exact ⟨hI,hn,hp,hm⟩
  .rw [List.getD,h1J e];exact h.I i (by rw [<-h.dl];exact hi2)
 .rw [if_neg hd,if_neg hd];refine ⟨rfl,by rw [y0A,y0A,h.bl,h.dl];rfl,h1Z.2 ⟨h.nd,by simp,fun a ha b hb e=>by simp at hb;subst hb;subst e;exact hd ha⟩,fun i hi2=> ?_⟩;rw [y0A,g1z] at hi2;by_cases e:i=B.length
  .subst e;rw [List.getD,v0k (m0D _),h1P];exact ⟨hI,hn,hp,hm⟩
  .have hl:i<B.length:=by rw [h.bl,<-h.dl];rw [h.bl,<-h.dl] at e;omega
   rw [List.getD,v0f hl];exact h.I i (by rw [<-h.bl];exact hl)
theorem z0W (ds:List Int) (D:Int):(i0z ds D).length<=ds.length+1:=by
 unfold i0z;split
 .omega
 .rw [y0A];exact m0D _
theorem f1j {ds:List Int} {B:List Bk} {m:Nat} (hd:ds.length=m) (hB:B.length=m) {D:Int} {b:Bk} {k:Nat} (h:∀i,i<m->(B.getD i bk0).m<=k) (hb:b.m<=k):∀i,i<(i0z ds D).length->((o0M ds B D b).getD i bk0).m<=k:=by
 intro i hi;unfold i0z at hi;unfold o0M;by_cases hD:D∈ds
 .rw [if_pos hD] at hi⊢;by_cases e:a0G ds D=i
  .subst e;rw [List.getD,h1C (by omega)];exact hb
  .rw [List.getD,h1J e];exact h i (by omega)
 .rw [if_neg hD] at hi⊢;rw [y0A,g1z] at hi;by_cases e:i=B.length
  .subst e;rw [List.getD,v0k (m0D _),h1P];exact hb
  .rw [List.getD,v0f (by omega)];exact h i (by omega)
theorem f1k {s:Bks} (h:BkOk s) (D:Int):(c0c s.ds s.B s.pr D).m<=s.lg.ne:=by
 unfold c0c;split
 .rename_i hd;exact h.mb _ (by rw [<-h.bks.dl];exact a0W.2 hd)
 .exact z0h _
theorem f1l {s:Bks} (h:BkOk s) {o:Bop} (hc:CkOk o) (hk:o.k=4\/o.k=5\/o.k=6) (hi:¬inL o.id s.lg.ids) (hf:¬512<=s.lg.ne) (hx:owX s o.t (mtF o) (mtG o) (mtN o)=0):BkOk (owS s o):=by
 obtain ⟨hp,hne⟩:=d1j h hc hk hi hf hx;obtain ⟨b1,b2,b3⟩:=s0r h.bks h.np h.err (bkD s o.t);have b4:=f1k h (bkD s o.t);obtain ⟨v1,v2⟩:=z0z (c0c s.ds s.B s.pr (bkD s o.t)) (mtF o) (mtG o) s.cur (mtN o);have v3:=g1F (c0c s.ds s.B s.pr (bkD s o.t)) (mtF o) (mtG o) s.cur (mtN o);have v4:=g1G b1 (mtF o) (mtG o) s.cur (mtN o);have hlg:=v0M h.lg (e:=enB s o) rfl hp;have hl:=z0W s.ds (bkD s o.t);have hml:=h.mle;have hne2:(lgP s.lg (enB s o)).ne=s.lg.ne+1:=rfl;refine ⟨hlg,h.acc,fun a c=> ?_,h.hn,h.np,h.err,z0V h.bks _ v4 (v2.trans b2) (v1.trans b3) (by omega),h.nc,h.na,h.n256,h.days,h.cur,h.last,?_,?_⟩
 .have h1:=h.bd a c;have h2:=x0n s o (k0A hc hk) hne a c;show-(999999999999*((s.lg.ne+1:Nat):Int))<=s.lg.bal a c+lgS (enB s o).ps a c/\s.lg.bal a c+lgS (enB s o).ps a c<=999999999999*((s.lg.ne+1:Nat):Int);omega
 .show (i0z s.ds (bkD s o.t)).length<=s.lg.ne+1;have:=h.bks.dl;omega
 .show∀i,i<(i0z s.ds (bkD s o.t)).length->((o0M s.ds s.B (bkD s o.t) ((c0c s.ds s.B s.pr (bkD s o.t)).mv (mtF o) (mtG o) s.cur (mtN o))).getD i bk0).m<=s.lg.ne+1;exact f1j h.bks.dl h.bks.bl (fun i hi=>by have:=h.mb i hi;omega) (by omega)
theorem e0a {s:Bks} (h:BkOk s) (i:Nat) (a:Au):BkOk { s with au:=s.au.set i a}:=
 ⟨h.lg,h.acc,h.bd,h.hn,h.np,h.err,h.bks,h.nc,by show (s.au.set i a).length=s.na;rw [h1N];exact h.na,h.n256,h.days,h.cur,h.last,h.mle,h.mb⟩
theorem d1k {s:Bks} (h:BkOk s) {t:Int} (ht:0<=t/\t<=1099511627776):BkOk { s with last:=t}:=
 ⟨h.lg,h.acc,h.bd,h.hn,h.np,h.err,h.bks,h.nc,h.na,h.n256,h.days,h.cur,ht,h.mle,h.mb⟩
theorem g1i {s:Bks} {o:Bop} (h0:mmE s o=0):¬inL o.id s.lg.ids/\¬512<=s.lg.ne/\owX s o.t (mtF o) (mtG o) (mtN o)=0/\(o.k=4->s.pl o.au<s.na/\(clA s o).2.2.2=0):=by
 unfold mmE at h0;split at h0
 .cases h0
 rename_i h1;split at h0
 .cases h0
 rename_i h2;refine ⟨h1,h2,?_⟩;split at h0
 .split at h0
  .rename_i h4;split at h0
   .rename_i h5;exact absurd h0 h5
   .rename_i h5;exact ⟨h0,fun _=>⟨h4,i1l.1 h5⟩⟩
  .cases h0
 .rename_i h3;exact ⟨h0,fun e=>absurd e h3⟩
theorem d1l {s:Bks} (h:BkOk s) {o:Bop} (hc:CkOk o) (h0:pfE s o=0):BkOk (pfS s o):=by
 unfold pfE at h0;unfold pfS;split at h0
 .rename_i e;rw [if_pos e];unfold x0m at h0;split at h0
  .cases h0
  split at h0
  .cases h0
  rename_i h2;exact ⟨h.lg,h.acc,h.bd,h.hn,h.np,h.err,h.bks,h.nc,by show (s.au++ [_]).length=s.na+1;rw [y0A,h.na];rfl,by show s.na+1<=256;omega,h.days,h.cur,h.last,h.mle,h.mb⟩
 rename_i e1;rw [if_neg e1];split at h0
 .rename_i e;rw [if_pos e];exact ⟨h.lg,h.acc,h.bd,h.hn,h.np,h.err,h.bks,by show (s.cd++ [_]).length=s.nc+1;rw [y0A,h.nc];rfl,h.na,h.n256,h.days,h.cur,h.last,h.mle,h.mb⟩
 rename_i e2;rw [if_neg e2];split at h0
 .rename_i e;rw [if_pos e];obtain ⟨m1,m2,m3,m4⟩:=g1i h0;have:=f1l h hc e m1 m2 m3;unfold mmS;split
  .exact e0a this _ _
  .exact this
 .rename_i e;rw [if_neg e];exact e0a h _ _
theorem d1m {s:Bks} (h:BkOk s) (o:Bop):BkOk (doS s o):=by
 unfold doS;split
 .rename_i h0;unfold doE at h0;split at h0
  .rename_i h1;exact absurd h0 h1
  rename_i h1;split at h0
  .cases h0
  have hc:=y0J (i1l.1 h1);exact d1k (d1l h hc h0) hc.t
 .exact h
end
section
attribute [local irreducible] a0q a0r a0j a0R sortI
abbrev d1n (ro:Bool) (a:Nat) (s:Bks):Option HB:=some (.one ro (.cells [.str s.cur,.int .i64 s.days,.sl a 0 0 s.na,.map 3 0,.ptr 4 0 0 0,.int .i64 s.lg.ne,.ptr 11 0 0 0,.int .i64 s.last]))
abbrev s0t (n:Nat) (ids:List ByteArray):Option HB:=some (.one false (.obj (.map false false n [.strs ids] [.sc (.ints .i64 ((List.range n).map Int.ofNat))] (List.range n) n)))
abbrev g1j (a e f h7 h8 h9:Nat) (s:Bks):a0h:=
 (1,d1n false a s)::(a,some (.one false (auB s.na s.au)))::(3,s0t s.na s.aid)::
 (9,z0e false s.lg)::(4,some (.one false (.cells (lgF 5 e 7 8 9 s.lg))))::(5,some (.one false (k0M s.lg)))::(e,some (.one false (k0N f s.lg)))::(7,some (.one false (t0F s.lg)))::(8,some (.one false (e1I s.lg)))::(f,c0n false s.lg)::
 (11,cyC false 12 14 15 16 s.np s.cut)::(12,w0r false 13)::(13,tmM false s.hn s.hs)::(14,cyP false s.np s.pr)::(16,tmM false s.nc s.cd)::w0I 15 h7 h8 h9 s.np s.m s.ds s.B (sortS s.pr)
abbrev h0q (s:Bks):a0h:=(0,some (GB glT))::g1j 2 6 10 17 18 19 s
abbrev h0r (s:Bks):a0h:=g1j 20 21 22 23 24 25 s
theorem a0y {a e f h7 h8 h9:Nat} {s:Bks}:d0A (g1j a e f h7 h8 h9 s):=
 a0c (a0c (a0c (a0c (a0c (a0c (a0c (a0c (a0c (a0u (a0c (a0c (a0c (a0c (a0c k0p))))))))))))))
theorem e0v (k:Int) (hk:¬(k<1\/8<k)):a0V Tryz.prog 30 [.int .i64 k] (.iface (if k=1 then 137 else if k=8 then 139 else if k=4\/k=5\/k=6 then 140 else 138) (.agg [])):=by
 rcases e0l hk with rfl|rfl|rfl|rfl|rfl|rfl|rfl|rfl
 all_goals
  simp only [Int.reduceEq,if_true,if_false,or_true,true_or,or_false,false_or];refine fEx Tryz.func30 ?_;repeat' ((conv=>whnf);first|refine a0a ?_|(apply bRx<;>intro h<;>try (exfalso;(try dsimp only at h);omega)))
  all_goals (conv=>whnf)
  all_goals exact a0d rfl
theorem f0l (p:ByteArray) (h:p.size<=1000):a0V Tryz.prog 21 [.str p] (.str (d0w p)):=by
 have hz:p0c.size+p.size<=9223372036854775807:=by have:p0c.size=6:=rfl;omega
 refine fEx Tryz.func21 ?_;repeat' ((conv=>whnf);first|(refine a0g hz ?_)|refine a0a ?_|(apply bRx<;>intro h<;>try (exfalso;(try dsimp only at h);omega)))
 all_goals (conv=>whnf)
 exact a0d rfl
theorem n0f (s:Bks) (n:Int):FC Tryz.prog 20 236 [.ptr 1 0 0 0,.int .i64 n] [(1,d1n true 2 s)] (a0f (.agg [.int .i64 n,.str s.cur]) [] 20):=by
 refine fEx Tryz.func236 ?_;repeat' ((conv=>whnf);first|refine a0a ?_|(apply bRx<;>intro h<;>try (exfalso;(try dsimp only at h);omega)))
 all_goals (conv=>whnf)
 exact rOx [0,1,2,3,4,5,6,7,8,9,10,11,12,13,14,15,16,17,18,19] a0b
theorem s0u (s:Bks) (t:Int) (hd:1<=s.days/\s.days<=1000) (ht:0<=t/\t<=1099511627776):FC Tryz.prog 20 204 [.ptr 1 0 0 0,.int .i64 t] [(1,d1n true 2 s)] (a0f (.int .i64 (k0E s t)) [] 20):=by
 have e:IntKind.i64.wrap (t+IntKind.i64.wrap (s.days*86400))=k0E s t:=by
  unfold k0E;rw [a0m (n:=s.days*86400) (by omega) (by omega),a0m (by omega) (by omega)]
 rw [<-e];refine fEx Tryz.func204 ?_;repeat' ((conv=>whnf);first|refine a0a ?_|(apply bRx<;>intro h<;>try (exfalso;(try dsimp only at h);omega)))
 all_goals (conv=>whnf)
 exact rOx [0,1,2,3,4,5,6,7,8,9,10,11,12,13,14,15,16,17,18,19] a0b
theorem f0H (s:Lg) (id:ByteArray) (hs:LgOk s):FC Tryz.prog 8 231 [.ptr 1 0 0 0,.str id] [(1,some (.one true (.cells (lgF 2 3 4 5 6 s)))),(3,some (.one true (k0N 7 s))),(4,some (.one true (t0F s))),(7,c0n true s)]
  (if inL id s.ids then a0f (.tup [.agg [.str ((s.ent.map Le.id).getD (a0l s.ids id) ⟨#[]⟩),.int .i64 ((s.ent.map Le.date).getD (a0l s.ids id) 0),.sl 8 0 0 ((s.ent.map Le.np).getD (a0l s.ids id) 0)],.bool true]) [(8,some (.one false (poB ((s.ent.map Le.np).getD (a0l s.ids id) 0) (s.ent.getD (a0l s.ids id) le0).ps)))] 9
   else a0f (.tup [.agg [.str ⟨#[]⟩,.int .i64 0,.nsl],.bool false]) [] 8):=by
 have hidl:(s.ent.map Le.id).length=s.ne:=by rw [b1M,hs.ne]
 by_cases h:inL id s.ids
 .rw [if_pos h];have h':a0l (s.ent.map Le.id) id<s.ne:=by rw [<-hidl];exact h
  have hm:=(e1A hs (f0T.1 h)).1;have hok:=hs.ent _ hm;have hNP:=c1l s.ent (a0l s.ids id);have c1:=z0t (fun x=>x<s.ne) (enF s.ent) (a0l s.ids id) ((s.ent.map Le.id).getD (a0l s.ids id) ⟨#[]⟩) ((s.ent.map Le.date).getD (a0l s.ids id) 0) (s.ent.getD (a0l s.ids id) le0).ps ((s.ent.map Le.np).getD (a0l s.ids id) 0) h' (by rw [hNP];rfl) (by rw [hNP];exact hok.n) (by rw [hNP];exact hok.n1) (by rw [hNP];have:=hok.n16;omega);have hpl:=q0t h';have hb:decide (a0l (s.ent.map Le.id) id<s.ne)=true:=decide_eq_true h';have hc:0<=((List.range s.ne).map Int.ofNat).getD (a0l (s.ent.map Le.id) id) 0/\((List.range s.ne).map Int.ofNat).getD (a0l (s.ent.map Le.id) id) 0<(s.ne:Int):=by rw [hpl];omega
  refine fEx Tryz.func231 ?_;repeat' ((conv=>whnf);first|(rw [hb])|(simp only [hpl,f0J])|refine cOx (l:= [0,7]) c1 ?_|refine a0a ?_|(apply bRx<;>intro h<;>try (exfalso;(try dsimp only at h);omega)))
  all_goals (conv=>whnf)
  all_goals first
   |exact rOx [0,1,2,3,4,5,6,7,9] (a0c a0b)
   |exact rOx [0,1,2,3,4,5,6,7,10] (a0c a0b)
   |(exfalso;omega)
   |trace_state
 .rw [if_neg h];have h':¬a0l (s.ent.map Le.id) id<s.ne:=by rw [<-hidl];exact h
  have hb:decide (a0l (s.ent.map Le.id) id<s.ne)=false:=decide_eq_false h';refine fEx Tryz.func231 ?_;repeat' ((conv=>whnf);first|(rw [hb])|refine a0a ?_|(apply bRx<;>intro h<;>try (exfalso;(try dsimp only at h);omega)))
  all_goals (conv=>whnf)
  all_goals first
   |exact rOx [0,1,2,3,4,5,6,7] a0b
   |(exfalso;omega)
   |trace_state
end
section
attribute [local irreducible] a0q a0r a0j a0R sortI
attribute [local irreducible] seq ByteArray.extract lgE
theorem z0X {n ix:Nat} {ids:List ByteArray} {id:ByteArray} (hix:ix=n) (hl:ids.length=n):
  (some (HB.one false (.obj (.map false false (if ix<n then n else n+1) [.strs (a0U ix id ids)] [.sc (.ints .i64 (a0U ix (n:Int) ((List.range n).map Int.ofNat)))] (if ix<n then List.range n else List.range n++ [n]) (if ix<n then n else n+1)))):Option HB)=s0t (n+1) (ids++ [id]):=by
 subst hix;rw [if_neg (by omega),if_neg (by omega),b0V hl,b0V (by rw [b1M,List.length_range])];unfold s0t;rw [i1Q,f1T];rfl
theorem i0N (L:List Au) (i:Nat) (a:Au) (h:a.id=(b0j L i).id):(L.set i a).map Au.id=L.map Au.id:=by
 rw [List.map_set];refine i1p (h1N ..) fun j h1 h2=> ?_
 rw [List.getElem_set];split
 .rename_i e;subst e;rw [h];show (L.map Au.id).getD i ⟨#[]⟩=_;rw [List.getD,j0I h2];rfl
 .rfl
theorem x0o {a:Au} {n u:Int} (h:(d0r a n u).2=0):(d0r a n u).1.id=a.id:=by
 unfold d0r at h⊢;repeat' split
 all_goals first|rfl|(simp_all;done)
theorem q0H {a:Au} {n:Int} (h:(b0g a n).2.2=0):(b0g a n).1.id=a.id:=by
 unfold b0g at h⊢;repeat' split
 all_goals first|rfl|(simp_all;done)
theorem t0Q {a:Au} {n:Int} (h:(b0M a n).2.2=0):(b0M a n).1.id=a.id:=by
 unfold b0M at h⊢;repeat' split
 all_goals first|rfl|(simp_all;done)
theorem x0p {a:Au} {n:Int} {b:Bool} (h:(e0U a n b).2.2.2=0):(e0U a n b).1.id=a.id:=by
 unfold e0U at h⊢;repeat' split
 all_goals first|rfl|(simp_all;done)
set_option maxHeartbeats 2000000 in
theorem t0R (s:Bks) (o:Bop) (h:BkOk s) (hc:CkOk o):FC Tryz.prog 20 202 [.agg [],.ptr 1 0 0 0,o.s] (h0q s) (a0f (.int .i64 (x0m s o)) (h0r (if x0m s o=0 then b1i s o else s)) 26):=by
 have c1:=s0u s o.t h.days hc.t;have c2:=y0K o.au s.cur o.am o.t (k0E s o.t);have hal:s.aid.length=s.na:=by unfold Bks.aid;rw [b1M,h.na]
 have h256:=h.n256;unfold x0m b1i;by_cases hk:s.pl o.au<s.na
 .rw [if_pos hk,if_neg (by decide)];have hb:decide (a0l s.aid o.au<s.na)=true:=decide_eq_true hk;refine fEx Tryz.func202 ?_;repeat' ((conv=>whnf);first|(rw [hb])|refine a0a ?_|(apply bRx<;>intro h<;>try (exfalso;(try dsimp only at h);omega)))
  all_goals (conv=>whnf)
  all_goals first
   |exact rOx [0,1,2,3,4,5,6,7,8,9,10,11,12,13,14,15,16,17,18,19,2,6,10,17,18,19] a0y
   |(exfalso;omega)
   |trace_state
 rw [if_neg hk];have hb:decide (a0l s.aid o.au<s.na)=false:=decide_eq_false hk;by_cases hn:256<=s.na
 .rw [if_pos hn,if_neg (by decide)];refine fEx Tryz.func202 ?_;repeat' ((conv=>whnf);first|(rw [hb])|refine a0a ?_|(apply bRx<;>intro h<;>try (exfalso;(try dsimp only at h);omega)))
  all_goals (conv=>whnf)
  all_goals first
   |exact rOx [0,1,2,3,4,5,6,7,8,9,10,11,12,13,14,15,16,17,18,19,2,6,10,17,18,19] a0y
   |(exfalso;omega)
   |trace_state
 rw [if_neg hn];have hnid:=b1Y o.au s.cur o.am o.t (k0E s o.t);generalize v0s o.au s.cur o.am o.t (k0E s o.t)=N at*;obtain ⟨a,e⟩:=N;dsimp only at c2 hnid⊢;by_cases he:e=0
 .rw [if_pos he];subst he;have hid:a.id=o.au:=hnid rfl;have hix:a0l s.aid o.au=s.na:=by
   have h1:=Go.Sy.sidx_le s.aid o.au;have h2:¬a0l s.aid o.au<s.na:=hk;omega
  have hpl:=z0X (n:=s.na) (ids:=s.aid) (id:=o.au) hix hal;have hap:=x0l (s.na+1) s.au a;have e3:s0t (s.na+1) (s.aid++ [o.au])=s0t (s.na+1) ((s.au++ [a]).map Au.id):=by rw [f1T,<-hid];rfl
  refine fEx Tryz.func202 ?_;repeat' ((conv=>whnf);first|(rw [hb])|refine cOx (l:= [0,1,2,3,4,5,6,7,8,9,10,11,12,13,14,15,16,17,18,19]) c1 ?_|refine cPx c2 ?_|refine a0a ?_|(apply bRx<;>intro h<;>try (exfalso;(try dsimp only at h);omega)))
  all_goals (conv=>whnf)
  all_goals first
   |(exfalso;omega)
   |(exfalso;exact h rfl)
   |exact a0H (l:= [0,1,2,3,4,5,6,7,8,9,10,11,12,13,14,15,16,17,18,19,24,6,10,17,18,19]) rfl rfl ⟨rfl,congrArg (fun z=>some (HB.one false z)) hap,hpl.trans e3,rfl,rfl,rfl,rfl,rfl,rfl,rfl,rfl,rfl,rfl,rfl,rfl,rfl,rfl,rfl,rfl,trivial⟩ a0y
   |trace_state
 .rw [if_neg he];refine fEx Tryz.func202 ?_;repeat' ((conv=>whnf);first|(rw [hb])|refine cOx (l:= [0,1,2,3,4,5,6,7,8,9,10,11,12,13,14,15,16,17,18,19]) c1 ?_|refine cPx c2 ?_|refine a0a ?_|(apply bRx<;>intro h<;>try (exfalso;(try dsimp only at h);omega)))
  all_goals (conv=>whnf)
  all_goals first
   |exact rOx [0,1,2,3,4,5,6,7,8,9,10,11,12,13,14,15,16,17,18,19,2,6,10,17,18,19] a0y
   |(exfalso;omega)
   |(exfalso;exact he h)
   |trace_state
set_option maxHeartbeats 2000000 in
theorem t0S (s:Bks) (o:Bop) (h:BkOk s) (hc:CkOk o) (hk:o.k=2):FC Tryz.prog 20 205 [.agg [],.ptr 1 0 0 0,o.s] (h0q s) (a0f (.int .i64 (d0l s o)) (h0r (if d0l s o=0 then f0L s o else s)) 26):=by
 have c1:=s0u s o.t h.days hc.t;have c2:=t0s (b0j s.au (s.pl o.au)) o.am (max (b0j s.au (s.pl o.au)).unt (k0E s o.t));have hA:s0q s o=d0r (b0j s.au (s.pl o.au)) o.am (max (b0j s.au (s.pl o.au)).unt (k0E s o.t)):=by unfold s0q;rw [if_pos hk]
 have hd2:decide (o.k=2)=true:=decide_eq_true hk;unfold d0l f0L;by_cases hp:s.pl o.au<s.na
 .have hb:decide (a0l s.aid o.au<s.na)=true:=decide_eq_true hp;have hpl:=q0t hp;have hcn:0<=((List.range s.na).map Int.ofNat).getD (s.pl o.au) 0/\((List.range s.na).map Int.ofNat).getD (s.pl o.au) 0<(s.na:Int):=by rw [hpl];omega
  rw [if_pos hp,hA];have hidk:=x0o (a:=b0j s.au (s.pl o.au)) (n:=o.am) (u:=max (b0j s.au (s.pl o.au)).unt (k0E s o.t));unfold b0j at c2;try dsimp only at c2
  generalize hN:d0r (b0j s.au (s.pl o.au)) o.am (max (b0j s.au (s.pl o.au)).unt (k0E s o.t))=N at*;unfold b0j at hN;rw [hN] at c2;obtain ⟨a,e⟩:=N;dsimp only at c2 hidk⊢;by_cases he:e=0
  .rw [if_pos he];subst he;have hap:=f0k s.na s.au (s.pl o.au) a;have r3:s0t s.na s.aid=s0t s.na ((s.au.set (s.pl o.au) a).map Au.id):=by rw [i0N _ _ _ (hidk rfl)]
   refine fEx Tryz.func205 ?_;repeat' ((conv=>whnf);first|(rw [hb])|(rw [hd2];dsimp only [a0P,a0Y])|(simp only [hpl,f0J])|refine cOx (l:= [0,1,2,3,4,5,6,7,8,9,10,11,12,13,14,15,16,17,18,19]) c1 ?_|refine cPx c2 ?_|refine a0a ?_|(apply bRx<;>intro h<;>try (exfalso;(try dsimp only at h);omega)))
   all_goals (conv=>whnf)
   all_goals first
    |(exfalso;omega)
    |(exfalso;exact h rfl)
    |exact a0H (l:= [0,1,2,3,4,5,6,7,8,9,10,11,12,13,14,15,16,17,18,19,2,6,10,17,18,19]) rfl rfl ⟨rfl,congrArg (fun z=>some (HB.one false z)) hap,r3,rfl,rfl,rfl,rfl,rfl,rfl,rfl,rfl,rfl,rfl,rfl,rfl,rfl,rfl,rfl,rfl,trivial⟩ a0y
    |trace_state
  .rw [if_neg he];refine fEx Tryz.func205 ?_;repeat' ((conv=>whnf);first|(rw [hb])|(rw [hd2];dsimp only [a0P,a0Y])|(simp only [hpl,f0J])|refine cOx (l:= [0,1,2,3,4,5,6,7,8,9,10,11,12,13,14,15,16,17,18,19]) c1 ?_|refine cPx c2 ?_|refine a0a ?_|(apply bRx<;>intro h<;>try (exfalso;(try dsimp only at h);omega)))
   all_goals (conv=>whnf)
   all_goals first
    |exact rOx [0,1,2,3,4,5,6,7,8,9,10,11,12,13,14,15,16,17,18,19,2,6,10,17,18,19] a0y
    |(exfalso;omega)
    |(exfalso;exact he h)
    |trace_state
 .have hb:decide (a0l s.aid o.au<s.na)=false:=decide_eq_false hp;rw [if_neg hp,if_neg (by decide)];refine fEx Tryz.func205 ?_;repeat' ((conv=>whnf);first|(rw [hb])|refine a0a ?_|(apply bRx<;>intro h<;>try (exfalso;(try dsimp only at h);omega)))
  all_goals (conv=>whnf)
  all_goals first
   |exact rOx [0,1,2,3,4,5,6,7,8,9,10,11,12,13,14,15,16,17,18,19,2,6,10,17,18,19] a0y
   |(exfalso;omega)
   |trace_state
set_option maxHeartbeats 2000000 in
theorem t0T (s:Bks) (o:Bop) (h:BkOk s) (hc:CkOk o) (hk:o.k=3):FC Tryz.prog 20 205 [.agg [],.ptr 1 0 0 0,o.s] (h0q s) (a0f (.int .i64 (d0l s o)) (h0r (if d0l s o=0 then f0L s o else s)) 26):=by
 have c1:=s0u s o.t h.days hc.t;have c2:=o0m (b0j s.au (s.pl o.au)) o.am;have hA:s0q s o=((b0g (b0j s.au (s.pl o.au)) o.am).1,(b0g (b0j s.au (s.pl o.au)) o.am).2.2):=by unfold s0q;rw [if_neg (by omega),if_pos hk]
 have hd2:decide (o.k=2)=false:=decide_eq_false (by omega);have hd3:decide (o.k=3)=true:=decide_eq_true hk;unfold d0l f0L;by_cases hp:s.pl o.au<s.na
 .have hb:decide (a0l s.aid o.au<s.na)=true:=decide_eq_true hp;have hpl:=q0t hp;have hcn:0<=((List.range s.na).map Int.ofNat).getD (s.pl o.au) 0/\((List.range s.na).map Int.ofNat).getD (s.pl o.au) 0<(s.na:Int):=by rw [hpl];omega
  rw [if_pos hp,hA];have hidk:=q0H (a:=b0j s.au (s.pl o.au)) (n:=o.am);unfold b0j at c2;try dsimp only at c2
  generalize hN:b0g (b0j s.au (s.pl o.au)) o.am=N at*;unfold b0j at hN;rw [hN] at c2;obtain ⟨a,r,e⟩:=N;dsimp only at c2 hidk⊢;by_cases he:e=0
  .rw [if_pos he];subst he;have hap:=f0k s.na s.au (s.pl o.au) a;have r3:s0t s.na s.aid=s0t s.na ((s.au.set (s.pl o.au) a).map Au.id):=by rw [i0N _ _ _ (hidk rfl)]
   refine fEx Tryz.func205 ?_;repeat' ((conv=>whnf);first|(rw [hb])|(rw [hd2];dsimp only [a0P,a0Y])|(rw [hd3];try dsimp only [a0P,a0Y])|(simp only [hpl,f0J])|refine cOx (l:= [0,1,2,3,4,5,6,7,8,9,10,11,12,13,14,15,16,17,18,19]) c1 ?_|refine cPx c2 ?_|refine a0a ?_|(apply bRx<;>intro h<;>try (exfalso;(try dsimp only at h);omega)))
   all_goals (conv=>whnf)
   all_goals first
    |(exfalso;omega)
    |(exfalso;exact h rfl)
    |exact a0H (l:= [0,1,2,3,4,5,6,7,8,9,10,11,12,13,14,15,16,17,18,19,2,6,10,17,18,19]) rfl rfl ⟨rfl,congrArg (fun z=>some (HB.one false z)) hap,r3,rfl,rfl,rfl,rfl,rfl,rfl,rfl,rfl,rfl,rfl,rfl,rfl,rfl,rfl,rfl,rfl,trivial⟩ a0y
    |trace_state
  .rw [if_neg he];refine fEx Tryz.func205 ?_;repeat' ((conv=>whnf);first|(rw [hb])|(rw [hd2];dsimp only [a0P,a0Y])|(rw [hd3];try dsimp only [a0P,a0Y])|(simp only [hpl,f0J])|refine cOx (l:= [0,1,2,3,4,5,6,7,8,9,10,11,12,13,14,15,16,17,18,19]) c1 ?_|refine cPx c2 ?_|refine a0a ?_|(apply bRx<;>intro h<;>try (exfalso;(try dsimp only at h);omega)))
   all_goals (conv=>whnf)
   all_goals first
    |exact rOx [0,1,2,3,4,5,6,7,8,9,10,11,12,13,14,15,16,17,18,19,2,6,10,17,18,19] a0y
    |(exfalso;omega)
    |(exfalso;exact he h)
    |trace_state
 .have hb:decide (a0l s.aid o.au<s.na)=false:=decide_eq_false hp;rw [if_neg hp,if_neg (by decide)];refine fEx Tryz.func205 ?_;repeat' ((conv=>whnf);first|(rw [hb])|refine a0a ?_|(apply bRx<;>intro h<;>try (exfalso;(try dsimp only at h);omega)))
  all_goals (conv=>whnf)
  all_goals first
   |exact rOx [0,1,2,3,4,5,6,7,8,9,10,11,12,13,14,15,16,17,18,19,2,6,10,17,18,19] a0y
   |(exfalso;omega)
   |trace_state
set_option maxHeartbeats 2000000 in
theorem t0U (s:Bks) (o:Bop) (h:BkOk s) (hc:CkOk o) (hk:o.k=7):FC Tryz.prog 20 205 [.agg [],.ptr 1 0 0 0,o.s] (h0q s) (a0f (.int .i64 (d0l s o)) (h0r (if d0l s o=0 then f0L s o else s)) 26):=by
 have c1:=s0u s o.t h.days hc.t;have c2:=p0W (b0j s.au (s.pl o.au)) o.t;have hA:s0q s o=((b0M (b0j s.au (s.pl o.au)) o.t).1,(b0M (b0j s.au (s.pl o.au)) o.t).2.2):=by unfold s0q;rw [if_neg (by omega),if_neg (by omega)]
 have hd2:decide (o.k=2)=false:=decide_eq_false (by omega);have hd3:decide (o.k=3)=false:=decide_eq_false (by omega);unfold d0l f0L;by_cases hp:s.pl o.au<s.na
 .have hb:decide (a0l s.aid o.au<s.na)=true:=decide_eq_true hp;have hpl:=q0t hp;have hcn:0<=((List.range s.na).map Int.ofNat).getD (s.pl o.au) 0/\((List.range s.na).map Int.ofNat).getD (s.pl o.au) 0<(s.na:Int):=by rw [hpl];omega
  rw [if_pos hp,hA];have hidk:=t0Q (a:=b0j s.au (s.pl o.au)) (n:=o.t);unfold b0j at c2;try dsimp only at c2
  generalize hN:b0M (b0j s.au (s.pl o.au)) o.t=N at*;unfold b0j at hN;rw [hN] at c2;obtain ⟨a,r,e⟩:=N;dsimp only at c2 hidk⊢;by_cases he:e=0
  .rw [if_pos he];subst he;have hap:=f0k s.na s.au (s.pl o.au) a;have r3:s0t s.na s.aid=s0t s.na ((s.au.set (s.pl o.au) a).map Au.id):=by rw [i0N _ _ _ (hidk rfl)]
   refine fEx Tryz.func205 ?_;repeat' ((conv=>whnf);first|(rw [hb])|(rw [hd2];dsimp only [a0P,a0Y])|(rw [hd3];try dsimp only [a0P,a0Y])|(simp only [hpl,f0J])|refine cOx (l:= [0,1,2,3,4,5,6,7,8,9,10,11,12,13,14,15,16,17,18,19]) c1 ?_|refine cPx c2 ?_|refine a0a ?_|(apply bRx<;>intro h<;>try (exfalso;(try dsimp only at h);omega)))
   all_goals (conv=>whnf)
   all_goals first
    |(exfalso;omega)
    |(exfalso;exact h rfl)
    |exact a0H (l:= [0,1,2,3,4,5,6,7,8,9,10,11,12,13,14,15,16,17,18,19,2,6,10,17,18,19]) rfl rfl ⟨rfl,congrArg (fun z=>some (HB.one false z)) hap,r3,rfl,rfl,rfl,rfl,rfl,rfl,rfl,rfl,rfl,rfl,rfl,rfl,rfl,rfl,rfl,rfl,trivial⟩ a0y
    |trace_state
  .rw [if_neg he];refine fEx Tryz.func205 ?_;repeat' ((conv=>whnf);first|(rw [hb])|(rw [hd2];dsimp only [a0P,a0Y])|(rw [hd3];try dsimp only [a0P,a0Y])|(simp only [hpl,f0J])|refine cOx (l:= [0,1,2,3,4,5,6,7,8,9,10,11,12,13,14,15,16,17,18,19]) c1 ?_|refine cPx c2 ?_|refine a0a ?_|(apply bRx<;>intro h<;>try (exfalso;(try dsimp only at h);omega)))
   all_goals (conv=>whnf)
   all_goals first
    |exact rOx [0,1,2,3,4,5,6,7,8,9,10,11,12,13,14,15,16,17,18,19,2,6,10,17,18,19] a0y
    |(exfalso;omega)
    |(exfalso;exact he h)
    |trace_state
 .have hb:decide (a0l s.aid o.au<s.na)=false:=decide_eq_false hp;rw [if_neg hp,if_neg (by decide)];refine fEx Tryz.func205 ?_;repeat' ((conv=>whnf);first|(rw [hb])|refine a0a ?_|(apply bRx<;>intro h<;>try (exfalso;(try dsimp only at h);omega)))
  all_goals (conv=>whnf)
  all_goals first
   |exact rOx [0,1,2,3,4,5,6,7,8,9,10,11,12,13,14,15,16,17,18,19,2,6,10,17,18,19] a0y
   |(exfalso;omega)
   |trace_state
end
section
attribute [local irreducible] a0q a0r a0j a0R sortI
attribute [local irreducible] seq ByteArray.extract lgE
theorem f0m {s:ByteArray} (h:nmB s=true):s.size<=16:=by
 unfold nmB at h;simp only [k0P,decide_eq_true_eq] at h;exact h.1.1.2
theorem x0q (s:Bks) (o:Bop) (f g:ByteArray) (n:Int) (h:BkOk s) (hx:owX s o.t f g n≠0):FC Tryz.prog 20 232 [.ptr 1 0 0 0,o.s,.str f,.str g,.int .i64 n] (h0q s) (a0f (.int .i64 (owX s o.t f g n)) (h0r s) 26):=by
 have c1:=n0f s n;have c2:=w0O h.bks h.hn h.nc h.np h.err s.cut o.t f g s.cur n;unfold mvO at c2;rw [if_neg (show¬mvX s.hs s.ds s.cd s.B s.pr (mvD s.hs s.cd (ofI s.hs s.cut o.t)) f g s.cur n=0 from hx)] at c2;unfold owX bkD at hx⊢;generalize mvX s.hs s.ds s.cd s.B s.pr (mvD s.hs s.cd (ofI s.hs s.cut o.t)) f g s.cur n=E at*;refine fEx Tryz.func232 ?_;repeat' ((conv=>whnf);first|refine cOx (l:= [0,1,2,3,4,5,6,7,8,9,10,11,12,13,14,15,16,17,18,19]) c1 ?_|refine cOx (l:= [0,11,12,13,14,15,16,17,18,19]) c2 ?_|refine a0a ?_|(apply bRx<;>intro h<;>try (exfalso;(try dsimp only at h);omega)))
 all_goals (conv=>whnf)
 all_goals first
  |exact rOx [0,1,2,3,4,5,6,7,8,9,10,11,12,13,14,15,16,17,18,19,2,6,10,17,18,19] a0y
  |(exfalso;omega)
  |(exfalso;exact hx h)
  |trace_state
theorem x0r (s:Bks) (o:Bop) (h:BkOk s) (hc:CkOk o) (hk:o.k=4\/o.k=5\/o.k=6) (hi:¬inL o.id s.lg.ids) (hf:¬512<=s.lg.ne) (hx:owX s o.t (mtF o) (mtG o) (mtN o)=0):
  FC Tryz.prog 20 232 [.ptr 1 0 0 0,o.s,.str (mtF o),.str (mtG o),.int .i64 (mtN o)] (h0q s) (a0f (.int .i64 0) (h0r (owS s o)) 26):=by
 obtain ⟨hp,hne⟩:=d1j h hc hk hi hf hx;obtain ⟨b1,b2,b3⟩:=s0r h.bks h.np h.err (bkD s o.t);obtain ⟨m1,m2,m3,m4,m5,m6⟩:=n0e hx b3 b1.psl;have hb:=k0A hc hk;obtain ⟨w1,w2,w3⟩:=h0k h.err;have z1:=f0m (w3 _ m3);have z2:=f0m (w3 _ m4);have c1:=n0f s (mtN o);have c1':=n0f s (-mtN o);have c2:=w0O h.bks h.hn h.nc h.np h.err s.cut o.t (mtF o) (mtG o) s.cur (mtN o);unfold mvO at c2;rw [if_pos (show mvX s.hs s.ds s.cd s.B s.pr (mvD s.hs s.cd (ofI s.hs s.cut o.t)) (mtF o) (mtG o) s.cur (mtN o)=0 from hx)] at c2;have c3:=w0q o.t;have c4:=f0l (mtF o) (by omega);have c4':=f0l (mtG o) (by omega);have c5:=t0G s.lg o.id (g0m o.t) (enB s o).ps 2 h.lg rfl hp;change FC _ _ _ _ _ (a0f _ ((6,z0e false (lgP s.lg (enB s o)))::psO (lgP s.lg (enB s o))) _) at c5;have hneg:IntKind.i64.wrap (0-mtN o)= -mtN o:=by rw [a0m (by omega) (by omega)];omega
 have hne1:IntKind.i64.wrap ((s.lg.ne:Int)+1)=((lgP s.lg (enB s o)).ne:Int):=a0i (by omega);have ha:k0M s.lg=k0M (lgP s.lg (enB s o)):=rfl;have hst:e1I s.lg=e1I (lgP s.lg (enB s o)):=rfl;unfold owS;unfold enB at c5;dsimp only at c5;change FC _ _ _ _ _ (a0f _ ((6,z0e false (lgP s.lg (enB s o)))::psO (lgP s.lg (enB s o))) _) at c5;generalize lgP s.lg (enB s o)=S' at*;unfold bkD;generalize mvD s.hs s.cd (ofI s.hs s.cut o.t)=D at*;generalize mtF o=F at*;generalize mtG o=G at*;generalize mtN o=N at*;generalize g0m o.t=dd at*;generalize w0p o.t=ds at*;have r1:(some (HB.one false (.cells [.str s.cur,.int .i64 s.days,.sl 2 0 0 s.na,.map 3 0,.ptr 4 0 0 0,.int .i64 (IntKind.i64.wrap ((s.lg.ne:Int)+1)),.ptr 11 0 0 0,.int .i64 s.last])):Option HB)=some (.one false (.cells [.str s.cur,.int .i64 s.days,.sl 2 0 0 s.na,.map 3 0,.ptr 4 0 0 0,.int .i64 S'.ne,.ptr 11 0 0 0,.int .i64 s.last])):=by rw [hne1]
 have r5:=congrArg (fun z=>some (HB.one false z)) ha;have r8:=congrArg (fun z=>some (HB.one false z)) hst;refine fEx Tryz.func232 ?_;repeat' ((conv=>whnf);first|refine cOx (l:= [0,1,2,3,4,5,6,7,8,9,10,11,12,13,14,15,16,17,18,19]) c1 ?_|refine cOx (l:= [0,1,2,3,4,5,6,7,8,9,10,11,12,13,14,15,16,17,18,19]) c1' ?_|refine cOx (l:= [0,11,12,13,14,15,16,17,18,19]) c2 ?_|refine cPx c3 ?_|refine cPx c4 ?_|refine cPx c4' ?_|(rw [hneg])|refine cOx (l:= [0,4,5,6,7,8,9,10,24]) c5 ?_|refine a0a ?_|(apply bRx<;>intro h<;>try (exfalso;(try dsimp only at h);omega)))
 all_goals (conv=>whnf)
 all_goals first
  |(exfalso;omega)
  |(exfalso;exact h rfl)
  |exact a0H (l:= [0,1,2,3,4,5,6,7,8,9,10,11,12,13,14,15,16,17,18,19,2,25,26,21,22,23]) rfl rfl ⟨r1,rfl,rfl,rfl,rfl,r5,rfl,rfl,r8,rfl,rfl,rfl,rfl,rfl,rfl,rfl,rfl,rfl,rfl,trivial⟩ a0y
  |trace_state
end
section
attribute [local irreducible] a0q a0r a0j a0R sortI
attribute [local irreducible] seq ByteArray.extract lgE
theorem s0v (s:Bks) (o:Bop) (h:BkOk s) (hc:CkOk o) (hk:o.k=4\/o.k=5\/o.k=6) (hi:¬inL o.id s.lg.ids) (hf:¬512<=s.lg.ne):
  FC Tryz.prog 20 232 [.ptr 1 0 0 0,o.s,.str (mtF o),.str (mtG o),.int .i64 (mtN o)] (h0q s) (a0f (.int .i64 (owX s o.t (mtF o) (mtG o) (mtN o))) (h0r (if owX s o.t (mtF o) (mtG o) (mtN o)=0 then owS s o else s)) 26):=by
 by_cases hx:owX s o.t (mtF o) (mtG o) (mtN o)=0
 .rw [if_pos hx,hx];exact x0r s o h hc hk hi hf hx
 .rw [if_neg hx];exact x0q s o (mtF o) (mtG o) (mtN o) h hx
theorem s0w {n:Nat} (h:¬512<=n):(n:Int)<512:=by omega
theorem d1o (s:Bks) (o:Bop) (h:BkOk s) (hc:CkOk o) (hk:o.k=5) (hi:¬inL o.id s.lg.ids) (hf:¬512<=s.lg.ne):FC Tryz.prog 20 230 [.agg [],.ptr 1 0 0 0,o.s] (h0q s) (a0f (.int .i64 (mmE s o)) (h0r (if mmE s o=0 then mmS s o else s)) 26):=by
 have hb:=k0A hc (by omega);have eF:mtF o=o.ac:=by unfold mtF;rw [if_pos hk]
 have eG:mtG o=o.is:=by unfold mtG;rw [if_pos hk]
 have eN:mtN o=o.am-o.fe:=by unfold mtN;rw [if_neg (by omega)]
 have hE:mmE s o=owX s o.t (mtF o) (mtG o) (mtN o):=by unfold mmE;rw [if_neg hi,if_neg hf,if_neg (by omega)]
 have hS:mmS s o=owS s o:=by unfold mmS;rw [if_neg (by omega)]
 have c2:=s0v s o h hc (by omega) hi hf;have c1:=f0H s.lg o.id h.lg;rw [if_neg hi] at c1;rw [hE,hS];rw [eF,eG,eN] at c2⊢;rw [eN] at hb;have hw:IntKind.i64.wrap (o.am-o.fe)=o.am-o.fe:=by rw [a0m (by omega) (by omega)]
 have hfi:=s0w hf;generalize owX s o.t o.ac o.is (o.am-o.fe)=E at*;generalize (if E=0 then owS s o else s)=S' at*;refine fEx Tryz.func230 ?_;repeat' ((conv=>whnf);first|(rw [hw])|refine cOx (l:= [0,4,5,6,7,8,9,10]) c1 ?_|refine cOx (l:= [0,1,2,3,4,5,6,7,8,9,10,11,12,13,14,15,16,17,18,19]) c2 ?_|refine a0a ?_|(apply bRx<;>intro h<;>try (exfalso;(try dsimp only at h);omega)))
 all_goals (conv=>whnf)
 all_goals first
  |(exfalso;omega)
  |exact rOx [0,1,2,3,4,5,6,7,8,9,10,11,12,13,14,15,16,17,18,19,23,24,25,26,27,28] a0y
  |trace_state
theorem z0Y (s:Bks) (o:Bop) (h:BkOk s) (hc:CkOk o) (hk:o.k=6) (ha:o.am<0) (hi:¬inL o.id s.lg.ids) (hf:¬512<=s.lg.ne):FC Tryz.prog 20 230 [.agg [],.ptr 1 0 0 0,o.s] (h0q s) (a0f (.int .i64 (mmE s o)) (h0r (if mmE s o=0 then mmS s o else s)) 26):=by
 have hb:=k0A hc (by omega);have eF:mtF o=o.is:=by unfold mtF;rw [if_neg (by omega),if_neg (fun e=>e.2 ha)]
 have eG:mtG o=o.ac:=by unfold mtG;rw [if_neg (by omega),if_neg (fun e=>e.2 ha)]
 have eN:mtN o= -o.am:=by unfold mtN;rw [if_pos hk,if_pos ha]
 have hE:mmE s o=owX s o.t (mtF o) (mtG o) (mtN o):=by unfold mmE;rw [if_neg hi,if_neg hf,if_neg (by omega)]
 have hS:mmS s o=owS s o:=by unfold mmS;rw [if_neg (by omega)]
 have c2:=s0v s o h hc (by omega) hi hf;have c1:=f0H s.lg o.id h.lg;rw [if_neg hi] at c1;rw [hE,hS];rw [eF,eG,eN] at c2⊢;rw [eN] at hb;have hw:IntKind.i64.wrap (0-o.am)= -o.am:=by rw [a0m (by omega) (by omega)];omega
 have hfi:=s0w hf;generalize owX s o.t o.is o.ac (-o.am)=E at*;generalize (if E=0 then owS s o else s)=S' at*;refine fEx Tryz.func230 ?_;repeat' ((conv=>whnf);first|(rw [hw])|refine cOx (l:= [0,4,5,6,7,8,9,10]) c1 ?_|refine cOx (l:= [0,1,2,3,4,5,6,7,8,9,10,11,12,13,14,15,16,17,18,19]) c2 ?_|refine a0a ?_|(apply bRx<;>intro h<;>try (exfalso;(try dsimp only at h);omega)))
 all_goals (conv=>whnf)
 all_goals first
  |(exfalso;omega)
  |exact rOx [0,1,2,3,4,5,6,7,8,9,10,11,12,13,14,15,16,17,18,19,23,24,25,26,27,28] a0y
  |trace_state
theorem z0Z (s:Bks) (o:Bop) (h:BkOk s) (hc:CkOk o) (hk:o.k=6) (ha:¬o.am<0) (hi:¬inL o.id s.lg.ids) (hf:¬512<=s.lg.ne):FC Tryz.prog 20 230 [.agg [],.ptr 1 0 0 0,o.s] (h0q s) (a0f (.int .i64 (mmE s o)) (h0r (if mmE s o=0 then mmS s o else s)) 26):=by
 have hb:=k0A hc (by omega);have eF:mtF o=o.ac:=by unfold mtF;rw [if_neg (by omega),if_pos ⟨hk,ha⟩]
 have eG:mtG o=o.is:=by unfold mtG;rw [if_neg (by omega),if_pos ⟨hk,ha⟩]
 have eN:mtN o=o.am:=by unfold mtN;rw [if_pos hk,if_neg ha]
 have hE:mmE s o=owX s o.t (mtF o) (mtG o) (mtN o):=by unfold mmE;rw [if_neg hi,if_neg hf,if_neg (by omega)]
 have hS:mmS s o=owS s o:=by unfold mmS;rw [if_neg (by omega)]
 have c2:=s0v s o h hc (by omega) hi hf;have c1:=f0H s.lg o.id h.lg;rw [if_neg hi] at c1;rw [hE,hS];rw [eF,eG,eN] at c2⊢;rw [eN] at hb;have hw:IntKind.i64.wrap o.am=o.am:=by rw [a0m (by omega) (by omega)]
 have hfi:=s0w hf;generalize owX s o.t o.ac o.is (o.am)=E at*;generalize (if E=0 then owS s o else s)=S' at*;refine fEx Tryz.func230 ?_;repeat' ((conv=>whnf);first|refine cOx (l:= [0,4,5,6,7,8,9,10]) c1 ?_|refine cOx (l:= [0,1,2,3,4,5,6,7,8,9,10,11,12,13,14,15,16,17,18,19]) c2 ?_|refine a0a ?_|(apply bRx<;>intro h<;>try (exfalso;(try dsimp only at h);omega)))
 all_goals (conv=>whnf)
 all_goals first
  |(exfalso;omega)
  |exact rOx [0,1,2,3,4,5,6,7,8,9,10,11,12,13,14,15,16,17,18,19,23,24,25,26,27,28] a0y
  |trace_state
theorem x0s (s:Bks) (o:Bop) (h:BkOk s) (hk:o.k=4\/o.k=5\/o.k=6) (hi:inL o.id s.lg.ids):FC Tryz.prog 20 230 [.agg [],.ptr 1 0 0 0,o.s] (h0q s) (a0f (.int .i64 15) (h0r s) 26):=by
 have c1:=f0H s.lg o.id h.lg;rw [if_pos hi] at c1;refine fEx Tryz.func230 ?_;repeat' ((conv=>whnf);first|refine cOx (l:= [0,4,5,6,7,8,9,10]) c1 ?_|refine a0a ?_|(apply bRx<;>intro h<;>try (exfalso;(try dsimp only at h);omega)))
 all_goals (conv=>whnf)
 all_goals first
  |(exfalso;omega)
  |exact rOx [0,1,2,3,4,5,6,7,8,9,10,11,12,13,14,15,16,17,18,19,2,6,10,17,18,19] a0y
  |trace_state
theorem q0I (s:Bks) (o:Bop) (h:BkOk s) (hk:o.k=4\/o.k=5\/o.k=6) (hi:¬inL o.id s.lg.ids) (hf:512<=s.lg.ne):FC Tryz.prog 20 230 [.agg [],.ptr 1 0 0 0,o.s] (h0q s) (a0f (.int .i64 12) (h0r s) 26):=by
 have c1:=f0H s.lg o.id h.lg;rw [if_neg hi] at c1;refine fEx Tryz.func230 ?_;repeat' ((conv=>whnf);first|refine cOx (l:= [0,4,5,6,7,8,9,10]) c1 ?_|refine a0a ?_|(apply bRx<;>intro h<;>try (exfalso;(try dsimp only at h);omega)))
 all_goals (conv=>whnf)
 all_goals first
  |(exfalso;omega)
  |exact rOx [0,1,2,3,4,5,6,7,8,9,10,11,12,13,14,15,16,17,18,19,2,6,10,17,18,19] a0y
  |trace_state
set_option maxHeartbeats 2000000 in
theorem d1p (s:Bks) (o:Bop) (h:BkOk s) (hc:CkOk o) (hk:o.k=4) (hi:¬inL o.id s.lg.ids) (hf:¬512<=s.lg.ne):FC Tryz.prog 20 230 [.agg [],.ptr 1 0 0 0,o.s] (h0q s) (a0f (.int .i64 (mmE s o)) (h0r (if mmE s o=0 then mmS s o else s)) 26):=by
 have hb':=k0A hc (by omega);have eF:mtF o=o.is:=by unfold mtF;rw [if_neg (by omega),if_neg (by omega)]
 have eG:mtG o=o.ac:=by unfold mtG;rw [if_neg (by omega),if_neg (by omega)]
 have eN:mtN o=o.am-o.fe:=by unfold mtN;rw [if_neg (by omega)]
 have c2:=s0v s o h hc (by omega) hi hf;have c1:=f0H s.lg o.id h.lg;rw [if_neg hi] at c1;have c3:=t0t (b0j s.au (s.pl o.au)) o.am o.fi;have hidk:=x0p (a:=b0j s.au (s.pl o.au)) (n:=o.am) (b:=o.fi);have hmS:mmS s o= { owS s o with au:=s.au.set (s.pl o.au) (clA s o).1}:=by unfold mmS;rw [if_pos hk]
 have hw:IntKind.i64.wrap (o.am-o.fe)=o.am-o.fe:=by rw [a0m (by omega) (by omega)]
 have hfi:=s0w hf;unfold mmE;rw [if_neg hi,if_neg hf,if_pos hk];by_cases hp:s.pl o.au<s.na
 .have hb:decide (a0l s.aid o.au<s.na)=true:=decide_eq_true hp;have hpl:=q0t hp;have hcn:0<=((List.range s.na).map Int.ofNat).getD (s.pl o.au) 0/\((List.range s.na).map Int.ofNat).getD (s.pl o.au) 0<(s.na:Int):=by rw [hpl];omega
  rw [if_pos hp];unfold b0j at c3;try dsimp only at c3
  unfold clA at hmS⊢;generalize hN:e0U (b0j s.au (s.pl o.au)) o.am o.fi=N at*;unfold b0j at hN;rw [hN] at c3;obtain ⟨a,n1,n2,e⟩:=N;dsimp only at c3 hidk hmS⊢;by_cases he:e=0
  .subst he;rw [if_neg (fun e=>e rfl)];by_cases hx:owX s o.t (mtF o) (mtG o) (mtN o)=0
   .rw [if_pos hx];rw [if_pos hx] at c2;rw [hx] at c2⊢;have hap:=f0k s.na s.au (s.pl o.au) a;have r3:s0t s.na s.aid=s0t s.na ((s.au.set (s.pl o.au) a).map Au.id):=by rw [i0N _ _ _ (hidk rfl)]
    rw [hmS];rw [eF,eG,eN] at c2;unfold owS at c2⊢;dsimp only at c2⊢;generalize o0M s.ds s.B (bkD s o.t) ((c0c s.ds s.B s.pr (bkD s o.t)).mv (mtF o) (mtG o) s.cur (mtN o))=B' at*;generalize i0z s.ds (bkD s o.t)=D' at*;generalize lgP s.lg (enB s o)=L' at*;refine fEx Tryz.func230 ?_;repeat' ((conv=>whnf);first|(rw [hb])|(rw [hw])|(simp only [hpl,f0J])|refine cOx (l:= [0,4,5,6,7,8,9,10]) c1 ?_|refine cPx c3 ?_|refine cOx (l:= [0,1,2,3,4,5,6,7,8,9,10,11,12,13,14,15,16,17,18,19]) c2 ?_|refine a0a ?_|(apply bRx<;>intro h<;>try (exfalso;(try dsimp only at h);omega)))
    all_goals (conv=>whnf)
    all_goals first
     |(exfalso;omega)
     |(exfalso;exact h rfl)
     |exact a0H (l:= [0,1,2,3,4,5,6,7,8,9,10,11,12,13,14,15,16,17,18,19,24,25,26,27,28,29]) rfl rfl ⟨rfl,congrArg (fun z=>some (HB.one false z)) hap,r3,rfl,rfl,rfl,rfl,rfl,rfl,rfl,rfl,rfl,rfl,rfl,rfl,rfl,rfl,rfl,rfl,trivial⟩ a0y
     |trace_state
   .rw [if_neg hx];rw [if_neg hx] at c2;rw [eF,eG,eN] at c2 hx⊢;generalize owX s o.t o.is o.ac (o.am-o.fe)=E at*;refine fEx Tryz.func230 ?_;repeat' ((conv=>whnf);first|(rw [hb])|(rw [hw])|(simp only [hpl,f0J])|refine cOx (l:= [0,4,5,6,7,8,9,10]) c1 ?_|refine cPx c3 ?_|refine cOx (l:= [0,1,2,3,4,5,6,7,8,9,10,11,12,13,14,15,16,17,18,19]) c2 ?_|refine a0a ?_|(apply bRx<;>intro h<;>try (exfalso;(try dsimp only at h);omega)))
    all_goals (conv=>whnf)
    all_goals first
     |(exfalso;omega)
     |(exfalso;exact h rfl)
     |(exfalso;exact hx h)
     |exact rOx [0,1,2,3,4,5,6,7,8,9,10,11,12,13,14,15,16,17,18,19,24,25,26,27,28,29] a0y
     |trace_state
  .rw [if_pos he,if_neg he];refine fEx Tryz.func230 ?_;repeat' ((conv=>whnf);first|(rw [hb])|(simp only [hpl,f0J])|refine cOx (l:= [0,4,5,6,7,8,9,10]) c1 ?_|refine cPx c3 ?_|refine a0a ?_|(apply bRx<;>intro h<;>try (exfalso;(try dsimp only at h);omega)))
   all_goals (conv=>whnf)
   all_goals first
    |exact rOx [0,1,2,3,4,5,6,7,8,9,10,11,12,13,14,15,16,17,18,19,2,6,10,17,18,19] a0y
    |(exfalso;omega)
    |(exfalso;exact he h)
    |trace_state
 .have hb:decide (a0l s.aid o.au<s.na)=false:=decide_eq_false hp;rw [if_neg hp,if_neg (by decide)];refine fEx Tryz.func230 ?_;repeat' ((conv=>whnf);first|(rw [hb])|refine cOx (l:= [0,4,5,6,7,8,9,10]) c1 ?_|refine a0a ?_|(apply bRx<;>intro h<;>try (exfalso;(try dsimp only at h);omega)))
  all_goals (conv=>whnf)
  all_goals first
   |exact rOx [0,1,2,3,4,5,6,7,8,9,10,11,12,13,14,15,16,17,18,19,2,6,10,17,18,19] a0y
   |(exfalso;omega)
   |trace_state
theorem d1q (s:Bks) (o:Bop) (h:BkOk s) (hc:CkOk o) (hk:o.k=4\/o.k=5\/o.k=6):FC Tryz.prog 20 230 [.agg [],.ptr 1 0 0 0,o.s] (h0q s) (a0f (.int .i64 (mmE s o)) (h0r (if mmE s o=0 then mmS s o else s)) 26):=by
 by_cases hi:inL o.id s.lg.ids
 .have e:mmE s o=15:=by unfold mmE;rw [if_pos hi]
  rw [e,if_neg (by decide)];exact x0s s o h hk hi
 by_cases hf:512<=s.lg.ne
 .have e:mmE s o=12:=by unfold mmE;rw [if_neg hi,if_pos hf]
  rw [e,if_neg (by decide)];exact q0I s o h hk hi hf
 rcases hk with k|k|k
 .exact d1p s o h hc k hi hf
 .exact d1o s o h hc k hi hf
 .by_cases ha:o.am<0
  .exact z0Y s o h hc k ha hi hf
  .exact z0Z s o h hc k ha hi hf
theorem a1a (s:Bks) (o:Bop) (h:BkOk s) (hc:CkOk o) (hk:o.k=8):FC Tryz.prog 20 210 [.agg [],.ptr 1 0 0 0,o.s] (h0q s) (a0f (.int .i64 (clE s.hs s.ds s.cd o.am)) (h0r (if clE s.hs s.ds s.cd o.am=0 then clS s o else s)) 26):=by
 have hml:=h.mle;have hn9:s.lg.ne<=100000:=by have:=h.lg.e512;omega
 have c1:=z0B h.bks h.hn h.nc (by omega) s.cut o.am;have ha:0<=o.am/\o.am<=99999:=by
  have:=hc.a;unfold pmB at this;rw [if_neg (by omega),if_neg (by omega),if_pos hk] at this;exact of_decide_eq_true this
 have hw:IntKind.i64.wrap o.am=o.am:=a0m (by omega) (by omega);unfold clO at c1;by_cases he:clE s.hs s.ds s.cd o.am=0
 .rw [if_pos he] at c1⊢;rw [he];unfold clS;have r16:tmM false (s.cd++ [o.am]).length (s.cd++ [o.am])=tmM false (s.nc+1) (s.cd++ [o.am]):=by rw [y0A,h.nc];rfl
  refine fEx Tryz.func210 ?_;repeat' ((conv=>whnf);first|(rw [hw])|refine cOx (l:= [0,11,12,13,14,15,16,17,18,19]) c1 ?_|refine a0a ?_|(apply bRx<;>intro h<;>try (exfalso;(try dsimp only at h);omega)))
  all_goals (conv=>whnf)
  all_goals first
   |(exfalso;omega)
   |exact a0H (l:= [0,1,2,3,4,5,6,7,8,9,10,11,12,13,14,15,16,17,18,19,2,6,10,17,18,19]) rfl rfl ⟨rfl,rfl,rfl,rfl,rfl,rfl,rfl,rfl,rfl,rfl,rfl,rfl,rfl,rfl,r16,rfl,rfl,rfl,rfl,trivial⟩ a0y
   |trace_state
 .rw [if_neg he] at c1⊢;have r16:tmM false s.cd.length s.cd=tmM false s.nc s.cd:=by rw [h.nc]
  generalize clE s.hs s.ds s.cd o.am=E at*;refine fEx Tryz.func210 ?_;repeat' ((conv=>whnf);first|(rw [hw])|refine cOx (l:= [0,11,12,13,14,15,16,17,18,19]) c1 ?_|refine a0a ?_|(apply bRx<;>intro h<;>try (exfalso;(try dsimp only at h);omega)))
  all_goals (conv=>whnf)
  all_goals first
   |exact a0H (l:= [0,1,2,3,4,5,6,7,8,9,10,11,12,13,14,15,16,17,18,19,2,6,10,17,18,19]) rfl rfl ⟨rfl,rfl,rfl,rfl,rfl,rfl,rfl,rfl,rfl,rfl,rfl,rfl,rfl,rfl,r16,rfl,rfl,rfl,rfl,trivial⟩ a0y
   |(exfalso;omega)
   |trace_state
end
end Go.Proofs.YtpkaeknigknbgaaGreatDoor
