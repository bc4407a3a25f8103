/- Several texts in one: Cp4 Cp5 CyclePlaysC. -/
import Derived.Test.YtegbehopnoocnaaGreatDoorP7
set_option linter.unusedVariables false
set_option linter.unusedSimpArgs false
set_option maxRecDepth 100000
namespace Go.Sy
abbrev k1C:=@Option.ne_none_iff_exists'
abbrev l1h:=@List.map_singleton
abbrev l1z:=@List.sum_append
end Go.Sy
namespace Go.Proofs.YtegbehopnoocnaaGreatDoor
open Go.RowKit Go.Sy
section
attribute [local irreducible] a0q a0r a0k a0P
abbrev v0q (L:List Ps):SV->a0j->Nat->Prop:=
 if ckP L≠0 then a0h (.tup [.nsl,.int .i64 (ckP L)]) [] 2 else a0h (.tup [.sl 2 0 0 (seT L).length,.int .i64 0]) [(2,some (.one false (txB (seT L).length (b0l (seT L)))))] 3
structure StI (L:List Ps) (N:Nat) (f o m:Nat) (A:List Ps) (T:List Tx):Prop where
 lo:o<=N
 fu:N<=f+o
 len:A.length=N
 tm:T.length=m
 res:stR f o A T=seT L
 bd:∀k,inT (A.getD k ps0).a
 tl:m<=o
structure GrI (A:List Ps) (T:List Tx) (N o k m f m':Nat) (A':List Ps) (T':List Tx):Prop where
 res:stG o k ((a0g A).c.getD o ⟨#[]⟩) f A' T'=stG o k ((a0g A).c.getD o ⟨#[]⟩) k A T
 fu:cnz A' o k<=f
 len:A'.length=N
 tm:T'.length=m'
 bd:∀j,inT (A'.getD j ps0).a
 col:(a0g A').c=(a0g A).c
 tl:m'+cnz A' o k<=m+k
theorem y0H {A:List Ps} {o d e:Nat} (s4:(A.getD (d+o) ps0).a<0) (b1:inT (A.getD (d+o) ps0).a):min (IntKind.i64.wrap (0-(a0g A).a.getD (d+o) 0)) ((a0g A).a.getD (e+o) 0)=sgA A o d e:=by
 unfold sgA;rw [(b0v A (d+o)).2.1,(b0v A (e+o)).2.1,Int.zero_sub,a0m (by omega) (by omega)]
theorem h1l {A:List Ps} {o d e:Nat} (hd:d+o<A.length) (he:e+o<A.length) (hne:d≠e) (s4:(A.getD (d+o) ps0).a<0) (s5:0<(A.getD (e+o) ps0).a) (h:∀j,inT (A.getD j ps0).a):∀j,inT ((sgN A o d e).getD j ps0).a:=by
 intro j;have b1:=h (d+o);have b2:=h (e+o);have hs:sgA A o d e=min (-(A.getD (d+o) ps0).a) (A.getD (e+o) ps0).a:=rfl;rw [r0X hd he hne];split
 .exact ⟨by dsimp only;omega,by dsimp only;omega⟩
 .split
  .exact ⟨by dsimp only;omega,by dsimp only;omega⟩
  .exact h j
theorem i1B {A:List Ps} {o d e:Nat} (N:Nat) (q1:(a0g (sgN A o d e)).p=(a0g A).p) (q2:(a0g (sgN A o d e)).c=(a0g A).c) (q3:(a0g (sgN A o d e)).a=((a0g A).a.set (d+o) ((a0g A).a.getD (d+o) 0+sgA A o d e)).set (e+o) ((a0g A).a.getD (e+o) 0-sgA A o d e)) (hne:d≠e) (s4:(A.getD (d+o) ps0).a<0) (s5:0<(A.getD (e+o) ps0).a) (b1:inT (A.getD (d+o) ps0).a) (b2:inT (A.getD (e+o) ps0).a):
  (some (HB.one false (.cols N [.sc (.strs (a0g A).p),.sc (.ints .i64 (((a0g A).a.set (d+o) (IntKind.i64.wrap ((a0g A).a.getD (d+o) 0+min (IntKind.i64.wrap (0-(a0g A).a.getD (d+o) 0)) ((a0g A).a.getD (e+o) 0)))).set (e+o) (IntKind.i64.wrap (((a0g A).a.set (d+o) (IntKind.i64.wrap ((a0g A).a.getD (d+o) 0+min (IntKind.i64.wrap (0-(a0g A).a.getD (d+o) 0)) ((a0g A).a.getD (e+o) 0)))).getD (e+o) 0-min (IntKind.i64.wrap (0-(a0g A).a.getD (d+o) 0)) ((a0g A).a.getD (e+o) 0))))),.sc (.strs (a0g A).c)])):Option HB)=some (.one false (psB N (a0g (sgN A o d e)))):=by
 have hs:sgA A o d e=min (-(A.getD (d+o) ps0).a) (A.getD (e+o) ps0).a:=rfl;rw [y0H s4 b1];unfold psB;rw [q1,q2,q3];have v1:=(b0v A (d+o)).2.1;have v2:=(b0v A (e+o)).2.1;rw [a0m (n:=(a0g A).a.getD (d+o) 0+sgA A o d e) (by omega) (by omega)];have g:((a0g A).a.set (d+o) ((a0g A).a.getD (d+o) 0+sgA A o d e)).getD (e+o) 0=(a0g A).a.getD (e+o) 0:=by
  rw [List.getD,j1H,if_neg (by omega)];rfl
 rw [g,a0m (n:=(a0g A).a.getD (e+o) 0-sgA A o d e) (by omega) (by omega)]
theorem i1C {A:List Ps} {T:List Tx} {m o d e:Nat} {c:ByteArray} (s4:(A.getD (d+o) ps0).a<0) (b1:inT (A.getD (d+o) ps0).a):
  (some (HB.one false (.cols (m+1) [.sc (.strs ((b0l T).f++ [(a0g A).p.getD (d+o) ⟨#[]⟩])),.sc (.strs ((b0l T).t++ [(a0g A).p.getD (e+o) ⟨#[]⟩])),.sc (.ints .i64 ((b0l T).a++ [min (IntKind.i64.wrap (0-(a0g A).a.getD (d+o) 0)) ((a0g A).a.getD (e+o) 0)])),.sc (.strs ((b0l T).c++ [c]))])):Option HB)=some (.one false (txB (m+1) (b0l (T++ [sgT A o d e c])))):=by
 rw [y0H s4 b1,(b0v A (d+o)).1,(b0v A (e+o)).1];unfold txB b0l sgT;simp only [h1W,j1D,k1H]
theorem v0r (L:List Ps) (N:Nat) (hn:L.length=N) (hl:N<=1000):FC Tryz.prog 2 51 [.sl 1 0 0 N] [(1,some (.one true (psB N (a0g L))))] (v0q L):=by
 have c1:=y0s L N hn (by omega);unfold v0q;by_cases hck:ckP L≠0
 .rw [if_pos hck];generalize ckP L=ck at*;refine fEx Tryz.func51 ?_;repeat' ((conv=>whnf);first|refine cOx (l:= [0,1]) c1 ?_|refine a0a ?_|(apply bRx<;>intro h<;>try (exfalso;(try dsimp only at h);omega)))
  all_goals (conv=>whnf)
  all_goals first
   |exact rOx [0,1] a0b
   |(exfalso;omega)
   |trace_state
 rw [if_neg hck];have hz:=j1Q.1 hck;rw [hz] at c1;have hsg:sgP L=0:=by
  unfold ckP at hz;split at hz
  .rename_i q;exact absurd hz q
  .rename_i q;exact j1Q.1 q
 have hRw:=c1R hsg;have c2:=y0B L N hn (by omega);have c3:=b1z N L (by omega) hn hRw.dist;have hbs:∀k,inT ((c0M L).getD k ps0).a:=t0O.2 fun x hx=>t0O.1 hRw.bd x ((b0b L).subset hx)
 have hI0:StI L N N 0 0 (c0M L) []:=⟨w0F _,by omega,(b0b L).length_eq.trans hn,rfl,by unfold seT;rw [if_neg hck,hn],hbs,n0q _⟩;refine fEx Tryz.func51 ?_;repeat' ((conv=>whnf);first|refine cOx (l:= [0,1]) c1 ?_|refine cOx (l:= [0,1]) c2 ?_|refine cOx (l:= [0,2]) c3 ?_|refine a0a ?_|(apply bRx<;>intro h<;>try (exfalso;(try dsimp only at h);omega)))
 all_goals (conv=>whnf)
 refine a0f (fun x:Nat×Nat×Nat×List Ps×List Tx=>⟨[(5,.sl 2 0 x.2.1 (N-x.2.1)),(6,.sl 3 0 0 x.2.2.1)],[(2,some (.one false (psB N (a0g x.2.2.2.1)))),(3,some (.one false (txB x.2.2.1 (b0l x.2.2.2.2))))],4⟩) (fun x=>StI L N x.1 x.2.1 x.2.2.1 x.2.2.2.1 x.2.2.2.2) (fun x=>N-x.2.1) (N,0,0,c0M L,[]) [0,1,2,3] [.slot 6 [.sc (.strs []),.sc (.strs []),.sc (.ints .i64 []),.sc (.strs [])]] wHx hI0 ?_;rintro ⟨f,o,m,A,T⟩ hI;dsimp only at hI;dsimp only;obtain ⟨hle,hfu,hAl,hTm,hres,hbd,htl⟩:=hI;by_cases ho:o<N
 .have hgl:=t0T (a0g A).c (0+o);have hCl:(a0g A).c.length=N:=by simp [a0g,hAl]
  have hin:∀j,j<grN (a0g A).c (0+o)->(a0g A).c.getD (j+o) ⟨#[]⟩=(a0g A).c.getD (0+o) ⟨#[]⟩:=fun j h=>by have:=t0U h;rwa [show j+(0+o)=j+o by omega] at this
  have hend:grN (a0g A).c (0+o)+o<N->¬(a0g A).c.getD (grN (a0g A).c (0+o)+o) ⟨#[]⟩=(a0g A).c.getD (0+o) ⟨#[]⟩:=fun h=>by have:=o0g (C:=(a0g A).c) (o:=0+o) (by omega);rwa [show grN (a0g A).c (0+o)+(0+o)=grN (a0g A).c (0+o)+o by omega] at this
  rw [hCl] at hgl;repeat' ((conv=>whnf);first|refine a0a ?_|(apply bRx<;>intro h<;>try (exfalso;(try dsimp only at h);omega)))
  all_goals (conv=>whnf)
  all_goals first
   |(exfalso;omega)
   |skip
  refine a0f (fun k:Nat=>⟨[(5,.sl 2 0 o (N-o)),(6,.sl 3 0 0 m),(7,.str ((a0g A).c.getD (0+o) ⟨#[]⟩)),(8,.int .i64 k)],[(2,some (.one false (psB N (a0g A)))),(3,some (.one false (txB m (b0l T))))],4⟩) (fun k=>k<=grN (a0g A).c (0+o)) (fun k=>grN (a0g A).c (0+o)-k) 0 [0,1,2,3] [] wHx (w0F _) ?_;intro k hk;generalize hg:grN (a0g A).c (0+o)=g at*;by_cases hk2:k<g
  .have hck2:=hin k hk2;repeat' ((conv=>whnf);first|refine a0a ?_|(apply bRx<;>intro h<;>try (exfalso;(try dsimp only at h);omega)))
   all_goals (conv=>whnf)
   all_goals first
    |(exfalso;first|omega|contradiction)
    |exact ⟨k+1,[0,1,2,3],[],hk2,(show g-(k+1)<g-k by omega),⟨rfl,⟨rfl,rfl,rfl,congrArg (fun z=>some (SV.int .i64 z)) (a0e (by omega)),trivial⟩,⟨rfl,rfl,trivial⟩⟩⟩
    |trace_state
  .have e:k=g:=by omega
   subst e;repeat' ((conv=>whnf);first|refine a0a ?_|(apply bRx<;>intro h<;>try (exfalso;(try dsimp only at h);omega)))
   all_goals (conv=>whnf)
   all_goals first
    |(exfalso;first|omega|(exact hend (by omega) (by assumption)))
    |skip
   all_goals refine a0f (fun x:Nat×Nat×List Ps×List Tx=>⟨[(5,.sl 2 0 (k+o) (N-o-k)),(6,.sl 3 0 0 x.2.1),(7,.str ((a0g A).c.getD (0+o) ⟨#[]⟩)),(9,.sl 2 0 (0+o) k)],[(2,some (.one false (psB N (a0g x.2.2.1)))),(3,some (.one false (txB x.2.1 (b0l x.2.2.2))))],4⟩) (fun x=>GrI A T N (0+o) k m x.1 x.2.1 x.2.2.1 x.2.2.2) (fun x=>x.1) (k,m,A,T) [0,1,2,3] [] wHx ⟨rfl,t0Q _ _ _,hAl,hTm,hbd,rfl,Nat.add_le_add_left (t0Q A (0+o) k) m⟩ ?_
   all_goals rintro ⟨f',m',A',T'⟩ hG
   all_goals dsimp only at hG
   all_goals dsimp only
   all_goals obtain ⟨gres,gfu,glen,gtm,gbd,gcol,gtl⟩:=hG
   all_goals have hk1:0<k:=Nat.pos_of_ne_zero fun q=>by subst q;exact hend (by omega) rfl
   all_goals have c4:=q0p A' N (0+o) k glen (by omega) (by omega)
   all_goals by_cases hDE:dK (a0g A').a (0+o) k=none\/eK (a0g A').a (0+o) k=none
   all_goals first
    |(have gend:=y0G (c:=(a0g A).c.getD (0+o) ⟨#[]⟩) (T:=T') hDE f'
      rw [gend] at gres;obtain ⟨f0,hf0,hnx⟩:=f1e hres hfu ho hAl hg gres.symm;have hI2:StI L N f0 (k+o) m' A' T':=⟨by omega,by omega,glen,gtm,hnx,gbd,by omega⟩;have hlt:oI (dK (a0g A').a (0+o) k)<0\/oI (eK (a0g A').a (0+o) k)<0:=by
       rcases hDE with q|q
       .rw [q];exact .inl (by decide)
       .rw [q];exact .inr (by decide)
      clear hnx hI0;generalize oI (dK (a0g A').a (0+o) k)=dI at*;generalize oI (eK (a0g A').a (0+o) k)=eI at*;repeat' ((conv=>whnf);first|refine cOx (l:= [0,2]) c4 ?_|refine a0a ?_|(apply bRx<;>intro h<;>try (exfalso;(try dsimp only at h);omega)))
      all_goals (conv=>whnf)
      all_goals first
       |(exfalso;omega)
       |(rw [show N-o-k=N-(k+o) by omega];exact ⟨(f0,k+o,m',A',T'),[0,1,2,3],[],hI2,(show N-(k+o)<N-o by omega),⟨rfl,⟨rfl,rfl,trivial⟩,⟨rfl,rfl,trivial⟩⟩⟩)
       |trace_state)
    |skip
   all_goals rw [not_or] at hDE
   all_goals obtain ⟨d,hd⟩:=k1C.1 hDE.1
   all_goals obtain ⟨e,he⟩:=k1C.1 hDE.2
   all_goals obtain ⟨s1,s2,s3,s4,s5,s6,s7⟩:=e0t (A:=A') (o:=0+o) (n:=k) (by omega) hd he
   all_goals obtain ⟨q1,q2,q3⟩:=b1G (A:=A') (o:=0+o) (d:=d) (e:=e) (by omega) (by omega) s3
   all_goals have b1:=gbd (d+(0+o))
   all_goals have b2:=gbd (e+(0+o))
   all_goals rw [hd,he] at c4
   all_goals simp only [oI] at c4
   all_goals obtain ⟨f2,rfl⟩:=Nat.exists_eq_succ_of_ne_zero (show f'≠0 by omega)
   all_goals have hst:=t0S (c:=(a0g A).c.getD (0+o) ⟨#[]⟩) (f:=f2) (T:=T') hd he
   all_goals rw [hst] at gres
   all_goals clear hI0 hres hst
   all_goals have hG2:GrI A T N (0+o) k m f2 (m'+1) (sgN A' (0+o) d e) (T'++ [sgT A' (0+o) d e ((a0g A).c.getD (0+o) ⟨#[]⟩)]):=⟨gres,by omega,by rw [y0E];exact glen,by rw [a1N,gtm];rfl,h1l (by omega) (by omega) s3 s4 s5 gbd,q2.trans gcol,by omega⟩
   all_goals have hr2:=i1B N q1 q2 q3 s3 s4 s5 b1 b2
   all_goals have hr3:=i1C (A:=A') (T:=T') (m:=m') (o:=0+o) (d:=d) (e:=e) (c:=(a0g A).c.getD (0+o) ⟨#[]⟩) s4 b1
   all_goals repeat' ((conv=>whnf);first|refine cOx (l:= [0,2]) c4 ?_|refine a0a ?_|(apply bRx<;>intro h<;>try (exfalso;(try dsimp only at h);omega)))
   all_goals (conv=>whnf)
   all_goals (try simp only [e0s] at*)
   all_goals first
    |(exfalso;omega)
    |exact ⟨(f2,m'+1,sgN A' (0+o) d e,T'++ [sgT A' (0+o) d e ((a0g A).c.getD (0+o) ⟨#[]⟩)]),[0,1,2,5],[],hG2,l1q _,⟨rfl,⟨rfl,rfl,rfl,rfl,trivial⟩,⟨hr2,hr3,trivial⟩⟩⟩
    |trace_state
 .have e:o=N:=by omega
  subst e;have hT:T=seT L:=by
   rw [<-hres];cases f with
   |zero=>rfl
   |succ f=>simp only [stR];rw [if_pos (by omega)]
  subst hT;rw [hTm];repeat' ((conv=>whnf);first|refine a0a ?_|(apply bRx<;>intro h<;>try (exfalso;(try dsimp only at h);omega)))
  all_goals (conv=>whnf)
  all_goals first
   |exact rOx [0,1,3] (a0d a0b)
   |(exfalso;omega)
   |trace_state
end
section
attribute [local irreducible] a0q a0r a0k a0P sortI
def psL (L:List Px):List Ps:=L.map (fun x=>⟨x.p,x.a,x.c⟩)
theorem r0Y (L:List Px):(psL L).length=L.length:=by unfold psL;rw [j1G]
theorem y0I (n:Nat) (L:List Px):psB n (a0g (psL L))=pxB n (a0y L):=by
 unfold psB a0g psL a0y;simp only [k1b,Function.comp_def]
abbrev stH (np m nc:Nat) (cut:Int) (ds cd:List Int) (B:List Bk) (pr:List ByteArray) (q:RL):a0j:= [(10,some (.one true (rlB q))),(0,some (GB glT)),(1,cyC true 2 4 5 6 np cut),(4,cyP true np pr),(5,cyB true 7 m ds),(6,tmM true nc cd),(7,fmB true m (f7 8 9 np)),(8,fmB true m (f8 np (sortS pr))),(9,fmB true m (f9 B))]
def shO (b:Bk) (shut:Prop) [Decidable shut] (q:RL) (t p:ByteArray):SV->a0j->Nat->Prop:=
 if shut then (if b.cvE q t p≠0 then a0h (.tup [.nsl,.int .i64 (b.cvE q t p)]) [] 11 else if ckP (psL (b.cvL q t p))≠0 then a0h (.tup [.nsl,.int .i64 (ckP (psL (b.cvL q t p)))]) [] 11 else a0h (.tup [.sl 11 0 0 (seT (psL (b.cvL q t p))).length,.int .i64 0]) [(11,some (.one false (txB (seT (psL (b.cvL q t p))).length (b0l (seT (psL (b.cvL q t p)))))))] 12)
 else a0h (.tup [.nsl,.int .i64 8]) [] 11
theorem i1S {ds:List Int} {B:List Bk} {m np:Nat} {pr:List ByteArray} (hb:BksI ds B m np (sortS pr)) (hp:pr.length=np) (he:b0u pr=0) (d:Int):BkI (c0V ds B pr d) 4503599627370496/\(c0V ds B pr d).n=np/\(c0V ds B pr d).ps=sortS pr/\(c0V ds B pr d).m<=100000:=by
 unfold c0V;by_cases hd:d∈ds
 .rw [if_pos hd];exact hb.I _ (by rw [<-hb.dl];exact b0e.2 hd)
 .rw [if_neg hd];exact ⟨(e1m he).up (by decide),hp,rfl,w0F _⟩
set_option maxHeartbeats 1000000 in
theorem y0J {np m nc:Nat} {ds cd:List Int} {B:List Bk} {pr:List ByteArray} (hb:BksI ds B m np (sortS pr)) (hc:cd.length=nc) (hp:pr.length=np) (he:b0u pr=0) (cut d:Int) (q:RL) (hq:q.l<=1000) (t p:ByteArray):FC Tryz.prog 11 27 [.ptr 1 0 0 0,.int .i64 d,.sl 10 0 0 q.l,.str t,.str p] (stH np m nc cut ds cd B pr q) (shO (c0V ds B pr d) (d∈cd) q t p):=by
 have hg:=m0m hc d;unfold shO;by_cases hd:d∈cd
 case neg=>
  rw [if_neg hd];rw [decide_eq_false hd] at hg;refine fEx Tryz.func27 ?_;repeat' ((conv=>whnf);first|refine a0a ?_|(apply bRx<;>intro h<;>try (exfalso;(try dsimp only at h);omega)))
  all_goals (conv=>whnf)
  all_goals first
   |exact rOx [0,1,2,3,4,5,6,7,8,9,10] a0b
   |(exfalso;rw [hg] at h;cases h;done)
   |(exfalso;omega)
   |trace_state
 rw [if_pos hd];rw [decide_eq_true hd] at hg;obtain ⟨a1,a2,a3,a4⟩:=i1S hb hp he d;have hn16:=a1.n16;have hlen:((c0V ds B pr d).cvL q t p).length<=16:=g1x (g0s _ _ _ _) hn16;have cN:=v0r (psL ((c0V ds B pr d).cvL q t p)) ((c0V ds B pr d).cvL q t p).length (r0Y _) (by omega);rw [y0I] at cN;dsimp only [v0q] at cN;by_cases hd2:d∈ds
 .have hi:a0F ds d<m:=by rw [<-hb.dl];exact b0e.2 hd2
  have c3:=k0J (np:=np) hb.dl cut d hd2;have hat:c0V ds B pr d=B.getD (a0F ds d) bk0:=if_pos hd2;obtain ⟨b1,b2,b3,b4⟩:=hb.I _ hi;have c4:=q0h hi b1 b2 b3 b4 q hq t p;rw [<-hat] at c4;generalize c0V ds B pr d=b at*;unfold i0V at c4;by_cases hz:b.cvE q t p=0
  case neg=>
   rw [if_pos hz] at c4⊢;generalize b.cvE q t p=e at*;refine fEx Tryz.func27 ?_;repeat' ((conv=>whnf);first|refine cOx (l:= [0,1,2,3,4,5,6,7,8,9]) c3 ?_|refine cOx (l:= [0,7,8,9,10]) c4 ?_|refine a0a ?_|(apply bRx<;>intro h<;>try (exfalso;(try dsimp only at h);omega)))
   all_goals (conv=>whnf)
   all_goals first
    |exact rOx [0,1,2,3,4,5,6,7,8,9,10] a0b
    |(exfalso;rw [hg] at h;cases h;done)
    |(exfalso;omega)
    |trace_state
  rw [if_neg (by simpa using hz)] at c4⊢;generalize b.cvL q t p=L at*;by_cases hk:ckP (psL L)=0
  .rw [if_neg (by simpa using hk)] at cN⊢;generalize seT (psL L)=S at*;refine fEx Tryz.func27 ?_;repeat' ((conv=>whnf);first|refine cOx (l:= [0,1,2,3,4,5,6,7,8,9]) c3 ?_|refine cOx (l:= [0,7,8,9,10]) c4 ?_|refine cOx (l:= [0,11]) cN ?_|refine a0a ?_|(apply bRx<;>intro h<;>try (exfalso;(try dsimp only at h);omega)))
   all_goals (conv=>whnf)
   all_goals first
    |exact rOx [0,1,2,3,4,5,6,7,8,9,10,12] (a0d a0b)
    |(exfalso;rw [hg] at h;cases h;done)
    |(exfalso;omega)
    |trace_state
  .rw [if_pos hk] at cN⊢;generalize ckP (psL L)=e at*;refine fEx Tryz.func27 ?_;repeat' ((conv=>whnf);first|refine cOx (l:= [0,1,2,3,4,5,6,7,8,9]) c3 ?_|refine cOx (l:= [0,7,8,9,10]) c4 ?_|refine cOx (l:= [0,11]) cN ?_|refine a0a ?_|(apply bRx<;>intro h<;>try (exfalso;(try dsimp only at h);omega)))
   all_goals (conv=>whnf)
   all_goals first
    |exact rOx [0,1,2,3,4,5,6,7,8,9,10] a0b
    |(exfalso;rw [hg] at h;cases h;done)
    |(exfalso;omega)
    |trace_state
 .have c3:=k0K hb.dl hp he cut d hd2;have hat:c0V ds B pr d=nwB pr:=if_neg hd2;have c4:=i0P a1 a2 a3 a4 q hq t p;rw [<-hat] at c3;generalize c0V ds B pr d=b at*;unfold i0V at c4;by_cases hz:b.cvE q t p=0
  case neg=>
   rw [if_pos hz] at c4⊢;generalize b.cvE q t p=e at*;refine fEx Tryz.func27 ?_;repeat' ((conv=>whnf);first|refine cOx (l:= [0,1,2,3,4,5,6,7,8,9]) c3 ?_|refine cOx (l:= [0,11,12,13,10]) c4 ?_|refine a0a ?_|(apply bRx<;>intro h<;>try (exfalso;(try dsimp only at h);omega)))
   all_goals (conv=>whnf)
   all_goals first
    |exact rOx [0,1,2,3,4,5,6,7,8,9,10] a0b
    |(exfalso;rw [hg] at h;cases h;done)
    |(exfalso;omega)
    |trace_state
  rw [if_neg (by simpa using hz)] at c4⊢;generalize b.cvL q t p=L at*;by_cases hk:ckP (psL L)=0
  .rw [if_neg (by simpa using hk)] at cN⊢;generalize seT (psL L)=S at*;refine fEx Tryz.func27 ?_;repeat' ((conv=>whnf);first|refine cOx (l:= [0,1,2,3,4,5,6,7,8,9]) c3 ?_|refine cOx (l:= [0,11,12,13,10]) c4 ?_|refine cOx (l:= [0,14]) cN ?_|refine a0a ?_|(apply bRx<;>intro h<;>try (exfalso;(try dsimp only at h);omega)))
   all_goals (conv=>whnf)
   all_goals first
    |exact rOx [0,1,2,3,4,5,6,7,8,9,10,15] (a0d a0b)
    |(exfalso;rw [hg] at h;cases h;done)
    |(exfalso;omega)
    |trace_state
  .rw [if_pos hk] at cN⊢;generalize ckP (psL L)=e at*;refine fEx Tryz.func27 ?_;repeat' ((conv=>whnf);first|refine cOx (l:= [0,1,2,3,4,5,6,7,8,9]) c3 ?_|refine cOx (l:= [0,11,12,13,10]) c4 ?_|refine cOx (l:= [0,14]) cN ?_|refine a0a ?_|(apply bRx<;>intro h<;>try (exfalso;(try dsimp only at h);omega)))
   all_goals (conv=>whnf)
   all_goals first
    |exact rOx [0,1,2,3,4,5,6,7,8,9,10] a0b
    |(exfalso;rw [hg] at h;cases h;done)
    |(exfalso;omega)
    |trace_state
end
section
def ltR (rs:List Int) (a b:Int):Prop:=rs.getD b.toNat 0<rs.getD a.toNat 0\/(rs.getD a.toNat 0=rs.getD b.toNat 0/\a<b)
theorem y0K {rs:List Int} {a b c:Int} (h:ltR rs a b) (k:ltR rs b c):ltR rs a c:=by unfold ltR at*;omega
theorem r0Z {rs:List Int} {a:Int} (h:ltR rs a a):False:=by unfold ltR at h;omega
theorem k0W {n m:Nat} {rs:List Int} (hm:m<n):∀(j:Nat) (l:List Int),j<=m->inR n l->l.getD j 0=m->(∀a,a<=m->a≠j->l.getD a 0<m)->(∀a b,a<b->b<=m->a≠j->b≠j->ltR rs (l.getD a 0) (l.getD b 0))->(∀b,j<b->b<=m->ltR rs (l.getD j 0) (l.getD b 0))->
  (∀p,m<p->(s0Y rs j l).getD p 0=l.getD p 0)/\(∀a,a<=m->(s0Y rs j l).getD a 0<=m)/\(∀a b,a<b->b<=m->ltR rs ((s0Y rs j l).getD a 0) ((s0Y rs j l).getD b 0))
 |0,l,hj,hl,hx,hv,hs,hb=>by
  refine ⟨fun _ _=>rfl,fun a ha=> ?_,fun a b hab hbm=> ?_⟩
  .simp only [s0Y];by_cases e:a=0
   .subst e;omega
   .have:=hv a ha e;omega
  .simp only [s0Y];by_cases e:a=0
   .subst e;exact hb b hab hbm
   .exact hs a b hab hbm e (by omega)
 |j+1,l,hj,hl,hx,hv,hs,hb=>by
  have hlen:=hl.1;simp only [s0Y];by_cases q:rs.getD (l.getD j 0).toNat 0<rs.getD (l.getD (j+1) 0).toNat 0
  .rw [if_pos q];have hg:=fun k=>s0Z l j k (by omega)
   obtain ⟨r1,r2,r3⟩:=k0W hm j (sw1 l j) (by omega) (w0X (by omega) hl) (by rw [hg,if_pos rfl];exact hx) (fun a ha hne=>by
    rw [hg,if_neg hne];split
    .exact hv j (by omega) (by omega)
    .exact hv a ha (by omega)) (fun a b hab hbm ha hb2=>by
    rw [hg,hg,if_neg ha,if_neg hb2];by_cases e1:a=j+1
    .rw [if_pos e1,if_neg (by omega)];exact hs j b (by omega) hbm (by omega) (by omega)
    .rw [if_neg e1];by_cases e2:b=j+1
     .rw [if_pos e2];exact hs a j (by omega) (by omega) (by omega) (by omega)
     .rw [if_neg e2];exact hs a b hab hbm e1 e2) (fun b hjb hbm=>by
    rw [hg,hg,if_pos rfl,if_neg (by omega)];by_cases e2:b=j+1
    .rw [if_pos e2];exact .inl q
    .rw [if_neg e2];exact hb b (by omega) hbm)
   refine ⟨fun p hp=> ?_,r2,r3⟩;rw [r1 p hp,hg,if_neg (by omega),if_neg (by omega)]
  .rw [if_neg q];have hj1:ltR rs (l.getD j 0) (l.getD (j+1) 0):=by
    have:=hv j (by omega) (by omega);unfold ltR;rw [hx] at q⊢;omega
   refine ⟨fun _ _=>rfl,fun a ha=> ?_,fun a b hab hbm=> ?_⟩
   .by_cases e:a=j+1
    .subst e;omega
    .have:=hv a ha e;omega
   .by_cases e1:a=j+1
    .subst e1;exact hb b hab hbm
    .by_cases e2:b=j+1
     .subst e2;by_cases e3:a=j
      .subst e3;exact hj1
      .exact y0K (hs a j (by omega) (by omega) e1 (by omega)) hj1
     .exact hs a b hab hbm e1 e2
theorem y0L {n i:Nat} (h:i<n):(spI n).getD i 0=i:=by unfold spI;rw [d0v _ _ _ _ _ _ h h]
theorem k0X {n:Nat} (rs:List Int):∀k,k<n->(∀p,k<p->p<n->(d0C rs (spI n) k).getD p 0=p)/\(∀a,a<=k->(d0C rs (spI n) k).getD a 0<=k)/\(∀a b,a<b->b<=k->ltR rs ((d0C rs (spI n) k).getD a 0) ((d0C rs (spI n) k).getD b 0))
 |0,hk=>by
  refine ⟨fun p _ hp=>y0L hp,fun a ha=> ?_,fun a b h1 h2=>by omega⟩;have e:a=0:=by omega
  subst e;simp only [d0C];rw [y0L hk];exact j1T _
 |k+1,hk=>by
  obtain ⟨h1,h2,h3⟩:=k0X (n:=n) rs k (by omega);have hin:=i0d rs (spI n) (p0A n) k (by omega);obtain ⟨r1,r2,r3⟩:=k0W (rs:=rs) hk (k+1) (d0C rs (spI n) k) (n0q _) hin (h1 (k+1) (by omega) hk) (fun a ha hne=>by have:=h2 a (by omega);omega) (fun a b hab hbm ha hb=>h3 a b hab (by omega)) (fun b hb1 hb2=>by omega);refine ⟨fun p hp hpn=> ?_,r2,r3⟩;simp only [d0C];rw [r1 p hp];exact h1 p (by omega) hpn
theorem f0U {rs:List Int} {n:Nat} (hn:1<=n) {a b:Nat} (hab:a<b) (hb:b<n):ltR rs ((d0C rs (spI n) (n-1)).getD a 0) ((d0C rs (spI n) (n-1)).getD b 0):=(k0X rs (n-1) (by omega)).2.2 a b hab (by omega)
theorem f1f {rs:List Int} {n:Nat} (hn:1<=n) {i:Nat} (hi:i<n):∃j,j<n/\((d0C rs (spI n) (n-1)).getD j 0).toNat=i:=by
 have hin:=i0d rs (spI n) (p0A n) (n-1) (by omega);refine Classical.byContradiction fun hno=> ?_
 have hnd:((d0C rs (spI n) (n-1)).map Int.toNat).Nodup:=by
  refine g1z.2 fun a b ha hb hab e=> ?_
  rw [j1G,hin.1] at ha hb;have h:=f0U (rs:=rs) hn hab hb;have ga:=hin.2 a ha;have gb:=hin.2 b hb;rw [l1p,l1p] at e;have ea:(d0C rs (spI n) (n-1)).getD a 0=(d0C rs (spI n) (n-1))[a]'(by rw [hin.1];exact ha):=by rw [List.getD,k0n (by rw [hin.1];exact ha)];rfl
  have eb:(d0C rs (spI n) (n-1)).getD b 0=(d0C rs (spI n) (n-1))[b]'(by rw [hin.1];exact hb):=by rw [List.getD,k0n (by rw [hin.1];exact hb)];rfl
  rw [<-ea,<-eb] at e;have:(d0C rs (spI n) (n-1)).getD a 0=(d0C rs (spI n) (n-1)).getD b 0:=by omega
  rw [this] at h;exact r0Z h
 have hlt:=d0b (n:=n) (i:=i) hnd (fun x hx=>by
  obtain ⟨y,hy,rfl⟩:=h1T.1 hx;obtain ⟨j,hj,rfl⟩:=d1O hy;rw [hin.1] at hj;have:=hin.2 j hj;rw [List.getD,k0n (by rw [hin.1];exact hj)] at this;simp only [j1A] at this;omega) hi (fun hm=>by
  obtain ⟨y,hy,e⟩:=h1T.1 hm;obtain ⟨j,hj,rfl⟩:=d1O hy;rw [hin.1] at hj;exact hno ⟨j,hj,by rw [List.getD,k0n (by rw [hin.1];exact hj)];exact e⟩)
 rw [j1G,hin.1] at hlt;omega
def bsK (R:List Int):Nat->Nat
 |0=>0
 |k+1=>if R.getD (bsK R k) 0<R.getD k 0 then k else bsK R k
theorem o0h (R:List Int):∀k,(1<=k->bsK R k<k)/\(∀j,j<k->R.getD j 0<=R.getD (bsK R k) 0)/\(∀j,j<bsK R k->R.getD j 0<R.getD (bsK R k) 0)
 |0=>⟨fun h=>by omega,fun j hj=>by omega,fun j hj=>by simp [bsK] at hj⟩
 |k+1=>by
  obtain ⟨h1,h2,h3⟩:=o0h R k;simp only [bsK];by_cases q:R.getD (bsK R k) 0<R.getD k 0
  .rw [if_pos q];refine ⟨fun _=>by omega,fun j hj=> ?_,fun j hj=> ?_⟩
   .by_cases e:j=k
    .subst e;exact j1T _
    .have:=h2 j (by omega);omega
   .have:=h2 j hj;omega
  .rw [if_neg q];refine ⟨fun _=> ?_,fun j hj=> ?_,h3⟩
   .rcases d1J k with e|e
    .subst e;simp [bsK]
    .have:=h1 e;omega
   .by_cases e:j=k
    .subst e;omega
    .exact h2 j (by omega)
def rsT (R O:List Int):Nat->List Int
 |0=>R
 |t+1=>(rsT R O t).set (O.getD t 0).toNat (-1)
theorem y0M (R O:List Int):∀t,(rsT R O t).length=R.length
 |0=>rfl
 |t+1=>by simp only [rsT,j1B];exact y0M R O t
theorem y0N {R O:List Int} {n:Nat} (hR:R.length=n) (hO:inR n O):∀t,t<=n->∀i,(rsT R O t).getD i 0=R.getD i 0/\(∀j,j<t->(O.getD j 0).toNat≠i)\/(rsT R O t).getD i 0= -1/\∃j,j<t/\(O.getD j 0).toNat=i
 |0,_,i=> .inl ⟨rfl,fun j hj=>by omega⟩
 |t+1,ht,i=>by
  have ho:=hO.2 t (by omega);simp only [rsT];rw [b0j _ _ _ _ (by rw [y0M,hR];omega)];by_cases e:i=(O.getD t 0).toNat
  .rw [if_pos e];exact .inr ⟨rfl,t,by omega,e.symm⟩
  .rw [if_neg e];rcases y0N hR hO t (by omega) i with ⟨a,b⟩|⟨a,j,hj,b⟩
   .refine .inl ⟨a,fun j hj=> ?_⟩;by_cases e2:j=t
    .subst e2;exact fun q=>e q.symm
    .exact b j (by omega)
   .exact .inr ⟨a,j,by omega,b⟩
theorem f1g {R:List Int} {n:Nat} (hR:R.length=n) (hn:1<=n) (h0:∀i,0<=R.getD i 0) {t:Nat} (ht:t<n):bsK (rsT R (d0C R (spI n) (n-1)) t) n=((d0C R (spI n) (n-1)).getD t 0).toNat:=by
 have hin:=i0d R (spI n) (p0A n) (n-1) (by omega);obtain ⟨b1,b2,b3⟩:=o0h (rsT R (d0C R (spI n) (n-1)) t) n;have hbn:=b1 hn;obtain ⟨j,hj,ej⟩:=f1f (rs:=R) hn hbn;have hot:=hin.2 t ht;have hoj:=hin.2 j hj;have hmax:=b2 ((d0C R (spI n) (n-1)).getD t 0).toNat (by omega);have hfst:=b3 ((d0C R (spI n) (n-1)).getD t 0).toNat;have inj:∀a b,a<n->b<n->((d0C R (spI n) (n-1)).getD a 0).toNat=((d0C R (spI n) (n-1)).getD b 0).toNat->a=b:=by
  intro a b ha hb e;have ga:=hin.2 a ha;have gb:=hin.2 b hb;have e2:(d0C R (spI n) (n-1)).getD a 0=(d0C R (spI n) (n-1)).getD b 0:=by omega
  rcases j1P a b with q|q|q
  .have:=f0U (rs:=R) hn q hb;rw [e2] at this;exact (r0Z this).elim
  .exact q
  .have:=f0U (rs:=R) hn q ha;rw [e2] at this;exact (r0Z this).elim
 have et:(rsT R (d0C R (spI n) (n-1)) t).getD ((d0C R (spI n) (n-1)).getD t 0).toNat 0=R.getD ((d0C R (spI n) (n-1)).getD t 0).toNat 0:=by
  rcases y0N hR hin t (by omega) ((d0C R (spI n) (n-1)).getD t 0).toNat with ⟨a,_⟩|⟨_,i,hi,q⟩
  .exact a
  .have:=inj i t (by omega) ht q;omega
 rw [et] at hmax hfst;have h0t:=h0 ((d0C R (spI n) (n-1)).getD t 0).toNat;rcases y0N hR hin t (by omega) (bsK (rsT R (d0C R (spI n) (n-1)) t) n) with ⟨a,c⟩|⟨a,_⟩
 .rw [a] at hmax hfst;rw [<-ej] at hmax hfst c⊢;rcases j1P j t with q|q|q
  .exact absurd rfl (c j q)
  .rw [q]
  .have hs:=f0U (rs:=R) hn q hj;unfold ltR at hs;exfalso;rcases hs with hs|⟨hs1,hs2⟩
   .omega
   .have:=hfst (by omega);omega
 .rw [a] at hmax;omega
end
section
def g0E (O:List Px) (p:ByteArray):Nat->Int
 |0=>0
 |k+1=>if (O.getD k px0).p=p then (O.getD k px0).a else g0E O p k
theorem t0V {O:List Px} {t:ByteArray} (hd:g0A O) (hc:∀x∈O,x.c=t) (p:ByteArray):g0E O p O.length=c0b O p t:=by
 have key:∀k,k<=O.length->(∃x∈O.take k,x.p=p/\g0E O p k=x.a)\/((∀x∈O.take k,x.p≠p)/\g0E O p k=0):=by
  intro k;induction k with
  |zero=>intro _;exact .inr ⟨fun x hx=>by simp at hx,rfl⟩
  |succ k ih=>
   intro hk;rw [c0K hk];simp only [g0E];by_cases e:(O.getD k px0).p=p
   .rw [if_pos e];exact .inl ⟨_,k1Z _ (a1A.2 rfl),e,rfl⟩
   .rw [if_neg e];rcases ih (by omega) with ⟨x,h1,h2,h3⟩|⟨h1,h2⟩
    .exact .inl ⟨x,j1q _ h1,h2,h3⟩
    .refine .inr ⟨fun x hx=> ?_,h2⟩;rcases g1h.1 hx with q|q
     .exact h1 x q
     .rw [a1A] at q;subst q;exact e
 have h:=key O.length (n0q _);rw [g1y] at h;rcases h with ⟨x,h1,h2,h3⟩|⟨h1,h2⟩
 .rw [h3];have:=b0W hd h1;rw [h2,hc x h1] at this;exact this.symm
 .rw [h2,f0z fun x hx hh=>h1 x hx hh.1]
def upd (O:List Px) (t p:ByteArray) (v:Int):List Px:=j0o O p t (c0b O p t+v)
def stL (t:ByteArray) (Z:List (ByteArray×Int)) (O:List Px):List Px:=Z.foldl (fun O z=>upd O t z.1 z.2) O
theorem t0W (t:ByteArray) (Z:List (ByteArray×Int)) (z:ByteArray×Int) (O:List Px):stL t (Z++ [z]) O=upd (stL t Z O) t z.1 z.2:=by unfold stL;rw [l1k];rfl
theorem i1D {O:List Px} {t:ByteArray} (hc:∀x∈O,x.c=t) (p:ByteArray) (v:Int):∀x∈j0o O p t v,x.c=t:=by
 rcases r0M O p t v with ⟨e,_⟩|⟨e,_⟩
 .rw [e];intro x hx;obtain ⟨y,hy,rfl⟩:=h1T.1 hx;rw [(d0c p t v y).2];exact hc y hy
 .rw [e];intro x hx;rcases g1h.1 hx with q|q
  .exact hc x q
  .rw [a1A] at q;subst q;rfl
structure OneC (t:ByteArray) (B:Int) (O:List Px):Prop where
 d:g0A O
 c:∀x∈O,x.c=t
 b:∀p,-B<=c0b O p t/\c0b O p t<=B
theorem f1h {t:ByteArray} {B V:Int} {O:List Px} (h:OneC t B O) (p:ByteArray) {v:Int} (h0:0<=V) (hv: -V<=v/\v<=V):OneC t (B+V) (upd O t p v):=by
 refine ⟨e0K h.d _ _ _,i1D h.c _ _,fun p'=> ?_⟩;unfold upd;rw [n0T h.d];have h1:=h.b p;have h2:=h.b p';split<;>omega
theorem i0r {t:ByteArray} {B V:Int} {O:List Px} (h:OneC t B O) (h0:0<=V):∀(Z:List (ByteArray×Int)),(∀z∈Z,-V<=z.2/\z.2<=V)->OneC t (B+V*(Z.length:Int)) (stL t Z O):=by
 intro Z;induction Z generalizing O B with
 |nil=>intro _;simpa [stL] using h
 |cons z Z ih=>
  intro hz;have h1:=f1h h z.1 h0 (hz z (l1f));have h2:=ih h1 (fun y hy=>hz y (k1K _ hy));have e:B+V*(((z::Z).length:Nat):Int)=B+V+V*(Z.length:Int):=by
   rw [d1G,k1Q,Int.mul_add];omega
  rw [e];exact h2
theorem g0F (t:ByteArray):∀(Z:List (ByteArray×Int)) (O:List Px),(stL t Z O).length<=O.length+Z.length
 | [],O=>n0q _
 |z::Z,O=>by
  have h1:=g0F t Z (upd O t z.1 z.2);have h2:=j0p O z.1 t (c0b O z.1 t+z.2);have e:stL t (z::Z) O=stL t Z (upd O t z.1 z.2):=rfl;rw [e,d1G];unfold upd at h1⊢;omega
def v0s (b:Bk) (t:ByteArray) (O:List Px) (f:Nat->Int):Prop:=∀p,c0b O p t=if a0o b.ps p<b.n then f (a0o b.ps p) else 0
def gZ (ps:List ByteArray) (Z:List (ByteArray×Int)) (j:Nat):Int:=(Z.map (fun z=>if a0o ps z.1=j then z.2 else 0)).sum
theorem y0O {b:Bk} {t:ByteArray} (hl:b.ps.length=b.n):∀(Z:List (ByteArray×Int)) {O:List Px} {f:Nat->Int},g0A O->(∀z∈Z,a0o b.ps z.1<b.n)->v0s b t O f->v0s b t (stL t Z O) (fun j=>f j+gZ b.ps Z j):=by
 intro Z;induction Z with
 |nil=>intro O f _ _ h p;rw [show stL t [] O=O from rfl,h p];simp [gZ]
 |cons z Z ih=>
  intro O f hd hz h;have hzn:=hz z (l1f);have h1:v0s b t (upd O t z.1 z.2) (fun j=>f j+(if a0o b.ps z.1=j then z.2 else 0)):=by
   intro p;unfold upd;rw [n0T hd];by_cases e:p=z.1
   .subst e;rw [if_pos ⟨rfl,rfl⟩,if_pos hzn];dsimp only;rw [if_pos rfl,h z.1,if_pos hzn]
   .rw [if_neg (fun q=>e q.1),h p];by_cases q:a0o b.ps p<b.n
    .rw [if_pos q,if_pos q];dsimp only;rw [if_neg,l1y];intro w;apply e;have k1:=d0u (s:=p) b.ps (by rw [hl];exact q);have k2:=d0u (s:=z.1) b.ps (by rw [hl];exact hzn);rw [<-k1,<-k2,w]
    .rw [if_neg q,if_neg q]
  have h2:=ih (e0K hd _ _ _) (fun y hy=>hz y (k1K _ hy)) h1;intro p;have h3:=h2 p;have e:stL t (z::Z) O=stL t Z (upd O t z.1 z.2):=rfl;rw [e];refine h3.trans ?_;split
  .dsimp only;unfold gZ;rw [j1D,l1I];omega
  .rfl
def fS (L:List Px) (c:ByteArray) (s:Int):List Px:=L.filter (fun x=>decide (x.c=c/\0<x.a*s))
theorem o0i {L:List Px} {c:ByteArray} {s:Int} {k:Nat} (hk:k<L.length):fS (L.take (k+1)) c s=if (L.getD k px0).c=c/\0<(L.getD k px0).a*s then fS (L.take k) c s++ [L.getD k px0] else fS (L.take k) c s:=by
 unfold fS;rw [c0K hk,j1v,j1y];split
 .rename_i h;rw [if_pos (of_decide_eq_true h)];rfl
 .rename_i h;rw [if_neg (fun q=>h (decide_eq_true q))];simp
theorem c1V {r:List Int} {ps:List ByteArray} {c:ByteArray} {s:Int}:∀n,fS (liR r ps c n) c s=(plK r s n).map (fun j=>⟨ps.getD j.toNat ⟨#[]⟩,r.getD j.toNat 0,c⟩)
 |0=>rfl
 |n+1=>by
  have ih:=c1V (r:=r) (ps:=ps) (c:=c) (s:=s) n;simp only [liR,plK];by_cases z:r.getD n 0=0
  .rw [if_pos z,if_neg (by rw [z];simp),ih]
  .rw [if_neg z];unfold fS at ih⊢;rw [j1v,ih,j1y];by_cases q:0<r.getD n 0*s
   .rw [if_pos q,if_pos (decide_eq_true ⟨rfl,q⟩),h1W];simp
   .rw [if_neg q,if_neg (by simpa using q)];simp
theorem b1H {r:List Int} {ps:List ByteArray} {c c':ByteArray} {s:Int} (h:c'≠c) (n:Nat):fS (liR r ps c' n) c s= []:=by
 unfold fS;rw [List.filter_eq_nil_iff];intro x hx;have:=(c0k n x hx).1;rw [decide_eq_true_eq];rintro ⟨q,_⟩;exact h (this.symm.trans q)
theorem o0j {r:List Int} {s:Int} {n:Nat} (h:∀j,n<=j->r.getD j 0=0):∀d,plK r s (n+d)=plK r s n/\wtK r s (n+d)=wtK r s n
 |0=>⟨rfl,rfl⟩
 |d+1=>by
  obtain ⟨h1,h2⟩:=o0j (s:=s) h d;have e:r.getD (n+d) 0=0:=h _ (by omega);have e1:plK r s (n+(d+1))=if 0<r.getD (n+d) 0*s then plK r s (n+d)++ [((n+d:Nat):Int)] else plK r s (n+d):=rfl
  have e2:wtK r s (n+(d+1))=if 0<r.getD (n+d) 0*s then wtK r s (n+d)++ [r.getD (n+d) 0*s] else wtK r s (n+d):=rfl
  rw [e1,e2,e,if_neg (by simp),if_neg (by simp)];exact ⟨h1,h2⟩
theorem y0P (r:List Int) (s:Int):∀n,wtK r s n=(plK r s n).map (fun j=>r.getD j.toNat 0*s)
 |0=>rfl
 |n+1=>by
  simp only [wtK,plK];split
  .rw [h1W,y0P r s n];simp
  .exact y0P r s n
theorem k0Y {b:Bk} {B:Int} (h:BkI b B) {c:ByteArray} (hc:c∈b.cs) (s:Int):fS b.list c s=(plK (b.row c) s 16).map (fun j=>⟨b.ps.getD j.toNat ⟨#[]⟩,(b.row c).getD j.toNat 0,c⟩):=by
 have hsl:(sortS b.cs).length=b.m:=by rw [a0S,h.C.cl]
 have hnd:(sortS b.cs).Nodup:=(b0L b.cs).symm.nodup h.C.nd;have hc2:c∈sortS b.cs:=(b0L b.cs).mem_iff.2 hc;obtain ⟨i,hi,e⟩:=d1O hc2;have hat:∀k,k<b.m->((sortS b.cs).getD k ⟨#[]⟩=c↔k=i):=fun k hk=>by
  have e1:(sortS b.cs).getD k ⟨#[]⟩=(sortS b.cs)[k]'(by omega):=by rw [List.getD,k0n (by omega)];rfl
  rw [e1,<-e];exact ⟨fun q=>(k1v hnd).1 q,fun q=>by subst q;rfl⟩
 have hcat:∀A M:List Px,fS (A++M) c s=fS A c s++fS M c s:=fun A M=>j1v _ _
 have key:∀k,k<=b.m->fS (liA b (sortS b.cs) k) c s=if i<k then (plK (b.row c) s b.n).map (fun j=>⟨b.ps.getD j.toNat ⟨#[]⟩,(b.row c).getD j.toNat 0,c⟩) else []:=by
  intro k;induction k with
  |zero=>intro _;rw [if_neg (by omega)];rfl
  |succ k ih=>
   intro hk;simp only [liA];rw [hcat,ih (by omega)];by_cases q:k=i
   .have ec:=(hat k (by omega)).2 q;rw [ec,c1V,if_neg (by omega),if_pos (by omega)];rfl
   .rw [b1H (fun w=>q ((hat k (by omega)).1 w)),l1K];by_cases w:i<k
    .rw [if_pos w,if_pos (by omega)]
    .rw [if_neg w,if_neg (by omega)]
 have hn:=h.n16;have:=key b.m (n0q _);unfold Bk.list;rw [this,if_pos (by omega)];have hp:=(o0j (s:=s) (h.rt c) (16-b.n)).1;rw [show b.n+(16-b.n)=16 by omega] at hp;rw [hp]
theorem h1m {row pl P:List Int} {s:Int} {j:Nat} (hr:row.length=16) (hp:∀i,i<pl.length->(pl.getD i 0).toNat<16) (hz:∀i,i<pl.length->row.getD (pl.getD i 0).toNat 0=0) (hd:∀i k,i<k->k<pl.length->(pl.getD i 0).toNat≠(pl.getD k 0).toNat):∀k,k<=pl.length->(dvK row pl P s k).getD j 0=row.getD j 0+(dvK z16 pl P s k).getD j 0
 |0,_=>by simp only [dvK];rw [b0Y];omega
 |k+1,hk=>by
  have ih:=h1m (P:=P) (s:=s) (j:=j) hr hp hz hd k (by omega);have h16:=hp k (by omega);simp only [dvK];rw [b0j _ _ _ _ (by rw [i0f,hr];exact h16),b0j _ _ _ _ (by rw [i0f];exact h16)];by_cases e:j=(pl.getD k 0).toNat
  .rw [if_pos e,if_pos e,e,hz k (by omega)];omega
  .rw [if_neg e,if_neg e];exact ih
theorem h1n {ps:List ByteArray} {pl P:List Int} {s:Int} {N:Nat} (hN:pl.length=N) (hp:∀i,i<N->(pl.getD i 0).toNat<16) (hd:∀i k,i<k->k<N->(pl.getD i 0).toNat≠(pl.getD k 0).toNat) (Z:Nat->List (ByteArray×Int)) (h0:Z 0= []) (hs:∀k,k<N->Z (k+1)=Z k++ [(ps.getD (pl.getD k 0).toNat ⟨#[]⟩,s*P.getD k 0)]) (hi:∀k,k<N->a0o ps (ps.getD (pl.getD k 0).toNat ⟨#[]⟩)=(pl.getD k 0).toNat) (j:Nat):∀k,k<=N->gZ ps (Z k) j=(dvK z16 pl P s k).getD j 0
 |0,_=>by rw [h0];simp only [dvK];rw [b0Y];rfl
 |k+1,hk=>by
  have ih:=h1n (s:=s) (P:=P) hN hp hd Z h0 hs hi j k (by omega);have h16:=hp k (by omega);have a0s:=r0K (row:=z16) (P:=P) (s:=s) (j:=(pl.getD k 0).toNat) (pl:=pl) k (fun i hi=>hd i k hi (by omega));rw [b0Y] at a0s;rw [hs k (by omega)];simp only [dvK];rw [b0j _ _ _ _ (by rw [i0f];exact h16)];unfold gZ at ih⊢;rw [h1W,l1z,ih,l1h,List.sum_singleton];dsimp only;rw [hi k (by omega)];by_cases e:j=(pl.getD k 0).toNat
  .subst e;rw [if_pos rfl,if_pos rfl,a0s,Int.mul_comm];omega
  .rw [if_neg (fun q=>e q.symm),if_neg e];omega
end
section
attribute [local irreducible] a0q a0r a0k a0P
theorem h1o {ps:List ByteArray}:RlB (nwB ps) []:=by
 refine ⟨List.Pairwise.nil,fun p c=> ?_⟩;unfold q0B;have e:(nwB ps).row c=z16:=rfl;rw [e,b0Y];split<;>rfl
end
section
attribute [local irreducible] a0q a0r a0k a0P
theorem o0k (ws:List Int) (n:Nat) (hn:n<=64) (hw:∀k,k<n->1<=ws.getD k 0):FC Tryz.prog 2 177 [.sl 1 0 0 n] [(1,some (.one true (.cols n [.sc (.ints .i64 ws)])))] (a0h (.int .i64 (if wMx ws n=true then swK ws n else 0)) [] 2):=by
 refine fEx Tryz.func177 ?_;repeat' ((conv=>whnf);first|refine a0a ?_|(apply bRx<;>intro h<;>try (exfalso;(try dsimp only at h);omega)))
 all_goals (conv=>whnf)
 all_goals first
  |(exfalso;omega)
  |skip
 refine a0f (fun k:Nat=>⟨[(0,.sl 1 0 0 n),(3,.int .i64 (swK ws k)),(4,.int .i64 k)],[(1,some (.one true (.cols n [.sc (.ints .i64 ws)])))],2⟩) (fun k=>k<=n/\wMx ws k=true) (fun k=>n-k) 0 [0,1] [] wHx ⟨w0F _,rfl⟩ ?_;rintro k ⟨hk,hm⟩;by_cases hk2:k<n
 .have hb:=k0x hw k (by omega) hm;have h1:=hw k hk2;by_cases q:ws.getD k 0<=1099511627776
  .have hm2:wMx ws (k+1)=true:=by simp only [wMx];rw [hm,decide_eq_true q];rfl
   have e1:IntKind.i64.wrap (swK ws k+ws.getD k 0)=swK ws (k+1):=by rw [a0m (by omega) (by omega)];rfl
   repeat' ((conv=>whnf);first|refine a0a ?_|(apply bRx<;>intro h<;>try (exfalso;(try dsimp only at h);omega)))
   all_goals (conv=>whnf)
   all_goals (try simp only [a0u,p0F,w0G] at*)
   all_goals first
    |exact ⟨k+1,[0,1],[],⟨hk2,hm2⟩,(show n-(k+1)<n-k by omega),⟨rfl,⟨rfl,congrArg (fun z=>some (SV.int .i64 z)) e1,congrArg (fun z=>some (SV.int .i64 z)) (a0e (by omega)),trivial⟩,⟨rfl,trivial⟩⟩⟩
    |(exfalso;first|omega|contradiction)
    |trace_state
  .rw [j0h q n hk2,if_neg (by simp)];repeat' ((conv=>whnf);first|refine a0a ?_|(apply bRx<;>intro h<;>try (exfalso;(try dsimp only at h);omega)))
   all_goals (conv=>whnf)
   all_goals (try simp only [a0u,p0F,w0G] at*)
   all_goals first
    |exact rOx [0,1] a0b
    |(exfalso;first|omega|contradiction)
    |trace_state
 .have e:k=n:=by omega
  subst e;rw [if_pos hm];repeat' ((conv=>whnf);first|refine a0a ?_|(apply bRx<;>intro h<;>try (exfalso;(try dsimp only at h);omega)))
  all_goals (conv=>whnf)
  all_goals first
   |exact rOx [0,1] a0b
   |(exfalso;first|omega|contradiction)
   |trace_state
end
section
attribute [local irreducible] a0q a0r a0k a0P
def qlK (A:Nat) (ws:List Int) (n:Nat):Nat->List Int
 |0=> []
 |k+1=>qlK A ws n k++ [(qN A ws n k:Int)]
def rlK (A:Nat) (ws:List Int) (n:Nat):Nat->List Int
 |0=> []
 |k+1=>rlK A ws n k++ [(rN A ws n k:Int)]
theorem k0Z {L:Nat->List Int} {f:Nat->Int} (h0:L 0= []) (hs:∀k,L (k+1)=L k++ [f k]):∀k,(L k).length=k/\∀i,i<k->(L k).getD i 0=f i
 |0=>by rw [h0];exact ⟨rfl,fun i hi=>by omega⟩
 |k+1=>by
  obtain ⟨h1,h2⟩:=k0Z h0 hs k;rw [hs];refine ⟨by rw [a1N,h1];rfl,fun i hi=> ?_⟩;rw [e0m,h1];by_cases e:i=k
  .rw [if_pos e,e]
  .rw [if_neg e];exact h2 i (by omega)
theorem i1E (A:Nat) (ws:List Int) (n:Nat):qlK A ws n n=spQ A ws n:=by
 obtain ⟨h1,h2⟩:=k0Z (L:=qlK A ws n) (f:=fun i=>(qN A ws n i:Int)) rfl (fun _=>rfl) n;refine k1T (by rw [h1];unfold spQ;rw [b0K]) fun i hi hj=> ?_
 rw [h1] at hi;have e:=h2 i hi;have e2:(spQ A ws n).getD i 0=(qN A ws n i:Int):=by unfold spQ;rw [d0v _ _ _ _ _ _ hi hi]
 rw [List.getD,k0n (by omega)] at e;rw [List.getD,k0n hj] at e2;exact e.trans e2.symm
theorem i1F (A:Nat) (ws:List Int) (n:Nat):rlK A ws n n=spR A ws n:=by
 obtain ⟨h1,h2⟩:=k0Z (L:=rlK A ws n) (f:=fun i=>(rN A ws n i:Int)) rfl (fun _=>rfl) n;refine k1T (by rw [h1];unfold spR;rw [b0K]) fun i hi hj=> ?_
 rw [h1] at hi;have e:=h2 i hi;have e2:(spR A ws n).getD i 0=(rN A ws n i:Int):=by unfold spR;rw [d0v _ _ _ _ _ _ hi hi]
 rw [List.getD,k0n (by omega)] at e;rw [List.getD,k0n hj] at e2;exact e.trans e2.symm
abbrev rsB (n:Nat) (c:ByteArray) (P:List Int):Blk:= .cols n [.sc (.ints .i64 P),.sc (.strs (List.replicate n c))]
def f1i (A:Nat) (c:ByteArray) (ws:List Int) (n:Nat):SV->a0j->Nat->Prop:=if spE A c ws n≠0 then a0h (.tup [.nsl,.int .i64 (spE A c ws n)]) [] 2 else a0h (.tup [.sl 2 0 0 n,.int .i64 0]) [(2,some (.one false (rsB n c (spP A ws n))))] 3
theorem f1j {A:Nat} {ws:List Int} {n:Nat} (hw:∀k,k<n->1<=ws.getD k 0) (hn:1<=n):qsK A ws n n<=A/\A-qsK A ws n n=spL A ws n/\spL A ws n<n:=by
 have hle:=p0z (A:=A) hw (k:=n) (n0q _) hn;have hS1:=i0e hw n 0 (by omega);rw [z0z] at hS1;have e0:swK ws 0=0:=rfl;have hS:0<(swK ws n).toNat:=by omega
 have hN:swN ws n=(swK ws n).toNat:=by have:=c1M hw n (n0q _);omega
 have h1:=c1N A ws n n;have h2:=g1Q A ws n hS n;rw [hN] at h1;have h3:A<qsK A ws n n+n:=by
  refine Nat.lt_of_mul_lt_mul_right (a:=(swK ws n).toNat) ?_;rw [Nat.add_mul,h1];omega
 unfold spL;refine ⟨hle,?_,?_⟩<;>omega
theorem v0t {P:List Int} {k:Nat} (hk:k<P.length):P.take (k+1)=P.take k++ [P.getD k 0]:=by
 rw [j1x hk,List.getD,k0n hk];rfl
theorem y0Q (c:ByteArray) (k:Nat):List.replicate (k+1) c=List.replicate k c++ [c]:=List.replicate_succ'
abbrev sqH (n:Nat) (ws:List Int) (A:Int) (c:ByteArray):a0j:= [(1,some (.one true (.cols n [.sc (.ints .i64 ws)]))),(2,some (.one false (.cells [.int .i64 A,.str c])))]
abbrev sqP (n:Nat) (P R:List Int):a0j:= [(3,some (.one false (.cols n [.sc (.ints .i64 P)]))),(4,some (.one false (.cols n [.sc (.ints .i64 R)])))]
abbrev sqO (k:Nat) (P:List Int) (c:ByteArray) (i:Nat):a0j:= [(3,some (.one false (.cols k [.sc (.ints .i64 P)]))),(4,some (.one false (rsB i c (P.take i))))]
theorem s0a (A:Nat) (c:ByteArray) (ws:List Int) (n:Nat) (hA:A<=9223372036854775807) (hn:n<=16) (hw:∀k,k<n->1<=ws.getD k 0) (hw2:∀k,k<n->ws.getD k 0<=9223372036854775807):FC Tryz.prog 2 138 [.agg [.int .i64 A,.str c],.sl 1 0 0 n] [(1,some (.one true (.cols n [.sc (.ints .i64 ws)])))] (f1i A c ws n):=by
 have c1:=c0v A c;have c2:=o0k ws n (by omega) hw;unfold f1i;by_cases h1:b0O A c=0
 case neg=>
  have e:spE A c ws n=b0O A c:=by unfold spE;rw [if_pos h1]
  rw [e,if_pos h1];refine fEx Tryz.func138 ?_;repeat' ((conv=>whnf);first|refine cPx c1 ?_|refine a0a ?_|(apply bRx<;>intro h<;>try (exfalso;(try dsimp only at h);omega)))
  all_goals (conv=>whnf)
  all_goals first
   |exact rOx [0,1] a0b
   |(exfalso;omega)
   |trace_state
 have hA2:A<=4503599627370496:=by
  have:=e0F A c;rw [h1] at this;omega
 have e0:spE A c ws n=if wMx ws n=true/\0<swK ws n then 0 else 4:=by unfold spE;rw [if_neg (by simpa using h1)]
 rw [h1] at c1;by_cases h2:wMx ws n=true/\0<swK ws n
 case neg=>
  rw [if_neg h2] at e0;rw [e0,if_pos (by decide)];have ez:(if wMx ws n=true then swK ws n else 0)=0:=by
   by_cases h3:wMx ws n=true
   .rw [if_pos h3];have:=k0x hw n (n0q _) h3;have h4:¬0<swK ws n:=fun q=>h2 ⟨h3,q⟩
    omega
   .rw [if_neg h3]
  rw [ez] at c2;refine fEx Tryz.func138 ?_;repeat' ((conv=>whnf);first|refine cPx c1 ?_|refine cOx (l:= [0,1]) c2 ?_|refine a0a ?_|(apply bRx<;>intro h<;>try (exfalso;(try dsimp only at h);omega)))
  all_goals (conv=>whnf)
  all_goals first
   |exact rOx [0,1] a0b
   |(exfalso;omega)
   |trace_state
 rw [if_pos h2] at e0;rw [e0,if_neg (by decide)];obtain ⟨hm,hS⟩:=h2;rw [if_pos hm] at c2;have hn1:1<=n:=by
  rcases d1J n with q|q
  .subst q;simp [swK] at hS
  .exact q
 have hbS:=k0x hw n (n0q _) hm;obtain ⟨l1,l2,l3⟩:=f1j (A:=A) hw hn1;have emx:(max (A:Int) (IntKind.i64.wrap (0-(A:Int))))=(A:Int):=by rw [a0m (by omega) (by omega)];omega
 refine fEx Tryz.func138 ?_;repeat' ((conv=>whnf);first|refine cPx c1 ?_|refine cOx (l:= [0,1]) c2 ?_|refine a0a ?_|(apply bRx<;>intro h<;>try (exfalso;(try dsimp only at h);omega)))
 all_goals (conv=>whnf)
 all_goals first
  |(exfalso;omega)
  |skip
 refine a0f (fun k:Nat=>⟨[(1,.sl 1 0 0 n),(2,.ptr 2 0 0 0),(7,.int .i64 (swK ws n)),(8,.int .i64 ((A-qsK A ws n k:Nat):Int)),(9,.sl 3 0 0 k),(10,.sl 4 0 0 k),(11,.int .i64 k)],sqH n ws A c++sqP k (qlK A ws n k) (rlK A ws n k),5⟩) (fun k=>k<=n) (fun k=>n-k) 0 [0,1,2,3,4] [.slot 9 [.sc (.ints .i64 [])],.slot 10 [.sc (.ints .i64 [])]] (wEx ⟨rfl,rfl,rfl,congrArg (fun z=>some (SV.int .i64 z)) emx,rfl,rfl,rfl,trivial⟩) (w0F _) ?_;intro k hk;by_cases hk2:k<n
 .have d1:=hw k hk2;obtain ⟨W,S,eW,eS,hW,hSS,_,eq,er,hW40⟩:=m0n A ws n hA2 hw hm (by omega) hk2;have c3:=i0G A W S 4503599627370496 hA2 (by omega) (by omega) (by omega) (n0q _);have hqA:=g1t (A:=A) hw hk2;have hqs:=p0z (A:=A) hw (k:=k+1) (by omega) hn1;have hst:qsK A ws n (k+1)=qsK A ws n k+qN A ws n k:=rfl;rw [eq,er,k1p (by omega)] at c3;have e5:IntKind.i64.wrap (((A-qsK A ws n k:Nat):Int)-((qN A ws n k:Nat):Int))=((A-qsK A ws n (k+1):Nat):Int):=by
   rw [hst];rw [a0m (by omega) (by omega)];omega
  rw [<-eW,<-eS] at c3;have emx2:=emx;repeat' ((conv=>whnf);first|(simp only [emx])|refine cPx c3 ?_|refine a0a ?_|(apply bRx<;>intro h<;>try (exfalso;(try dsimp only at h);omega)))
  all_goals (conv=>whnf)
  all_goals (try simp only [a0u,p0F,w0G] at*)
  all_goals first
   |exact ⟨k+1,[0,1,2,6,8],[],hk2,(show n-(k+1)<n-k by omega),⟨rfl,⟨rfl,rfl,rfl,congrArg (fun z=>some (SV.int .i64 z)) e5,rfl,rfl,congrArg (fun z=>some (SV.int .i64 z)) (a0e (by omega)),trivial⟩,⟨rfl,rfl,rfl,rfl,trivial⟩⟩⟩
   |(exfalso;first|omega|contradiction)
   |trace_state
 have ek:k=n:=by omega
 subst ek;rw [i1E,i1F,l2];have hO:=c1s A ws k hn1;have hRl:(spR A ws k).length=k:=by unfold spR;exact b0K _ _ _ _
 have hQl:(spQ A ws k).length=k:=by unfold spQ;exact b0K _ _ _ _
 have hR0:∀i,0<=(spR A ws k).getD i 0:=fun i=>by
  unfold spR;by_cases e:i<k
  .rw [d0v _ _ _ _ _ _ e e];omega
  .rw [List.getD,r0b (by rw [b0K];omega)];exact j1T _
 have hQb:∀i,0<=(spQ A ws k).getD i 0/\(spQ A ws k).getD i 0<=(A:Int):=fun i=>j0j (i1i A) (fun i hi=>⟨i1i _,Int.ofNat_le.2 (g1t hw hi)⟩) k (n0q _) i
 have hbb:=j0i (P:=spQ A ws k) (ord:=spO A ws k) hQb (i1i A);have hbl:=h0p (spQ A ws k) (spO A ws k);have hbest:=fun t ht=>f1g (R:=spR A ws k) hRl hn1 hR0 (t:=t) ht
 have hPL:spP A ws k=c0n (spQ A ws k) (spO A ws k) (spL A ws k):=rfl;have hPb:=x0b (A:=A) hw;have hPlen:=e1E A ws k;have hstB:∀t,c0n (spQ A ws k) (spO A ws k) (t+1)=(c0n (spQ A ws k) (spO A ws k) t).set ((spO A ws k).getD t 0).toNat ((c0n (spQ A ws k) (spO A ws k) t).getD ((spO A ws k).getD t 0).toNat 0+1):=fun _=>rfl
 have hstR:∀t,rsT (spR A ws k) (spO A ws k) (t+1)=(rsT (spR A ws k) (spO A ws k) t).set ((spO A ws k).getD t 0).toNat (-1):=fun _=>rfl
 have eO:d0C (spR A ws k) (spI k) (k-1)=spO A ws k:=rfl;rw [eO] at hbest;repeat' ((conv=>whnf);first|refine a0a ?_|(apply bRx<;>intro h<;>try (exfalso;(try dsimp only at h);omega)))
 all_goals (conv=>whnf)
 all_goals first
  |(exfalso;omega)
  |skip
 refine a0f (fun t:Nat=>⟨[(2,.ptr 2 0 0 0),(8,.int .i64 ((spL A ws k-t:Nat):Int)),(9,.sl 3 0 0 k),(10,.sl 4 0 0 k)],sqH k ws A c++sqP k (c0n (spQ A ws k) (spO A ws k) t) (rsT (spR A ws k) (spO A ws k) t),5⟩) (fun t=>t<=spL A ws k) (fun t=>spL A ws k-t) 0 [0,1,2,3,4] [] wHx (w0F _) ?_;intro t ht;by_cases ht2:t<spL A ws k
 .have htk:t<k:=by omega
  have hot:=hO.2 t htk;have hbt:=hbest t htk;have hb1:=fun j=>o0h (rsT (spR A ws k) (spO A ws k) t) j
  have hbd1:=hbb t;have hb1l:=hbl t;rw [hQl] at hb1l;have hst1:=hstB t;have hst2:=hstR t;have e7:IntKind.i64.wrap (((spL A ws k-t:Nat):Int)-1)=((spL A ws k-(t+1):Nat):Int):=by rw [a0m (by omega) (by omega)];omega
  generalize rsT (spR A ws k) (spO A ws k) t=RR at*;generalize c0n (spQ A ws k) (spO A ws k) t=PP at*;generalize hob:((spO A ws k).getD t 0).toNat=ob at*;repeat' ((conv=>whnf);first|refine a0a ?_|(apply bRx<;>intro h<;>try (exfalso;(try dsimp only at h);omega)))
  all_goals (conv=>whnf)
  all_goals first
   |(exfalso;omega)
   |skip
  refine a0f (fun i:Nat=>⟨[(2,.ptr 2 0 0 0),(8,.int .i64 ((spL A ws k-t:Nat):Int)),(9,.sl 3 0 0 k),(10,.sl 4 0 0 k),(14,.int .i64 (bsK RR i)),(15,.int .i64 i)],sqH k ws A c++sqP k PP RR,5⟩) (fun i=>i<=k) (fun i=>k-i) 0 [0,1,2,3,4] [] wHx (w0F _) ?_;intro i hi;by_cases hi2:i<k
  .have hbi:bsK RR i<k:=by
    rcases d1J i with e|e
    .subst e;simp only [bsK];omega
    .have:=(hb1 i).1 e;omega
   have hs:bsK RR (i+1)=if RR.getD (bsK RR i) 0<RR.getD i 0 then i else bsK RR i:=rfl
   by_cases g:RR.getD (bsK RR i) 0<RR.getD i 0
   .rw [if_pos g] at hs;have es:some (SV.int .i64 (i:Int))=some (SV.int .i64 ((bsK RR (i+1):Nat):Int)):=by rw [hs]
    repeat' ((conv=>whnf);first|refine a0a ?_|(apply bRx<;>intro h<;>try (exfalso;(try dsimp only at h);omega)))
    all_goals (conv=>whnf)
    all_goals (try simp only [a0u,p0F,w0G] at*)
    all_goals first
     |exact ⟨i+1,[0,1,2,3,4],[],hi2,(show k-(i+1)<k-i by omega),⟨rfl,⟨rfl,rfl,rfl,rfl,es,congrArg (fun z=>some (SV.int .i64 z)) (a0e (by omega)),trivial⟩,⟨rfl,rfl,rfl,rfl,trivial⟩⟩⟩
     |(exfalso;first|omega|contradiction)
     |trace_state
   .rw [if_neg g] at hs;have es:some (SV.int .i64 ((bsK RR i:Nat):Int))=some (SV.int .i64 ((bsK RR (i+1):Nat):Int)):=by rw [hs]
    repeat' ((conv=>whnf);first|refine a0a ?_|(apply bRx<;>intro h<;>try (exfalso;(try dsimp only at h);omega)))
    all_goals (conv=>whnf)
    all_goals (try simp only [a0u,p0F,w0G] at*)
    all_goals first
     |exact ⟨i+1,[0,1,2,3,4],[],hi2,(show k-(i+1)<k-i by omega),⟨rfl,⟨rfl,rfl,rfl,rfl,es,congrArg (fun z=>some (SV.int .i64 z)) (a0e (by omega)),trivial⟩,⟨rfl,rfl,rfl,rfl,trivial⟩⟩⟩
     |(exfalso;first|omega|contradiction)
     |trace_state
  .have ei:i=k:=by omega
   subst ei;rw [hbt];have hobk:ob<i:=by omega
   have hx:=hbd1 ob;have ew:IntKind.i64.wrap (PP.getD ob 0+1)=PP.getD ob 0+1:=a0m (by omega) (by omega);have r1:(some (HB.one false (.cols i [.sc (.ints .i64 (PP.set ob (IntKind.i64.wrap (PP.getD ob 0+1))))])):Option HB)=some (.one false (.cols i [.sc (.ints .i64 (c0n (spQ A ws i) (spO A ws i) (t+1)))])):=by rw [ew,<-hst1]
   have r2:(some (HB.one false (.cols i [.sc (.ints .i64 (RR.set ob (-1)))])):Option HB)=some (.one false (.cols i [.sc (.ints .i64 (rsT (spR A ws i) (spO A ws i) (t+1)))])):=by rw [<-hst2]
   repeat' ((conv=>whnf);first|refine a0a ?_|(apply bRx<;>intro h<;>try (exfalso;(try dsimp only at h);omega)))
   all_goals (conv=>whnf)
   all_goals (try simp only [a0u,p0F,w0G] at*)
   all_goals first
    |exact ⟨t+1,[0,1,2,3,4],[],ht2,(show spL A ws i-(t+1)<spL A ws i-t by omega),⟨rfl,⟨rfl,rfl,congrArg (fun z=>some (SV.int .i64 z)) e7,rfl,rfl,trivial⟩,⟨rfl,rfl,r1,r2,trivial⟩⟩⟩
    |exact ⟨t+1,[0,1,2,3,4],[],ht2,(show spL A ws i-(t+1)<spL A ws i-t by omega),⟨rfl,⟨rfl,congrArg (fun z=>some (SV.int .i64 z)) e7,rfl,rfl,trivial⟩,⟨rfl,rfl,r1,r2,trivial⟩⟩⟩
    |(exfalso;first|omega|contradiction)
    |trace_state
 have et:t=spL A ws k:=by omega
 subst et;rw [<-hPL];have hPb2:=fun i=>hPb i
 generalize spP A ws k=P at*;repeat' ((conv=>whnf);first|refine a0a ?_|(apply bRx<;>intro h<;>try (exfalso;(try dsimp only at h);omega)))
 all_goals (conv=>whnf)
 all_goals first
  |(exfalso;omega)
  |skip
 refine a0f (fun i:Nat=>⟨[(2,.ptr 2 0 0 0),(9,.sl 3 0 0 k),(17,.int .i64 i),(16,.sl 4 0 0 i)],sqH k ws A c++sqO k P c i,5⟩) (fun i=>i<=k) (fun i=>k-i) 0 [0,1,2,3,5] [.slot 16 [.sc (.ints .i64 []),.sc (.strs [])]] wHx (w0F _) ?_;intro i hi;by_cases hi2:i<k
 .have htk:=v0t (P:=P) (k:=i) (by omega);have hrr:=y0Q c i;have r1:(some (HB.one false (.cols (i+1) [.sc (.ints .i64 (P.take i++ [P.getD i 0])),.sc (.strs (List.replicate i c++ [c]))])):Option HB)=some (.one false (rsB (i+1) c (P.take (i+1)))):=by
   show _=some (HB.one false (.cols (i+1) [.sc (.ints .i64 (P.take (i+1))),.sc (.strs (List.replicate (i+1) c))]));rw [htk,hrr]
  repeat' ((conv=>whnf);first|refine a0a ?_|(apply bRx<;>intro h<;>try (exfalso;(try dsimp only at h);omega)))
  all_goals (conv=>whnf)
  all_goals (try simp only [a0u,p0F,w0G] at*)
  all_goals first
   |exact ⟨i+1,[0,1,2,3,6],[],hi2,(show k-(i+1)<k-i by omega),⟨rfl,⟨rfl,rfl,congrArg (fun z=>some (SV.int .i64 z)) (a0e (by omega)),rfl,trivial⟩,⟨rfl,rfl,rfl,r1,trivial⟩⟩⟩
   |(exfalso;first|omega|contradiction)
   |trace_state
 have ei:i=k:=by omega
 subst ei;have eT:P.take i=P:=by rw [<-hPlen,g1y]
 have rE:(some (HB.one false (rsB i c (P.take i))):Option HB)=some (.one false (rsB i c P)):=by rw [eT]
 repeat' ((conv=>whnf);first|refine a0a ?_|(apply bRx<;>intro h<;>try (exfalso;(try dsimp only at h);omega)))
 all_goals (conv=>whnf)
 all_goals first
  |exact c0S (l:= [0,1,4]) rfl rfl ⟨rE,trivial⟩ (a0d a0b)
  |(exfalso;first|omega|contradiction)
  |trace_state
end
section
attribute [local irreducible] a0q a0r a0k a0P
def toK (L:List Px) (c:ByteArray):Nat->Int
 |0=>0
 |k+1=>if (L.getD k px0).c=c/\0<(L.getD k px0).a then toK L c k+(L.getD k px0).a else toK L c k
theorem c1W {L:List Px} {c:ByteArray} (h:∀j,(L.getD j px0).a<=4503599627370496):∀k,0<=toK L c k/\toK L c k<=4503599627370496*(k:Int)
 |0=>by simp [toK]
 |k+1=>by
  have ih:=c1W (c:=c) h k;have:=h k;simp only [toK];split<;>omega
theorem s0b (L:List Px) (n:Nat) (hn:L.length=n) (hl:n<=1500) (hL:∀j,(L.getD j px0).a<=4503599627370496) (c:ByteArray):FC Tryz.prog 2 88 [.sl 1 0 0 n,.str c] [(1,some (.one true (pxB n (a0y L))))] (a0h (.int .i64 (toK L c n)) [] 2):=by
 refine fEx Tryz.func88 ?_;repeat' ((conv=>whnf);first|refine a0a ?_|(apply bRx<;>intro h<;>try (exfalso;(try dsimp only at h);omega)))
 all_goals (conv=>whnf)
 refine a0f (fun k:Nat=>⟨[(0,.sl 1 0 0 n),(1,.str c),(5,.int .i64 (toK L c k)),(6,.int .i64 k)],[(1,some (.one true (pxB n (a0y L))))],2⟩) (fun k=>k<=n) (fun k=>n-k) 0 [0,1] [] wHx (w0F _) ?_;intro k hk;by_cases hk2:k<n
 .obtain ⟨b1,b2,b3⟩:=atP L k;have hb:=c1W (c:=c) hL k;have hx:=hL k;have hst:toK L c (k+1)=if (L.getD k px0).c=c/\0<(L.getD k px0).a then toK L c k+(L.getD k px0).a else toK L c k:=rfl
  by_cases g:(L.getD k px0).c=c/\0<(L.getD k px0).a
  .rw [if_pos g] at hst;have e1:IntKind.i64.wrap (toK L c k+(a0y L).a.getD k 0)=toK L c (k+1):=by rw [b2,hst];exact a0m (by omega) (by omega)
   rw [<-b2,<-b3] at g;have g1:=g.1;repeat' ((conv=>whnf);first|refine a0a ?_|(apply bRx<;>intro h<;>try (exfalso;(try dsimp only at h);omega)))
   all_goals (conv=>whnf)
   all_goals (try simp only [a0u,p0F,w0G] at*)
   all_goals first
    |exact ⟨k+1,[0,1],[],hk2,(show n-(k+1)<n-k by omega),⟨rfl,⟨rfl,rfl,congrArg (fun z=>some (SV.int .i64 z)) e1,congrArg (fun z=>some (SV.int .i64 z)) (a0e (by omega)),trivial⟩,⟨rfl,trivial⟩⟩⟩
    |(exfalso;first|omega|contradiction|exact absurd g1.symm (by assumption))
    |trace_state
  .rw [if_neg g] at hst;rw [<-b2,<-b3] at g;have es:some (SV.int .i64 (toK L c k))=some (SV.int .i64 (toK L c (k+1))):=by rw [hst]
   repeat' ((conv=>whnf);first|refine a0a ?_|(apply bRx<;>intro h<;>try (exfalso;(try dsimp only at h);omega)))
   all_goals (conv=>whnf)
   all_goals (try simp only [a0u,p0F,w0G] at*)
   all_goals first
    |exact ⟨k+1,[0,1],[],hk2,(show n-(k+1)<n-k by omega),⟨rfl,⟨rfl,rfl,es,congrArg (fun z=>some (SV.int .i64 z)) (a0e (by omega)),trivial⟩,⟨rfl,trivial⟩⟩⟩
    |(exfalso;first|omega|contradiction|exact g ⟨by assumption,by assumption⟩)
    |trace_state
 .have e:k=n:=by omega
  subst e;repeat' ((conv=>whnf);first|refine a0a ?_|(apply bRx<;>intro h<;>try (exfalso;(try dsimp only at h);omega)))
  all_goals (conv=>whnf)
  all_goals first
   |exact rOx [0,1] a0b
   |(exfalso;omega)
   |trace_state
def zdK (who:List ByteArray) (P:List Int) (s:Int):Nat->List (ByteArray×Int)
 |0=> []
 |k+1=>zdK who P s k++ [(who.getD k ⟨#[]⟩,s*P.getD k 0)]
theorem o0l (who:List ByteArray) (P:List Int) (s:Int):∀k,(zdK who P s k).length=k
 |0=>rfl
 |k+1=>by simp only [zdK,a1N,o0l who P s k];rfl
theorem o0m {who:List ByteArray} {P:List Int} {s:Int}:∀{k:Nat} {z:ByteArray×Int},z∈zdK who P s k->∃i,i<k/\z=(who.getD i ⟨#[]⟩,s*P.getD i 0)
 |0,z,h=>by simp [zdK] at h
 |k+1,z,h=>by
  simp only [zdK] at h;rcases g1h.1 h with q|q
  .obtain ⟨i,hi,e⟩:=o0m q;exact ⟨i,by omega,e⟩
  .exact ⟨k,by omega,a1A.1 q⟩
abbrev fW (L:List Px) (c:ByteArray) (s:Int):List Int:=(fS L c s).map (fun x=>x.a*s)
abbrev fN (L:List Px) (c:ByteArray) (s:Int):List ByteArray:=(fS L c s).map Px.p
abbrev fL (L:List Px) (c:ByteArray) (s:Int):Nat:=(fS L c s).length
abbrev dvP (A:Nat) (L:List Px) (c:ByteArray) (s:Int):List Int:=spP A (fW L c s) (fL L c s)
def dvZ (A:Nat) (L:List Px) (c:ByteArray) (s:Int):List (ByteArray×Int):=zdK (fN L c s) (dvP A L c s) s (fL L c s)
def diE (A:Nat) (L:List Px) (c t:ByteArray) (s:Int):Int:=spE A t (fW L c s) (fL L c s)
def b1I (A:Nat) (O L:List Px) (c t:ByteArray) (s:Int):SV->a0j->Nat->Prop:=
 if diE A L c t s≠0 then a0h (.tup [.nsl,.int .i64 (diE A L c t s)]) [] 3
 else a0h (.tup [.sl 3 0 0 (stL t (dvZ A L c s) O).length,.int .i64 0]) [(3,some (.one false (pxB (stL t (dvZ A L c s) O).length (a0y (stL t (dvZ A L c s) O)))))] 4
abbrev ddH (m n:Nat) (O L:List Px):a0j:= [(1,some (.one true (pxB m (a0y O)))),(2,some (.one true (pxB n (a0y L))))]
abbrev ddW (w:Nat) (a:List Int) (p:List ByteArray):a0j:= [(3,some (.one false (.cols w [.sc (.ints .i64 a)]))),(4,some (.one false (.cols w [.sc (.strs p)])))]
abbrev h1p (w:Nat) (WH:List ByteArray) (t:ByteArray) (PP:List Int):a0j:= [(3,some (.one false (.cols w [.sc (.strs WH)]))),(4,some (.one false (rsB w t PP)))]
abbrev ddR (w:Nat) (WH:List ByteArray) (t:ByteArray) (PP:List Int) (X:List Px):a0j:= [(3,some (.one false (.cols w [.sc (.strs WH)]))),(4,some (.one false (rsB w t PP))),(5,some (.one false (pxB X.length (a0y X))))]
theorem b1J {L:List Px} {f:Px->Int} {k:Nat} (hk:k<L.length):(L.map f).getD k 0=f (L.getD k px0):=by
 simp [List.getD,hk]
theorem h1q {L:List Px} {c:ByteArray} {s:Int} {k:Nat} (hk:k<fL L c s):((fS L c s).getD k px0)∈L/\((fS L c s).getD k px0).c=c/\0<((fS L c s).getD k px0).a*s:=by
 have hm:(fS L c s).getD k px0∈fS L c s:=by rw [List.getD,k0n hk];exact g1v _
 have h2:=j1j.1 hm;rw [decide_eq_true_eq] at h2;exact ⟨h2.1,h2.2.1,h2.2.2⟩
theorem d0Q (A:Nat) (hA:A<=9223372036854775807) (O L:List Px) (m n:Nat) (hm:O.length=m) (hn:L.length=n) (hml:m<=2000) (hnl:n<=2000) (hL:∀x∈L,-4503599627370496<=x.a/\x.a<=4503599627370496) (c t:ByteArray) (s:Int) (hs:s=1\/s= -1) (h16:fL L c s<=16) (B:Int) (hO:OneC t B O) (hB:B<=2305843009213693952):
  FC Tryz.prog 3 91 [.sl 1 0 0 m,.sl 2 0 0 n,.str c,.str t,.int .i64 s,.int .i64 A] (ddH m n O L) (b1I A O L c t s):=by
 have hLd:∀j,-4503599627370496<=(L.getD j px0).a/\(L.getD j px0).a<=4503599627370496:=fun j=>by
  by_cases e:j<L.length
  .rw [List.getD,k0n e];exact hL _ (g1v e)
  .rw [List.getD,r0b (by omega)];decide
 have hLs:∀j,-4503599627370496<=(L.getD j px0).a*s/\(L.getD j px0).a*s<=4503599627370496:=fun j=>by
  have:=hLd j;rcases hs with e|e<;>subst e<;>omega
 refine fEx Tryz.func91 ?_;repeat' ((conv=>whnf);first|refine a0a ?_|(apply bRx<;>intro h<;>try (exfalso;(try dsimp only at h);omega)))
 all_goals (conv=>whnf)
 refine a0f (fun x:Nat×Nat=>⟨[(0,.sl 1 0 0 m),(1,.sl 2 0 0 n),(2,.str c),(3,.str t),(4,.int .i64 s),(5,.int .i64 A),(14,.sl 3 0 0 x.2),(15,.sl 4 0 0 x.2),(16,.int .i64 x.1)],ddH m n O L++ddW x.2 (fW (L.take x.1) c s) (fN (L.take x.1) c s),5⟩) (fun x=>x.1<=n/\fL (L.take x.1) c s=x.2) (fun x=>n-x.1) (0,0) [0,1,2,3,4] [.slot 14 [.sc (.ints .i64 [])],.slot 15 [.sc (.strs [])]] wHx ⟨w0F _,rfl⟩ ?_;rintro ⟨k,w⟩ ⟨hk,hw⟩;dsimp only at hk hw;have hwk:w<=2000:=by
  have:=j1L (fun x:Px=>decide (x.c=c/\0<x.a*s)) (L.take k);rw [d1P] at this;have e:fL (L.take k) c s=(List.filter (fun x:Px=>decide (x.c=c/\0<x.a*s)) (L.take k)).length:=rfl;omega
 by_cases hk2:k<n
 .obtain ⟨b1,b2,b3⟩:=atP L k;have hx:=hLs k;have hst:=o0i (L:=L) (c:=c) (s:=s) (k:=k) (by omega);have e1:IntKind.i64.wrap ((a0y L).a.getD k 0*s)=(a0y L).a.getD k 0*s:=by rw [b2];exact a0m (by omega) (by omega)
  by_cases g:(L.getD k px0).c=c/\0<(L.getD k px0).a*s
  .rw [if_pos g] at hst;have hl:fL (L.take (k+1)) c s=w+1:=by show (fS _ c s).length=_;rw [hst,a1N];show fL (L.take k) c s+1=w+1;rw [hw]
   have r1:(some (HB.one false (.cols (w+1) [.sc (.ints .i64 (fW (L.take k) c s++ [(a0y L).a.getD k 0*s]))])):Option HB)=some (.one false (.cols (w+1) [.sc (.ints .i64 (fW (L.take (k+1)) c s))])):=by
    show _=some (HB.one false (.cols (w+1) [.sc (.ints .i64 ((fS (L.take (k+1)) c s).map (fun x=>x.a*s)))]));rw [hst,h1W,b2];rfl
   have r2:(some (HB.one false (.cols (w+1) [.sc (.strs (fN (L.take k) c s++ [(a0y L).p.getD k ⟨#[]⟩]))])):Option HB)=some (.one false (.cols (w+1) [.sc (.strs (fN (L.take (k+1)) c s))])):=by
    show _=some (HB.one false (.cols (w+1) [.sc (.strs ((fS (L.take (k+1)) c s).map Px.p))]));rw [hst,h1W,b1];rfl
   rw [<-b2,<-b3] at g;have g1:=g.1;repeat' ((conv=>whnf);first|(simp only [e1])|refine a0a ?_|(apply bRx<;>intro h<;>try (exfalso;(try dsimp only at h);omega)))
   all_goals (conv=>whnf)
   all_goals (try simp only [a0u,p0F,w0G,e1] at*)
   all_goals first
    |exact ⟨(k+1,w+1),[0,1,2,6,8],[],⟨hk2,hl⟩,(show n-(k+1)<n-k by omega),⟨rfl,⟨rfl,rfl,rfl,rfl,rfl,rfl,rfl,rfl,congrArg (fun z=>some (SV.int .i64 z)) (a0e (by omega)),trivial⟩,⟨rfl,rfl,r1,r2,trivial⟩⟩⟩
    |(exfalso;first|omega|contradiction|exact absurd g1.symm (by assumption))
    |trace_state
  .rw [if_neg g] at hst;have hl:fL (L.take (k+1)) c s=w:=by show (fS _ c s).length=_;rw [hst];exact hw
   have r1:(some (HB.one false (.cols w [.sc (.ints .i64 (fW (L.take k) c s))])):Option HB)=some (.one false (.cols w [.sc (.ints .i64 (fW (L.take (k+1)) c s))])):=by
    show _=some (HB.one false (.cols w [.sc (.ints .i64 ((fS (L.take (k+1)) c s).map (fun x=>x.a*s)))]));rw [hst]
   have r2:(some (HB.one false (.cols w [.sc (.strs (fN (L.take k) c s))])):Option HB)=some (.one false (.cols w [.sc (.strs (fN (L.take (k+1)) c s))])):=by
    show _=some (HB.one false (.cols w [.sc (.strs ((fS (L.take (k+1)) c s).map Px.p))]));rw [hst]
   rw [<-b2,<-b3] at g;repeat' ((conv=>whnf);first|(simp only [e1])|refine a0a ?_|(apply bRx<;>intro h<;>try (exfalso;(try dsimp only at h);omega)))
   all_goals (conv=>whnf)
   all_goals (try simp only [a0u,p0F,w0G,e1] at*)
   all_goals first
    |exact ⟨(k+1,w),[0,1,2,3,4],[],⟨hk2,hl⟩,(show n-(k+1)<n-k by omega),⟨rfl,⟨rfl,rfl,rfl,rfl,rfl,rfl,rfl,rfl,congrArg (fun z=>some (SV.int .i64 z)) (a0e (by omega)),trivial⟩,⟨rfl,rfl,r1,r2,trivial⟩⟩⟩
    |(exfalso;first|omega|contradiction|exact g ⟨by assumption,by assumption⟩)
    |trace_state
 have ek:n=k:=by omega
 subst ek;have eT:L.take n=L:=by rw [<-hn,g1y]
 rw [eT] at hw⊢;have hwe:w=fL L c s:=hw.symm;have hws:∀i,i<w->1<=(fW L c s).getD i 0/\(fW L c s).getD i 0<=9223372036854775807:=fun i hi=>by
  have h1:=h1q (L:=L) (c:=c) (s:=s) (k:=i) (by omega);have e:(fW L c s).getD i 0=((fS L c s).getD i px0).a*s:=b1J (by rw [hwe] at hi;exact hi);have h2:=hL _ h1.1;rw [e];have h3:=h1.2.2;rcases hs with q|q<;>subst q<;>omega
 have cS:=s0a A t (fW L c s) w hA (by omega) (fun i hi=>(hws i hi).1) (fun i hi=>(hws i hi).2);unfold f1i at cS;have eE:spE A t (fW L c s) w=diE A L c t s:=by rw [hwe];rfl
 have eP:spP A (fW L c s) w=dvP A L c s:=by rw [hwe]
 rw [eE] at cS;unfold b1I;by_cases hE:diE A L c t s=0
 case neg=>
  rw [if_pos hE] at cS⊢;repeat' ((conv=>whnf);first|refine cOx (l:= [0,3]) cS ?_|refine a0a ?_|(apply bRx<;>intro h<;>try (exfalso;(try dsimp only at h);omega)))
  all_goals (conv=>whnf)
  all_goals first
   |exact rOx [0,1,2] a0b
   |(exfalso;omega)
   |trace_state
 rw [if_neg (by simpa using hE)] at cS⊢;rw [eP] at cS;have hA2:A<=4503599627370496:=x0a (n:=fL L c s) (ws:=fW L c s) (c:=t) hE;have hP:∀i,0<=(dvP A L c s).getD i 0/\(dvP A L c s).getD i 0<=4503599627370512:=fun i=>by
  have:=x0b (A:=A) (ws:=fW L c s) (n:=fL L c s) (fun k hk=>(hws k (by omega)).1) i;show 0<=(spP A (fW L c s) (fL L c s)).getD i 0/\(spP A (fW L c s) (fL L c s)).getD i 0<=4503599627370512;omega
 have hw1:1<=w:=by
  have h2:=hE;unfold diE spE at h2;split at h2
  .contradiction
  .split at h2
   .rename_i q;rcases d1J w with z|z
    .exfalso;have:=q.2;rw [<-hwe,z] at this;simp [swK] at this
    .exact z
   .cases h2
 have hZd:dvZ A L c s=zdK (fN L c s) (dvP A L c s) s w:=by rw [hwe];rfl
 rw [hZd];have hone:∀i,i<=w->OneC t (B+9007199254740992*(i:Int)) (stL t (zdK (fN L c s) (dvP A L c s) s i) O):=fun i hi=>by
  have h:=i0r hO (V:=9007199254740992) (by decide) (zdK (fN L c s) (dvP A L c s) s i) (fun z hz=>by
   obtain ⟨j,_,rfl⟩:=o0m hz;have:=hP j;dsimp only;rcases hs with q|q<;>subst q<;>omega)
  rw [o0l] at h;exact h
 have hlen:∀i,(stL t (zdK (fN L c s) (dvP A L c s) s i) O).length<=m+i:=fun i=>by
  have:=g0F t (zdK (fN L c s) (dvP A L c s) s i) O;rw [o0l,hm] at this;exact this
 have hstep:∀i,stL t (zdK (fN L c s) (dvP A L c s) s (i+1)) O=j0o (stL t (zdK (fN L c s) (dvP A L c s) s i) O) ((fN L c s).getD i ⟨#[]⟩) t (c0b (stL t (zdK (fN L c s) (dvP A L c s) s i) O) ((fN L c s).getD i ⟨#[]⟩) t+s*(dvP A L c s).getD i 0):=fun i=>by
  simp only [zdK];rw [t0W];rfl
 have hsb:∀i,-4503599627370512<=s*(dvP A L c s).getD i 0/\s*(dvP A L c s).getD i 0<=4503599627370512:=fun i=>by
  have:=hP i;rcases hs with q|q<;>subst q<;>omega
 have h0:stL t (zdK (fN L c s) (dvP A L c s) s 0) O=O:=rfl;generalize hQ:(fun i=>stL t (zdK (fN L c s) (dvP A L c s) s i) O)=Q at*;have hQi:∀i,stL t (zdK (fN L c s) (dvP A L c s) s i) O=Q i:=fun i=>by rw [<-hQ]
 simp only [hQi] at*;generalize fN L c s=WH at*;generalize fW L c s=WS at*;generalize dvP A L c s=PP at*;have hQ0:Q 0=O:=h0;subst hQ0;subst hm;have round:∀(i:Nat),i<w->∀p,g0E (Q i) p (Q i).length=c0b (Q i) p t:=fun i hi p=>t0V (hone i (by omega)).d (hone i (by omega)).c p
 have putc:∀(i:Nat),i<w->FC Tryz.prog 2 73 [.sl 1 0 0 (Q i).length,.str (WH.getD i ⟨#[]⟩),.str t,.int .i64 (IntKind.i64.wrap (c0b (Q i) (WH.getD i ⟨#[]⟩) t+IntKind.i64.wrap (s*PP.getD i 0)))] [(1,some (.one true (pxB (Q i).length (a0y (Q i)))))] (a0h (.sl 2 0 0 (Q (i+1)).length) [(2,some (.one false (pxB (Q (i+1)).length (a0y (Q (i+1))))))] 3):=fun i hi=>by
  have h1:=hsb i;have h2:=(hone i (by omega)).b (WH.getD i ⟨#[]⟩);rw [a0m (n:=s*PP.getD i 0) (by omega) (by omega),a0m (by omega) (by omega),hstep i];exact h0z (Q i) _ rfl (by have:=hlen i;omega) _ _ _ _ rfl
 have Ldef:=hLd;repeat' ((conv=>whnf);first|refine cOx (l:= [0,3]) cS ?_|refine a0a ?_|(apply bRx<;>intro h<;>try (exfalso;(try dsimp only at h);omega)))
 all_goals (conv=>whnf)
 all_goals first
  |(exfalso;omega)
  |skip
 refine a0f (fun x:Sum Unit Nat=>match x with
  | .inl _=>⟨[(0,.sl 1 0 0 (Q 0).length),(3,.str t),(4,.int .i64 s),(15,.sl 3 0 0 w),(18,.sl 4 0 0 w),(20,.int .i64 0)],ddH (Q 0).length n (Q 0) L++h1p w WH t PP,5⟩
  | .inr i=>⟨[(0,.sl 5 0 0 (Q i).length),(3,.str t),(4,.int .i64 s),(15,.sl 3 0 0 w),(18,.sl 4 0 0 w),(20,.int .i64 i)],ddH (Q 0).length n (Q 0) L++ddR w WH t PP (Q i),6⟩) (fun x=>match x with| .inl _=>True| .inr i=>1<=i/\i<=w) (fun x=>match x with| .inl _=>w| .inr i=>w-i) (.inl ()) [0,1,2,4,5] [] wHx trivial ?_
 rintro (u|i) hi
 .have hi2:0<w:=hw1;have cP:=putc 0 hi2;have hr:=round 0 hi2 (WH.getD 0 ⟨#[]⟩);have hlQ:=hlen 0;generalize hpw:WH.getD 0 ⟨#[]⟩=pw at cP hr;repeat' ((conv=>whnf);first|refine a0a ?_|(apply bRx<;>intro h<;>try (exfalso;(try dsimp only at h);omega)))
  all_goals (conv=>whnf)
  all_goals first
   |(exfalso;omega)
   |skip
  refine a0f (fun k:Nat=>⟨[(0,.sl 1 0 0 (Q 0).length),(3,.str t),(4,.int .i64 s),(15,.sl 3 0 0 w),(18,.sl 4 0 0 w),(20,.int .i64 0),(21,.int .i64 (g0E (Q 0) pw k)),(22,.int .i64 k)],ddH (Q 0).length n (Q 0) L++h1p w WH t PP,5⟩) (fun k=>k<=(Q 0).length) (fun k=>(Q 0).length-k) 0 [0,1,2,3,4] [] wHx (w0F _) ?_;intro k hk;by_cases hk2:k<(Q 0).length
  .obtain ⟨b1,b2,b3⟩:=atP (Q 0) k;have hst:g0E (Q 0) pw (k+1)=if ((Q 0).getD k px0).p=pw then ((Q 0).getD k px0).a else g0E (Q 0) pw k:=rfl
   by_cases g:((Q 0).getD k px0).p=pw
   .rw [if_pos g] at hst;have es:some (SV.int .i64 ((a0y (Q 0)).a.getD k 0))=some (SV.int .i64 (g0E (Q 0) pw (k+1))):=by rw [hst,b2]
    rw [<-b1,<-hpw] at g;repeat' ((conv=>whnf);first|refine a0a ?_|(apply bRx<;>intro h<;>try (exfalso;(try dsimp only at h);omega)))
    all_goals (conv=>whnf)
    all_goals (try simp only [a0u,p0F,w0G] at*)
    all_goals first
     |exact ⟨k+1,[0,1,2,3,4],[],hk2,(show (Q 0).length-(k+1)<(Q 0).length-k by omega),⟨rfl,⟨rfl,rfl,rfl,rfl,rfl,rfl,es,congrArg (fun z=>some (SV.int .i64 z)) (a0e (by omega)),trivial⟩,⟨rfl,rfl,rfl,rfl,trivial⟩⟩⟩
     |(exfalso;first|omega|contradiction|exact absurd g.symm (by assumption))
     |trace_state
   .rw [if_neg g] at hst;have es:some (SV.int .i64 (g0E (Q 0) pw k))=some (SV.int .i64 (g0E (Q 0) pw (k+1))):=by rw [hst]
    rw [<-b1,<-hpw] at g;repeat' ((conv=>whnf);first|refine a0a ?_|(apply bRx<;>intro h<;>try (exfalso;(try dsimp only at h);omega)))
    all_goals (conv=>whnf)
    all_goals (try simp only [a0u,p0F,w0G] at*)
    all_goals first
     |exact ⟨k+1,[0,1,2,3,4],[],hk2,(show (Q 0).length-(k+1)<(Q 0).length-k by omega),⟨rfl,⟨rfl,rfl,rfl,rfl,rfl,rfl,es,congrArg (fun z=>some (SV.int .i64 z)) (a0e (by omega)),trivial⟩,⟨rfl,rfl,rfl,rfl,trivial⟩⟩⟩
     |(exfalso;first|omega|contradiction|exact g ((by assumption:pw=_).symm)|exact g (by assumption))
     |trace_state
  .have ek:k=(Q 0).length:=by omega
   rw [ek,hr];rw [<-hpw] at cP⊢;have hinv:(1<=1/\1<=w):=⟨by omega,by omega⟩;repeat' ((conv=>whnf);first|refine cOx (l:= [0,1]) cP ?_|refine a0a ?_|(apply bRx<;>intro h<;>try (exfalso;(try dsimp only at h);omega)))
   all_goals (conv=>whnf)
   all_goals (try simp only [a0u,p0F,w0G] at*)
   all_goals first
    |exact ⟨.inr 1,[0,1,2,3,4,5],[],hinv,(show w-1<w by omega),⟨rfl,⟨rfl,rfl,rfl,rfl,rfl,rfl,trivial⟩,⟨rfl,rfl,rfl,rfl,rfl,trivial⟩⟩⟩
    |(exfalso;first|omega|contradiction)
    |trace_state
 .dsimp only at hi⊢;obtain ⟨hi1,hiw⟩:=hi;by_cases hi2:i<w
  case neg=>
   have ei:i=w:=by omega
   subst ei;repeat' ((conv=>whnf);first|refine a0a ?_|(apply bRx<;>intro h<;>try (exfalso;(try dsimp only at h);omega)))
   all_goals (conv=>whnf)
   all_goals first
    |exact rOx [0,1,2,5] (a0d a0b)
    |(exfalso;omega)
    |trace_state
  have cP:=putc i hi2;have hr:=round i hi2 (WH.getD i ⟨#[]⟩);have hlQ:=hlen i;generalize hpw:WH.getD i ⟨#[]⟩=pw at cP hr;repeat' ((conv=>whnf);first|refine a0a ?_|(apply bRx<;>intro h<;>try (exfalso;(try dsimp only at h);omega)))
  all_goals (conv=>whnf)
  all_goals first
   |(exfalso;omega)
   |skip
  refine a0f (fun k:Nat=>⟨[(0,.sl 5 0 0 (Q i).length),(3,.str t),(4,.int .i64 s),(15,.sl 3 0 0 w),(18,.sl 4 0 0 w),(20,.int .i64 i),(21,.int .i64 (g0E (Q i) pw k)),(22,.int .i64 k)],ddH (Q 0).length n (Q 0) L++ddR w WH t PP (Q i),6⟩) (fun k=>k<=(Q i).length) (fun k=>(Q i).length-k) 0 [0,1,2,3,4,5] [] wHx (w0F _) ?_;intro k hk;by_cases hk2:k<(Q i).length
  .obtain ⟨b1,b2,b3⟩:=atP (Q i) k;have hst:g0E (Q i) pw (k+1)=if ((Q i).getD k px0).p=pw then ((Q i).getD k px0).a else g0E (Q i) pw k:=rfl
   by_cases g:((Q i).getD k px0).p=pw
   .rw [if_pos g] at hst;have es:some (SV.int .i64 ((a0y (Q i)).a.getD k 0))=some (SV.int .i64 (g0E (Q i) pw (k+1))):=by rw [hst,b2]
    rw [<-b1,<-hpw] at g;repeat' ((conv=>whnf);first|refine a0a ?_|(apply bRx<;>intro h<;>try (exfalso;(try dsimp only at h);omega)))
    all_goals (conv=>whnf)
    all_goals (try simp only [a0u,p0F,w0G] at*)
    all_goals first
     |exact ⟨k+1,[0,1,2,3,4,5],[],hk2,(show (Q i).length-(k+1)<(Q i).length-k by omega),⟨rfl,⟨rfl,rfl,rfl,rfl,rfl,rfl,es,congrArg (fun z=>some (SV.int .i64 z)) (a0e (by omega)),trivial⟩,⟨rfl,rfl,rfl,rfl,rfl,trivial⟩⟩⟩
     |(exfalso;first|omega|contradiction|exact absurd g.symm (by assumption))
     |trace_state
   .rw [if_neg g] at hst;have es:some (SV.int .i64 (g0E (Q i) pw k))=some (SV.int .i64 (g0E (Q i) pw (k+1))):=by rw [hst]
    rw [<-b1,<-hpw] at g;repeat' ((conv=>whnf);first|refine a0a ?_|(apply bRx<;>intro h<;>try (exfalso;(try dsimp only at h);omega)))
    all_goals (conv=>whnf)
    all_goals (try simp only [a0u,p0F,w0G] at*)
    all_goals first
     |exact ⟨k+1,[0,1,2,3,4,5],[],hk2,(show (Q i).length-(k+1)<(Q i).length-k by omega),⟨rfl,⟨rfl,rfl,rfl,rfl,rfl,rfl,es,congrArg (fun z=>some (SV.int .i64 z)) (a0e (by omega)),trivial⟩,⟨rfl,rfl,rfl,rfl,rfl,trivial⟩⟩⟩
     |(exfalso;first|omega|contradiction|exact g ((by assumption:pw=_).symm)|exact g (by assumption))
     |trace_state
  .have ek:k=(Q i).length:=by omega
   rw [ek,hr];rw [<-hpw] at cP⊢;have hinv:(1<=(i+1)/\(i+1)<=w):=⟨by omega,by omega⟩;repeat' ((conv=>whnf);first|refine cOx (l:= [0,5]) cP ?_|refine a0a ?_|(apply bRx<;>intro h<;>try (exfalso;(try dsimp only at h);omega)))
   all_goals (conv=>whnf)
   all_goals (try simp only [a0u,p0F,w0G] at*)
   all_goals first
    |exact ⟨.inr (i+1),[0,1,2,3,4,6],[],hinv,(show w-(i+1)<w-i by omega),⟨rfl,⟨rfl,rfl,rfl,rfl,rfl,congrArg (fun z=>some (SV.int .i64 z)) (a0e (by omega)),trivial⟩,⟨rfl,rfl,rfl,rfl,rfl,trivial⟩⟩⟩
    |(exfalso;first|omega|contradiction)
    |trace_state
end
section
attribute [local irreducible] a0q a0r a0k a0P
def plZ (L:List Px) (c:ByteArray) (s:Int):List (ByteArray×Int):=(fS L c s).map (fun x=>(x.p,x.a))
abbrev plQ (O L:List Px) (c:ByteArray) (s:Int) (i:Nat):List Px:=stL c (plZ (L.take i) c s) O
abbrev ppR (X:List Px):a0j:= [(3,some (.one false (pxB X.length (a0y X))))]
theorem l0a (O L:List Px) (m n:Nat) (hm:O.length=m) (hn:L.length=n) (hml:m<=2000) (hnl:n<=2000) (hL:∀x∈L,-4503599627370496<=x.a/\x.a<=4503599627370496) (c:ByteArray) (s:Int) (hs:s=1\/s= -1) (h16:fL L c s<=16) (h1:1<=fL L c s) (B:Int) (hO:OneC c B O) (hB:B<=2305843009213693952) (R:List Px) (hR:stL c (plZ L c s) O=R):
  FC Tryz.prog 3 92 [.sl 1 0 0 m,.sl 2 0 0 n,.str c,.int .i64 s] (ddH m n O L) (a0h (.sl 3 0 0 R.length) [(3,some (.one false (pxB R.length (a0y R))))] 4):=by
 have hLd:∀j,-4503599627370496<=(L.getD j px0).a/\(L.getD j px0).a<=4503599627370496:=fun j=>by
  by_cases e:j<L.length
  .rw [List.getD,k0n e];exact hL _ (g1v e)
  .rw [List.getD,r0b (by omega)];decide
 have hLs:∀j,-4503599627370496<=(L.getD j px0).a*s/\(L.getD j px0).a*s<=4503599627370496:=fun j=>by
  have:=hLd j;rcases hs with e|e<;>subst e<;>omega
 have hfl:∀i,(fS (L.take i) c s).length<=16:=fun i=>by
  have h:(fS (L.take i) c s).Sublist (fS L c s):=(l1O i L).filter _;have:=h.length_le;exact g1x this h16
 have hone:∀i,OneC c (B+144115188075855872) (plQ O L c s i):=fun i=>by
  have h:=i0r hO (V:=9007199254740992) (by decide) (plZ (L.take i) c s) (fun z hz=>by
   unfold plZ at hz;obtain ⟨x,hx,rfl⟩:=h1T.1 hz;have:=hL x ((l1O i L).subset (j1j.1 hx).1);dsimp only;omega)
  have hl:(plZ (L.take i) c s).length<=16:=by unfold plZ;rw [j1G];exact hfl i
  have h2:OneC c (B+9007199254740992*((plZ (L.take i) c s).length:Int)) (plQ O L c s i):=h;exact ⟨h.d,h.c,fun p=>by have:=h2.b p;omega⟩
 have hlen:∀i,(plQ O L c s i).length<=m+16:=fun i=>by
  have:(plQ O L c s i).length<=O.length+(plZ (L.take i) c s).length:=g0F c (plZ (L.take i) c s) O;have hl:(plZ (L.take i) c s).length<=16:=by unfold plZ;rw [j1G];exact hfl i
  omega
 have hstep:∀i,i<n->plQ O L c s (i+1)=if (L.getD i px0).c=c/\0<(L.getD i px0).a*s then j0o (plQ O L c s i) (L.getD i px0).p c (c0b (plQ O L c s i) (L.getD i px0).p c+(L.getD i px0).a) else plQ O L c s i:=fun i hi=>by
  show stL c (plZ (L.take (i+1)) c s) O=_;unfold plZ;rw [o0i (by omega)];split
  .rw [h1W,l1h,t0W];rfl
  .rfl
 have hlst:plQ O L c s n=R:=by
  show stL c (plZ (L.take n) c s) O=R;rw [<-hn,g1y];exact hR
 have hsome:∀i,i<n->fS (L.take i) c s= []->fS (L.take (i+1)) c s= []\/((L.getD i px0).c=c/\0<(L.getD i px0).a*s):=fun i hi h=>by
  rw [o0i (by omega),h];by_cases g:(L.getD i px0).c=c/\0<(L.getD i px0).a*s
  .exact .inr g
  .rw [if_neg g];exact .inl rfl
 have hnil:fS (L.take n) c s≠[]:=by
  rw [<-hn,g1y];intro e;have:fL L c s=0:=by show (fS L c s).length=0;rw [e];rfl
  omega
 have hq0:∀i,fS (L.take i) c s= []->plQ O L c s i=O:=fun i h=>by
  show stL c (plZ (L.take i) c s) O=O;unfold plZ;rw [h];rfl
 generalize hQd:(fun i=>plQ O L c s i)=Q at*;have hQi:∀i,plQ O L c s i=Q i:=fun i=>by rw [<-hQd]
 simp only [hQi] at*;have hr:∀i p,g0E (Q i) p (Q i).length=c0b (Q i) p c:=fun i p=>t0V (hone i).d (hone i).c p
 have putc:∀(i:Nat),i<n->(L.getD i px0).c=c/\0<(L.getD i px0).a*s->FC Tryz.prog 2 73 [.sl 1 0 0 (Q i).length,.str ((a0y L).p.getD i ⟨#[]⟩),.str c,.int .i64 (IntKind.i64.wrap (c0b (Q i) ((a0y L).p.getD i ⟨#[]⟩) c+(a0y L).a.getD i 0))] [(1,some (.one true (pxB (Q i).length (a0y (Q i)))))] (a0h (.sl 2 0 0 (Q (i+1)).length) [(2,some (.one false (pxB (Q (i+1)).length (a0y (Q (i+1))))))] 3):=fun i hi hg=>by
  obtain ⟨b1,b2,b3⟩:=atP L i;have h1:=hLd i;have h2:=(hone i).b (L.getD i px0).p;rw [b1,b2];have h3:=hstep i hi;rw [if_pos hg] at h3;rw [a0m (by omega) (by omega),h3];exact h0z (Q i) _ rfl (by have:=hlen i;omega) _ _ _ _ rfl
 subst hlst;have hQ0:Q 0=O:=hq0 0 rfl;subst hQ0;subst hm;clear hR hQi hQd hO;refine fEx Tryz.func92 ?_;repeat' ((conv=>whnf);first|refine a0a ?_|(apply bRx<;>intro h<;>try (exfalso;(try dsimp only at h);omega)))
 all_goals (conv=>whnf)
 refine a0f (fun x:Sum Nat Nat=>match x with
  | .inl i=>⟨[(0,.sl 1 0 0 (Q 0).length),(1,.sl 2 0 0 n),(2,.str c),(3,.int .i64 s),(9,.int .i64 i)],ddH (Q 0).length n (Q 0) L,3⟩
  | .inr i=>⟨[(0,.sl 3 0 0 (Q i).length),(1,.sl 2 0 0 n),(2,.str c),(3,.int .i64 s),(9,.int .i64 i)],ddH (Q 0).length n (Q 0) L++ppR (Q i),4⟩) (fun x=>match x with| .inl i=>i<=n/\fS (L.take i) c s= []| .inr i=>i<=n) (fun x=>match x with| .inl i=>n-i| .inr i=>n-i) (.inl 0) [0,1,2] [] wHx ⟨w0F _,rfl⟩ ?_
 rintro (i|i) hi
 .dsimp only at hi⊢;obtain ⟨hi1,hnl1⟩:=hi;have hi2:i<n:=by
   refine Nat.lt_of_le_of_ne hi1 fun e=> ?_
   subst e;exact hnil hnl1
  obtain ⟨b1,b2,b3⟩:=atP L i;have hx:=hLs i;have hst:=hstep i hi2;have e1:IntKind.i64.wrap ((a0y L).a.getD i 0*s)=(a0y L).a.getD i 0*s:=by rw [b2];exact a0m (by omega) (by omega)
  by_cases g:(L.getD i px0).c=c/\0<(L.getD i px0).a*s
  case neg=>
   rw [if_neg g] at hst;have hnl2:=(hsome i hi2 hnl1).resolve_right g;rw [<-b2,<-b3] at g;repeat' ((conv=>whnf);first|(simp only [e1])|refine a0a ?_|(apply bRx<;>intro h<;>try (exfalso;(try dsimp only at h);omega)))
   all_goals (conv=>whnf)
   all_goals (try simp only [a0u,p0F,w0G,e1] at*)
   all_goals first
    |exact ⟨.inl (i+1),[0,1,2],[],⟨hi2,hnl2⟩,(show n-(i+1)<n-i by omega),⟨rfl,⟨rfl,rfl,rfl,rfl,congrArg (fun z=>some (SV.int .i64 z)) (a0e (by omega)),trivial⟩,⟨rfl,rfl,trivial⟩⟩⟩
    |(exfalso;first|omega|contradiction|exact g ⟨by assumption,by omega⟩)
    |trace_state
  have cP:=putc i hi2 g;have hrr:=hr i ((a0y L).p.getD i ⟨#[]⟩);rw [hq0 i hnl1] at cP hrr;rw [<-b2,<-b3] at g;have g1:=g.1;have hlQ:=hlen i;repeat' ((conv=>whnf);first|(simp only [e1])|refine a0a ?_|(apply bRx<;>intro h<;>try (exfalso;(try dsimp only at h);omega)))
  all_goals (conv=>whnf)
  all_goals (try simp only [a0u,p0F,w0G,e1] at*)
  all_goals first
   |(exfalso;first|omega|contradiction|exact absurd g1.symm (by assumption))
   |skip
  all_goals refine a0f (fun k:Nat=>⟨[(0,.sl 1 0 0 (Q 0).length),(1,.sl 2 0 0 n),(2,.str c),(3,.int .i64 s),(9,.int .i64 i),(10,.int .i64 (g0E (Q 0) ((a0y L).p.getD i ⟨#[]⟩) k)),(11,.int .i64 k)],ddH (Q 0).length n (Q 0) L,3⟩) (fun k=>k<=(Q 0).length) (fun k=>(Q 0).length-k) 0 [0,1,2] [] wHx (w0F _) ?_
  all_goals intro k hk
  all_goals by_cases hk2:k<(Q 0).length
  .obtain ⟨d1,d2,d3⟩:=atP (Q 0) k;have hst2:g0E (Q 0) ((a0y L).p.getD i ⟨#[]⟩) (k+1)=if ((Q 0).getD k px0).p=(a0y L).p.getD i ⟨#[]⟩ then ((Q 0).getD k px0).a else g0E (Q 0) ((a0y L).p.getD i ⟨#[]⟩) k:=rfl
   by_cases gg:((Q 0).getD k px0).p=(a0y L).p.getD i ⟨#[]⟩
   .rw [if_pos gg] at hst2;have es:some (SV.int .i64 ((a0y (Q 0)).a.getD k 0))=some (SV.int .i64 (g0E (Q 0) ((a0y L).p.getD i ⟨#[]⟩) (k+1))):=by rw [hst2,d2]
    rw [<-d1] at gg;repeat' ((conv=>whnf);first|refine a0a ?_|(apply bRx<;>intro h<;>try (exfalso;(try dsimp only at h);omega)))
    all_goals (conv=>whnf)
    all_goals (try simp only [a0u,p0F,w0G] at*)
    all_goals first
     |exact ⟨k+1,[0,1,2],[],hk2,(show (Q 0).length-(k+1)<(Q 0).length-k by omega),⟨rfl,⟨rfl,rfl,rfl,rfl,rfl,es,congrArg (fun z=>some (SV.int .i64 z)) (a0e (by omega)),trivial⟩,⟨rfl,rfl,trivial⟩⟩⟩
     |(exfalso;first|omega|contradiction|exact absurd gg.symm (by assumption))
     |trace_state
   .rw [if_neg gg] at hst2;have es:some (SV.int .i64 (g0E (Q 0) ((a0y L).p.getD i ⟨#[]⟩) k))=some (SV.int .i64 (g0E (Q 0) ((a0y L).p.getD i ⟨#[]⟩) (k+1))):=by rw [hst2]
    rw [<-d1] at gg;repeat' ((conv=>whnf);first|refine a0a ?_|(apply bRx<;>intro h<;>try (exfalso;(try dsimp only at h);omega)))
    all_goals (conv=>whnf)
    all_goals (try simp only [a0u,p0F,w0G] at*)
    all_goals first
     |exact ⟨k+1,[0,1,2],[],hk2,(show (Q 0).length-(k+1)<(Q 0).length-k by omega),⟨rfl,⟨rfl,rfl,rfl,rfl,rfl,es,congrArg (fun z=>some (SV.int .i64 z)) (a0e (by omega)),trivial⟩,⟨rfl,rfl,trivial⟩⟩⟩
     |(exfalso;first|omega|contradiction|exact gg ((by assumption:_=_).symm))
     |trace_state
  .have ek:k=(Q 0).length:=by omega
   rw [ek,hrr];repeat' ((conv=>whnf);first|refine cOx (l:= [0,1]) cP ?_|refine a0a ?_|(apply bRx<;>intro h<;>try (exfalso;(try dsimp only at h);omega)))
   all_goals (conv=>whnf)
   all_goals (try simp only [a0u,p0F,w0G] at*)
   all_goals first
    |exact ⟨.inr (i+1),[0,1,2,3],[],hi2,(show n-(i+1)<n-i by omega),⟨rfl,⟨rfl,rfl,rfl,rfl,congrArg (fun z=>some (SV.int .i64 z)) (a0e (by omega)),trivial⟩,⟨rfl,rfl,rfl,trivial⟩⟩⟩
    |(exfalso;first|omega|contradiction)
    |trace_state
 .dsimp only at hi⊢;by_cases hi2:i<n
  case neg=>
   have ei:n=i:=by omega
   subst ei;repeat' ((conv=>whnf);first|refine a0a ?_|(apply bRx<;>intro h<;>try (exfalso;(try dsimp only at h);omega)))
   all_goals (conv=>whnf)
   all_goals first
    |exact rOx [0,1,2,3] (a0d a0b)
    |(exfalso;omega)
    |trace_state
  obtain ⟨b1,b2,b3⟩:=atP L i;have hx:=hLs i;have hst:=hstep i hi2;have e1:IntKind.i64.wrap ((a0y L).a.getD i 0*s)=(a0y L).a.getD i 0*s:=by rw [b2];exact a0m (by omega) (by omega)
  by_cases g:(L.getD i px0).c=c/\0<(L.getD i px0).a*s
  case neg=>
   rw [if_neg g] at hst;have rQ:(some (HB.one false (pxB (Q i).length (a0y (Q i)))):Option HB)=some (.one false (pxB (Q (i+1)).length (a0y (Q (i+1))))):=by rw [hst]
   have rL:some (SV.sl 3 0 0 (Q i).length)=some (SV.sl 3 0 0 (Q (i+1)).length):=by rw [hst]
   rw [<-b2,<-b3] at g;repeat' ((conv=>whnf);first|(simp only [e1])|refine a0a ?_|(apply bRx<;>intro h<;>try (exfalso;(try dsimp only at h);omega)))
   all_goals (conv=>whnf)
   all_goals (try simp only [a0u,p0F,w0G,e1] at*)
   all_goals first
    |exact ⟨.inr (i+1),[0,1,2,3],[],hi2,(show n-(i+1)<n-i by omega),⟨rfl,⟨rL,rfl,rfl,rfl,congrArg (fun z=>some (SV.int .i64 z)) (a0e (by omega)),trivial⟩,⟨rfl,rfl,rQ,trivial⟩⟩⟩
    |(exfalso;first|omega|contradiction|exact g ⟨by assumption,by omega⟩)
    |trace_state
  have cP:=putc i hi2 g;have hrr:=hr i ((a0y L).p.getD i ⟨#[]⟩);rw [<-b2,<-b3] at g;have g1:=g.1;have hlQ:=hlen i;repeat' ((conv=>whnf);first|(simp only [e1])|refine a0a ?_|(apply bRx<;>intro h<;>try (exfalso;(try dsimp only at h);omega)))
  all_goals (conv=>whnf)
  all_goals (try simp only [a0u,p0F,w0G,e1] at*)
  all_goals first
   |(exfalso;first|omega|contradiction|exact absurd g1.symm (by assumption))
   |skip
  all_goals refine a0f (fun k:Nat=>⟨[(0,.sl 3 0 0 (Q i).length),(1,.sl 2 0 0 n),(2,.str c),(3,.int .i64 s),(9,.int .i64 i),(10,.int .i64 (g0E (Q i) ((a0y L).p.getD i ⟨#[]⟩) k)),(11,.int .i64 k)],ddH (Q 0).length n (Q 0) L++ppR (Q i),4⟩) (fun k=>k<=(Q i).length) (fun k=>(Q i).length-k) 0 [0,1,2,3] [] wHx (w0F _) ?_
  all_goals intro k hk
  all_goals by_cases hk2:k<(Q i).length
  .obtain ⟨d1,d2,d3⟩:=atP (Q i) k;have hst2:g0E (Q i) ((a0y L).p.getD i ⟨#[]⟩) (k+1)=if ((Q i).getD k px0).p=(a0y L).p.getD i ⟨#[]⟩ then ((Q i).getD k px0).a else g0E (Q i) ((a0y L).p.getD i ⟨#[]⟩) k:=rfl
   by_cases gg:((Q i).getD k px0).p=(a0y L).p.getD i ⟨#[]⟩
   .rw [if_pos gg] at hst2;have es:some (SV.int .i64 ((a0y (Q i)).a.getD k 0))=some (SV.int .i64 (g0E (Q i) ((a0y L).p.getD i ⟨#[]⟩) (k+1))):=by rw [hst2,d2]
    rw [<-d1] at gg;repeat' ((conv=>whnf);first|refine a0a ?_|(apply bRx<;>intro h<;>try (exfalso;(try dsimp only at h);omega)))
    all_goals (conv=>whnf)
    all_goals (try simp only [a0u,p0F,w0G] at*)
    all_goals first
     |exact ⟨k+1,[0,1,2,3],[],hk2,(show (Q i).length-(k+1)<(Q i).length-k by omega),⟨rfl,⟨rfl,rfl,rfl,rfl,rfl,es,congrArg (fun z=>some (SV.int .i64 z)) (a0e (by omega)),trivial⟩,⟨rfl,rfl,rfl,trivial⟩⟩⟩
     |(exfalso;first|omega|contradiction|exact absurd gg.symm (by assumption))
     |trace_state
   .rw [if_neg gg] at hst2;have es:some (SV.int .i64 (g0E (Q i) ((a0y L).p.getD i ⟨#[]⟩) k))=some (SV.int .i64 (g0E (Q i) ((a0y L).p.getD i ⟨#[]⟩) (k+1))):=by rw [hst2]
    rw [<-d1] at gg;repeat' ((conv=>whnf);first|refine a0a ?_|(apply bRx<;>intro h<;>try (exfalso;(try dsimp only at h);omega)))
    all_goals (conv=>whnf)
    all_goals (try simp only [a0u,p0F,w0G] at*)
    all_goals first
     |exact ⟨k+1,[0,1,2,3],[],hk2,(show (Q i).length-(k+1)<(Q i).length-k by omega),⟨rfl,⟨rfl,rfl,rfl,rfl,rfl,es,congrArg (fun z=>some (SV.int .i64 z)) (a0e (by omega)),trivial⟩,⟨rfl,rfl,rfl,trivial⟩⟩⟩
     |(exfalso;first|omega|contradiction|exact gg ((by assumption:_=_).symm))
     |trace_state
  .have ek:k=(Q i).length:=by omega
   rw [ek,hrr];repeat' ((conv=>whnf);first|refine cOx (l:= [0,3]) cP ?_|refine a0a ?_|(apply bRx<;>intro h<;>try (exfalso;(try dsimp only at h);omega)))
   all_goals (conv=>whnf)
   all_goals (try simp only [a0u,p0F,w0G] at*)
   all_goals first
    |exact ⟨.inr (i+1),[0,1,2,4],[],hi2,(show n-(i+1)<n-i by omega),⟨rfl,⟨rfl,rfl,rfl,rfl,congrArg (fun z=>some (SV.int .i64 z)) (a0e (by omega)),trivial⟩,⟨rfl,rfl,rfl,trivial⟩⟩⟩
    |(exfalso;first|omega|contradiction)
    |trace_state
end
section
theorem y0R {α β:Type} (f:α->β) (l:List α) (d:β) (d':α) {k:Nat} (hk:k<l.length):(l.map f).getD k d=f (l.getD k d'):=by
 rw [List.getD,a1u,k0n hk,List.getD,k0n hk];rfl
theorem h1r {b:Bk} {B:Int} (h:BkI b B) (c:ByteArray) (s:Int):plK (b.row c) s 16=plK (b.row c) s b.n/\wtK (b.row c) s 16=wtK (b.row c) s b.n:=by
 have hn:=h.n16;have hp:=o0j (s:=s) (h.rt c) (16-b.n)
 rwa [show b.n+(16-b.n)=16 by omega] at hp
theorem y0S {b:Bk} {B:Int} (h:BkI b B) {c:ByteArray} (hc:c∈b.cs) (s:Int):fW b.list c s=wtK (b.row c) s 16/\fL b.list c s=dvN (b.row c) s:=by
 have e:=k0Y h hc s;have ew:=y0P (b.row c) s 16;refine ⟨?_,?_⟩
 .show (fS b.list c s).map (fun x=>x.a*s)=_;rw [e,k1b,ew];rfl
 .show (fS b.list c s).length=(wtK (b.row c) s 16).length;rw [e,j1G,k0y]
theorem c1X {b:Bk} {B:Int} (h:BkI b B) {c:ByteArray} (hc:c∈b.cs) (A:Nat) (t:ByteArray) (s:Int):diE A b.list c t s=dvE A t (b.row c) s:=by
 obtain ⟨e1,e2⟩:=y0S h hc s;unfold diE dvE;rw [e1,e2]
theorem j1f {b:Bk} {B:Int} (h:BkI b B) {c:ByteArray} (hc:c∈b.cs) (s:Int):fL b.list c s<=16:=by rw [(y0S h hc s).2];exact t0a _ _ 16
theorem t0X {b:Bk} {B:Int} (h:BkI b B) (hnd:b.ps.Nodup) (c:ByteArray) (s:Int):(∀i,i<(plK (b.row c) s 16).length->((plK (b.row c) s 16).getD i 0).toNat<b.n)/\(∀i k,i<k->k<(plK (b.row c) s 16).length->((plK (b.row c) s 16).getD i 0).toNat≠((plK (b.row c) s 16).getD k 0).toNat)/\∀j,j<b.n->a0o b.ps (b.ps.getD j ⟨#[]⟩)=j:=by
 rw [(h1r h c s).1];refine ⟨fun i hi=> ?_,fun i k hik hk=> ?_,fun j hj=> ?_⟩
 .have:=l0n (b.row c) s b.n i hi;omega
 .have h1:=l0n (b.row c) s b.n i (by omega);have h2:=l0n (b.row c) s b.n k hk;have h3:=t0v (b.row c) s b.n i k hik hk;omega
 .exact Go.Sy.sidx_of_get hnd (by rw [List.getD,k0n (by rw [h.psl];exact hj)];rfl)
theorem m0H {b:Bk} {B:Int} (h:BkI b B) (hnd:b.ps.Nodup) {c:ByteArray} (hc:c∈b.cs) {t:ByteArray} {O:List Px} {f:Nat->Int} (hd:g0A O) (hr:v0s b t O f) (A:Nat) (s:Int):v0s b t (stL t (dvZ A b.list c s) O) (fun j=>f j+(dvR z16 A (b.row c) s).getD j 0):=by
 obtain ⟨p1,p2,p3⟩:=t0X h hnd c s;have hn:=h.n16;have e:=k0Y h hc s;obtain ⟨e1,e2⟩:=y0S h hc s;have hpl:(plK (b.row c) s 16).length=fL b.list c s:=by rw [e2];exact k0y _ _ _
 have hwho:∀k,k<fL b.list c s->(fN b.list c s).getD k ⟨#[]⟩=b.ps.getD ((plK (b.row c) s 16).getD k 0).toNat ⟨#[]⟩:=fun k hk=>by
  show ((fS b.list c s).map Px.p).getD k ⟨#[]⟩=_;rw [e,k1b,y0R _ _ _ 0 (by omega)];rfl
 have hz:∀z∈dvZ A b.list c s,a0o b.ps z.1<b.n:=fun z hz=>by
  obtain ⟨k,hk,rfl⟩:=o0m hz;dsimp only;rw [hwho k hk,p3 _ (p1 k (by omega))];exact p1 k (by omega)
 have h1:=y0O h.psl (dvZ A b.list c s) hd hz hr;have h2:∀j,gZ b.ps (dvZ A b.list c s) j=(dvR z16 A (b.row c) s).getD j 0:=fun j=>by
  have hg:=h1n (ps:=b.ps) (pl:=plK (b.row c) s 16) (P:=dvP A b.list c s) (s:=s) (N:=fL b.list c s) hpl (fun i hi=>by have:=p1 i (by omega);omega) (fun i k hik hk=>p2 i k hik (by omega)) (fun k=>zdK (fN b.list c s) (dvP A b.list c s) s k) rfl (fun k hk=>by simp only [zdK];rw [hwho k hk]) (fun k hk=>p3 _ (p1 k (by omega))) j (fL b.list c s) (n0q _);show gZ b.ps (zdK (fN b.list c s) (dvP A b.list c s) s (fL b.list c s)) j=_;rw [hg];unfold dvR;show (dvK z16 (plK (b.row c) s 16) (spP A (fW b.list c s) (fL b.list c s)) s (fL b.list c s)).getD j 0=_;rw [e1,e2]
 intro p;have h3:=h1 p;dsimp only at h3;rw [h2] at h3;exact h3
theorem f1k {r:List Int} {A:Nat} {n:Nat} (hr:∀i,i<(plK r (-1) 16).length->((plK r (-1) 16).getD i 0).toNat<16) (j:Nat):(dvR (dvR z16 A r 1) A r (-1)).getD j 0=(dvR z16 A r 1).getD j 0+(dvR z16 A r (-1)).getD j 0:=by
 have hpl:(plK r (-1) 16).length=dvN r (-1):=k0y _ _ _;have h:=h1m (row:=dvR z16 A r 1) (pl:=plK r (-1) 16) (P:=spP A (wtK r (-1) 16) (dvN r (-1))) (s:= -1) (j:=j) (by rw [x0n];rfl) hr (fun i hi=>by
  have h1:=t0w r (-1) 16 i hi;rw [e1F (by omega),b0Y]) (fun i k hik hk=>by
  have h2:=t0v r (-1) 16 i k hik hk;have h3:=l0n r (-1) 16 i (by omega);omega) (dvN r (-1)) (by rw [hpl];exact n0q _)
 exact h
theorem h1s {ps:List ByteArray} {n:Nat} {r:List Int} {s:Int} (hi:∀j,j<n->a0o ps (ps.getD j ⟨#[]⟩)=j) (j:Nat):∀k,k<=n->gZ ps ((plK r s k).map (fun i=>(ps.getD i.toNat ⟨#[]⟩,r.getD i.toNat 0))) j=if j<k/\0<r.getD j 0*s then r.getD j 0 else 0
 |0,_=>by rw [if_neg (by omega)];rfl
 |k+1,hk=>by
  have ih:=h1s (r:=r) (s:=s) hi j k (by omega);simp only [plK];by_cases q:0<r.getD k 0*s
  .rw [if_pos q,h1W,l1h];unfold gZ at ih⊢;rw [h1W,l1z,ih,l1h,List.sum_singleton];dsimp only;rw [p0F,hi k (by omega)];by_cases e:k=j
   .subst e;rw [if_neg (by omega),if_pos rfl,if_pos ⟨by omega,q⟩];omega
   .rw [if_neg e];by_cases w:j<k/\0<r.getD j 0*s
    .rw [if_pos w,if_pos ⟨by omega,w.2⟩];omega
    .rw [if_neg w,if_neg (fun z=>w ⟨by omega,z.2⟩)];rfl
  .rw [if_neg q,ih];by_cases w:j<k/\0<r.getD j 0*s
   .rw [if_pos w,if_pos ⟨by omega,w.2⟩]
   .rw [if_neg w,if_neg];rintro ⟨z1,z2⟩;by_cases e:k=j
    .subst e;exact q z2
    .exact w ⟨by omega,z2⟩
theorem q0r {b:Bk} {B:Int} (h:BkI b B) (hnd:b.ps.Nodup) {c:ByteArray} (hc:c∈b.cs) {t:ByteArray} {O:List Px} {f:Nat->Int} (hd:g0A O) (hr:v0s b t O f) (s:Int):v0s b t (stL t (plZ b.list c s) O) (fun j=>f j+(if j<b.n/\0<(b.row c).getD j 0*s then (b.row c).getD j 0 else 0)):=by
 obtain ⟨p1,p2,p3⟩:=t0X h hnd c s;have e:=k0Y h hc s;have hZ:plZ b.list c s=(plK (b.row c) s b.n).map (fun i=>(b.ps.getD i.toNat ⟨#[]⟩,(b.row c).getD i.toNat 0)):=by
  unfold plZ;rw [e,k1b,(h1r h c s).1];rfl
 have hz:∀z∈plZ b.list c s,a0o b.ps z.1<b.n:=fun z hz=>by
  rw [hZ] at hz;obtain ⟨i,hi,rfl⟩:=h1T.1 hz;obtain ⟨k,hk,rfl⟩:=d1O hi;have:=l0n (b.row c) s b.n k hk;rw [List.getD,k0n hk] at this;simp only [j1A] at this;dsimp only;rw [p3 _ (by omega)];omega
 have h1:=y0O h.psl (plZ b.list c s) hd hz hr;intro p;have h3:=h1 p;dsimp only at h3;rw [hZ,h1s p3 _ b.n (n0q _),<-hZ] at h3;exact h3
theorem y0T (L:List Px) (c:ByteArray):∀k,k<=L.length->toK L c k=((fS (L.take k) c 1).map Px.a).sum
 |0,_=>rfl
 |k+1,hk=>by
  have ih:=y0T L c k (by omega);simp only [toK];rw [o0i hk];by_cases g:(L.getD k px0).c=c/\0<(L.getD k px0).a
  .rw [if_pos g,if_pos ⟨g.1,by have:=g.2;omega⟩,h1W,l1z,ih];simp
  .rw [if_neg g,if_neg (fun q=>g ⟨q.1,by have:=q.2;omega⟩),ih]
theorem t0Y (r:List Int):∀n,h0v r n=((plK r 1 n).map (fun j=>r.getD j.toNat 0)).sum
 |0=>rfl
 |n+1=>by
  have ih:=t0Y r n;simp only [h0v,plK];by_cases q:0<r.getD n 0
  .rw [if_pos q,if_pos (by omega),h1W,l1z,ih];simp
  .rw [if_neg q,if_neg (by omega),ih]
theorem h1t {b:Bk} {B:Int} (h:BkI b B) {c:ByteArray} (hc:c∈b.cs):toK b.list c b.list.length=h0v (b.row c) 16:=by
 rw [y0T _ _ _ (n0q _),g1y,k0Y h hc 1,t0Y,k1b];rfl
theorem q0s {r:List Int} {s:Int}:∀n,1<=(plK r s n).length\/∀j,j<n->¬0<r.getD j 0*s
 |0=> .inr fun j hj=>by omega
 |n+1=>by
  simp only [plK];by_cases q:0<r.getD n 0*s
  .rw [if_pos q];exact .inl (by rw [a1N,f1M];omega)
  .rw [if_neg q];rcases q0s (r:=r) (s:=s) n with h|h
   .exact .inl h
   .refine .inr fun j hj=> ?_
    by_cases e:j=n
    .subst e;exact q
    .exact h j (by omega)
theorem t0Z {l:List Int} (h:∀j,0<=l.getD j 0) (hs:l.sum=0):∀j,l.getD j 0=0:=by
 induction l with
 |nil=>intro j;rfl
 |cons x l ih=>
  have h0:0<=x:=h 0;have hl:∀j,0<=l.getD j 0:=fun j=>by have:=h (j+1);rwa [j1n] at this
  have hsum:0<=l.sum:=by
   clear ih hs h;induction l with
   |nil=>exact j1T _
   |cons y l ih2=>
    have:=hl 0;have h2:=ih2 (fun j=>by have:=hl (j+1);rwa [j1n] at this);rw [l1I];rw [l1B] at this;omega
  rw [l1I] at hs;intro j;cases j with
  |zero=>rw [l1B];omega
  |succ j=>rw [j1n];exact ih hl (by omega) j
theorem f1l (l:List Int):(l.map (fun x=> -x)).sum= -l.sum:=by
 induction l with
 |nil=>rfl
 |cons x l ih=>rw [j1D,l1I,l1I,ih];omega
theorem y0U (l:List Int) (j:Nat):(l.map (fun x=> -x)).getD j 0= -l.getD j 0:=by
 simp only [List.getD,a1u];cases l[j]?<;>simp
theorem c1Y {b:Bk} {B:Int} (h:BkI b B) {c:ByteArray} (hc:c∈b.cs) {s:Int} (hs:s=1\/s= -1):1<=fL b.list c s:=by
 have e:fL b.list c s=(plK (b.row c) s 16).length:=by show (fS b.list c s).length=_;rw [k0Y h hc s,j1G]
 rw [e];rcases q0s (r:=b.row c) (s:=s) 16 with q|q
 .exact q
 .exfalso;have hl:=h.rl c;have hz:∀j,(b.row c).getD j 0=0:=by
   have hnn:∀j,¬0<(b.row c).getD j 0*s:=fun j=>by
    by_cases w:j<16
    .exact q j w
    .rw [List.getD,r0b (by omega)];simp
   rcases hs with e|e
   .subst e;have h2:=t0Z (l:=(b.row c).map (fun x=> -x)) (fun j=>by rw [y0U];have:=hnn j;omega) (by rw [f1l,h.rs c];rfl);intro j;have:=h2 j;rw [y0U] at this;omega
   .subst e;exact t0Z (fun j=>by have:=hnn j;omega) (h.rs c)
  exact h.nz c hc (t0m hl rfl fun j=>by rw [hz j,b0Y])
theorem f1m {b:Bk} {t:ByteArray} {O:List Px} {S:List Int} {B:Int} (h:BkI b B) (hnd:b.ps.Nodup) (hd:g0A O) (hc:∀x∈O,x.c=t) (hr:v0s b t O (fun j=>S.getD j 0)):(∀x∈O,f0n x.a=true)↔t0l S b.n=true:=by
 have hk:∀n,t0l S n=true↔∀j,j<n->f0n (S.getD j 0)=true:=by
  intro n;induction n with
  |zero=>simp [t0l]
  |succ n ih=>
   simp only [t0l,k0o,ih];constructor
   .rintro ⟨h1,h2⟩ j hj;by_cases e:j=n
    .subst e;exact h2
    .exact h1 j (by omega)
   .intro h1;exact ⟨fun j hj=>h1 j (by omega),h1 n (by omega)⟩
 rw [hk];constructor
 .intro hf j hj;have hp:=Go.Sy.sidx_of_get (s:=b.ps.getD j ⟨#[]⟩) hnd (show b.ps[j]? =some (b.ps.getD j ⟨#[]⟩) by rw [List.getD,k0n (by rw [h.psl];exact hj)];rfl);have h1:=hr (b.ps.getD j ⟨#[]⟩);rw [hp,if_pos hj] at h1;rcases e0r O (b.ps.getD j ⟨#[]⟩) t with ⟨x,hx,e1,e2⟩|q
  .have h2:=b0W hd hx;rw [e1,e2,h1] at h2;dsimp only at h2;rw [h2];exact hf x hx
  .rw [f0z q] at h1;dsimp only at h1;rw [<-h1];decide
 .intro hf x hx;have h2:=b0W hd hx;rw [hc x hx,hr x.p] at h2;split at h2
  .rename_i w;dsimp only at h2;rw [<-h2];exact hf _ w
  .rw [<-h2];decide
theorem b1K {b:Bk} {t:ByteArray} {O:List Px} {S:List Int} {B:Int} (h:BkI b B) (hps:b.ps.Pairwise (fun a b=>a0D a b=true)) (hd:g0A O) (hc:∀x∈O,x.c=t) (hr:v0s b t O (fun j=>S.getD j 0)):srt (nz O)=liR S b.ps t b.n/\(nz O).length=(liR S b.ps t b.n).length:=by
 have hnd:b.ps.Nodup:=hps.imp (fun {a b} h e=>by subst e;rw [a0p] at h;cases h);have hpl:∀i j,i<j->j<b.n->a0D (b.ps.getD i ⟨#[]⟩) (b.ps.getD j ⟨#[]⟩)=true:=by
  intro i j hij hj;have:=g1z.1 hps i j (by rw [h.psl];omega) (by rw [h.psl];exact hj) hij;rw [List.getD,List.getD,k0n (by rw [h.psl];omega),k0n (by rw [h.psl];exact hj)];exact this
 have ha:Asc (liR S b.ps t b.n):=(r0L (r:=S) (c:=t) hpl b.n (n0q _)).imp_of_mem fun {x y} hx hy q=>d0z.2 (.inr ⟨by rw [(c0k _ _ hx).1,(c0k _ _ hy).1],q⟩)
 have nd1:(liR S b.ps t b.n).Nodup:=ha.imp (fun {a b} h e=>by subst e;rw [i0l] at h;cases h);have nd2:(nz O).Nodup:=(hd.imp (fun {a b} h e=>h (by subst e;exact ⟨rfl,rfl⟩))).sublist k1E;have hR:∀(n:Nat) (x:Px),x∈liR S b.ps t n↔x.c=t/\x.a≠0/\∃j,j<n/\x.p=b.ps.getD j ⟨#[]⟩/\x.a=S.getD j 0:=by
  intro n x;refine ⟨c0k n x,?_⟩;rintro ⟨h1,h2,j,hj,h3,h4⟩;induction n with
  |zero=>omega
  |succ n ih=>
   simp only [liR];by_cases e:j=n
   .subst e;rw [if_neg (by rw [<-h4];exact h2)];refine k1Z _ (a1A.2 ?_);rw [<-h3,<-h4,<-h1]
   .split
    .exact ih (by omega)
    .exact j1q _ (ih (by omega))
 have hp:(liR S b.ps t b.n).Perm (nz O):=(k1S nd1 nd2).2 fun x=>by
  rw [hR];unfold nz;rw [j1j,decide_eq_true_eq];constructor
  .rintro ⟨h1,h2,j,hj,h3,h4⟩;refine ⟨?_,h2⟩;have hsx:=Go.Sy.sidx_of_get (s:=x.p) hnd (show b.ps[j]? =some x.p by rw [h3,List.getD,k0n (by rw [h.psl];exact hj)];rfl);have h5:=hr x.p;rw [hsx,if_pos hj] at h5;dsimp only at h5;rw [<-h4] at h5;rcases e0r O x.p t with ⟨y,hy,e1,e2⟩|q
   .have h6:=b0W hd hy;rw [e1,e2,h5] at h6;have e:x=y:=by cases x;cases y;simp_all
    rw [e];exact hy
   .rw [f0z q] at h5;exact absurd h5.symm h2
  .rintro ⟨h1,h2⟩;have h3:=b0W hd h1;rw [hc x h1,hr x.p] at h3;split at h3
   .rename_i w;dsimp only at h3;exact ⟨hc x h1,h2,_,w,(d0u b.ps (by rw [h.psl];exact w)).symm,h3.symm⟩
   .exact absurd h3.symm h2
 exact ⟨x0S hp ha,hp.length_eq.symm⟩
end
section
attribute [local irreducible] a0q a0r a0k a0P
theorem i0Y (s:ByteArray):b0m Tryz.prog 86 [.str s] (.bool (d0M s)):=by
 by_cases h3:s.size=3
 case neg=>
  rw [f0l h3];refine fEx Tryz.func86 ?_;repeat' ((conv=>whnf);first|refine a0a ?_|(apply bRx<;>intro h<;>try (exfalso;(try dsimp only at h);omega)))
  all_goals (conv=>whnf)
  all_goals first
   |exact a0c rfl
   |(exfalso;omega)
   |trace_state
 by_cases k0:65<=a0i s 0/\a0i s 0<=90
 case neg=>
  rw [b0i (k:=0) (by omega) (by show a0i s 0<65\/90<a0i s 0;omega)];refine fEx Tryz.func86 ?_;repeat' ((conv=>whnf);first|refine a0a ?_|(apply bRx<;>intro h<;>try (exfalso;(try dsimp only at h);omega)))
  all_goals (conv=>whnf)
  all_goals first
   |exact a0c rfl
   |(exfalso;omega)
   |trace_state
 by_cases k1:65<=a0i s 1/\a0i s 1<=90
 case neg=>
  rw [b0i (k:=1) (by omega) (by show a0i s 1<65\/90<a0i s 1;omega)];refine fEx Tryz.func86 ?_;repeat' ((conv=>whnf);first|refine a0a ?_|(apply bRx<;>intro h<;>try (exfalso;(try dsimp only at h);omega)))
  all_goals (conv=>whnf)
  all_goals first
   |exact a0c rfl
   |(exfalso;omega)
   |trace_state
 by_cases k2:65<=a0i s 2/\a0i s 2<=90
 case neg=>
  rw [b0i (k:=2) (by omega) (by show a0i s 2<65\/90<a0i s 2;omega)];refine fEx Tryz.func86 ?_;repeat' ((conv=>whnf);first|refine a0a ?_|(apply bRx<;>intro h<;>try (exfalso;(try dsimp only at h);omega)))
  all_goals (conv=>whnf)
  all_goals first
   |exact a0c rfl
   |exact a0c (congrArg SV.bool (decide_eq_false (by omega)))
   |(exfalso;omega)
   |trace_state
 have hc:d0M s=true:=by
  unfold d0M;rw [h3];have s1:d0L s 1=true:=b0X (k:=0) rfl (by show¬a0i s 0<65;omega) (by show¬90<a0i s 0;omega);have s2:d0L s 2=true:=b0X (k:=1) s1 (by show¬a0i s 1<65;omega) (by show¬90<a0i s 1;omega);have s3:d0L s 3=true:=b0X (k:=2) s2 (by show¬a0i s 2<65;omega) (by show¬90<a0i s 2;omega);rw [s3];rfl
 rw [hc];refine fEx Tryz.func86 ?_;repeat' ((conv=>whnf);first|refine a0a ?_|(apply bRx<;>intro h<;>try (exfalso;(try dsimp only at h);omega)))
 all_goals (conv=>whnf)
 all_goals first
  |exact a0c rfl
  |exact a0c (congrArg SV.bool (decide_eq_true (by omega)))
  |(exfalso;omega)
  |trace_state
abbrev rvH (np:Nat) (ps:List ByteArray) (m:Nat) (R:List Px) (q:RL):a0j:=(0,some (GB glT))::(4,some (.one true (rlB q)))::rbH true np ps m R
theorem b1L {b:Bk} (h:BkI b 4503599627370496):∀x∈b.list,-4503599627370496<=x.a/\x.a<=4503599627370496:=by
 have hm:∀cs k x,x∈liA b cs k->-4503599627370496<=x.a/\x.a<=4503599627370496:=by
  intro cs k;induction k with
  |zero=>intro x hx;simp [liA] at hx
  |succ k ih=>
   intro x hx;simp only [liA] at hx;rcases g1h.1 hx with q|q
   .exact ih x q
   .obtain ⟨_,_,j,_,_,e⟩:=c0k _ _ q;rw [e];exact h.rb _ _
 exact fun x hx=>hm _ _ x hx
structure CvI (b:Bk) (q:RL) (t p:ByteArray) (k:Nat) (O:List Px):Prop where
 le:k<=b.m
 e:t0k q b (sortS b.cs) t p k=0
 one:OneC t (18014398509481984*(k:Int)) O
 rel:v0s b t O (fun j=>(f0O q b (sortS b.cs) t p k).getD j 0)
 len:O.length<=32*k
theorem b1M {b:Bk} {q:RL} {t p:ByteArray}:CvI b q t p 0 []:=by
 refine ⟨w0F _,rfl,⟨List.Pairwise.nil,fun x hx=>(by simp at hx),fun p=> ?_⟩,fun p=> ?_,n0q _⟩
 .have:c0b [] p t=0:=rfl;rw [this];decide
 .have:c0b [] p t=0:=rfl;rw [this];dsimp only;have:(f0O q b (sortS b.cs) t p 0)=z16:=rfl;split
  .show (0:Int)=z16.getD _ 0;rw [b0Y]
  .rfl
theorem b1N {b:Bk} {q:RL} {t p:ByteArray} {k:Nat} {O O1 O2:List Px} (h:BkI b 4503599627370496) (hnd:b.ps.Nodup) (hI:CvI b q t p k O) (hk:k<b.m) {c:ByteArray} (hc:(sortS b.cs).getD k ⟨#[]⟩=c) (Z1 Z2:List (ByteArray×Int)) (h1:stL t Z1 O=O1) (h2:stL t Z2 O1=O2)
  (hZ1:∀z∈Z1,-4503599627370512<=z.2/\z.2<=4503599627370512) (hZ2:∀z∈Z2,-4503599627370512<=z.2/\z.2<=4503599627370512) (hl1:Z1.length<=16) (hl2:Z2.length<=16)
  (he:c=t\/cwE q (b.row c) c t p=0) (hrel:v0s b t O2 (fun j=>(f0O q b (sortS b.cs) t p k).getD j 0+(cvR q b t p c).getD j 0)):CvI b q t p (k+1) O2:=by
 refine ⟨hk,?_,?_,?_,?_⟩
 .simp only [t0k];rw [if_neg (by rw [hI.e];simp),hc];rcases he with e|e
  .rw [if_pos e]
  .split
   .rfl
   .exact e
 .have hd2:g0A O2/\∀x∈O2,x.c=t:=by
   have a1:=i0r hI.one (V:=4503599627370512) (by decide) Z1 hZ1;rw [h1] at a1;have a2:=i0r a1 (V:=4503599627370512) (by decide) Z2 hZ2;rw [h2] at a2;exact ⟨a2.d,a2.c⟩
  refine ⟨hd2.1,hd2.2,fun p'=> ?_⟩;rw [hrel p'];split
  .dsimp only;have hb:=r0C (q:=q) (b:=b) (cs:=sortS b.cs) (t:=t) (p:=p) (h.ok (j1T _)).bd k hI.e (a0o b.ps p');have hr: -9007199254740992<=(cvR q b t p c).getD (a0o b.ps p') 0/\(cvR q b t p c).getD (a0o b.ps p') 0<=9007199254740992:=by
    unfold cvR;by_cases g:c=t
    .rw [if_pos g];have:=h.rb c (a0o b.ps p');omega
    .rw [if_neg g];exact x0r (he.resolve_left g) _
   rw [k1Q];omega
  .rw [k1Q];omega
 .intro p';rw [hrel p'];split
  .rename_i w;have hn:=h.n16;simp only [f0O];rw [h0w (j0l q b (sortS b.cs) t p k) 16 _ (n0q _),if_pos (by omega),hc]
  .rfl
 .have a1:=g0F t Z1 O;have a2:=g0F t Z2 O1;rw [h1] at a1;rw [h2] at a2;have:=hI.len;omega
theorem b1O {b:Bk} {B:Int} (h:BkI b B) {k:Nat} (hk:k<b.m):(sortS b.cs).getD k ⟨#[]⟩∈b.cs:=by
 have hsl:(sortS b.cs).length=b.m:=by rw [a0S,h.C.cl]
 refine (b0L b.cs).mem_iff.1 ?_;rw [List.getD,k0n (by omega)];exact g1v _
end
section
attribute [local irreducible] a0q a0r a0k a0P
def oo3 (A B C:List Px):Nat->List Px
 |0=>A
 |1=>B
 |_=>C
def sg3:Nat->Int
 |0=>1
 |1=> -1
 |_=> -3
abbrev rvV (m:Nat) (L:List Px) (cs:List ByteArray) (O:List Px):a0j:= [(5,some (.one false (pxB L.length (a0y L)))),(6,some (.one false (.cols m [.sc (.strs cs)]))),(7,some (.one false (pxB O.length (a0y O))))]
abbrev i1T (np:Nat) (ps:List ByteArray) (rm:Nat) (R:List Px) (q:RL) (t p:ByteArray) (m:Nat) (L:List Px) (cs:List ByteArray) (x:Nat×List Px):VS:=⟨[(1,.sl 4 0 0 q.l),(2,.str t),(3,.str p),(10,.sl 5 0 0 L.length),(11,.sl 6 0 0 m),(12,.sl 7 0 0 x.2.length),(13,.int .i64 x.1)],rvH np ps rm R q++rvV m L cs x.2,8⟩
abbrev h1Z (np:Nat) (ps:List ByteArray) (rm:Nat) (R:List Px) (q:RL) (t p:ByteArray) (m:Nat) (L:List Px) (cs:List ByteArray) (i:Nat) (c:ByteArray) (A:Nat) (OO:Nat->List Px) (j:Nat):VS:=⟨[(1,.sl 4 0 0 q.l),(2,.str t),(3,.str p),(10,.sl 5 0 0 L.length),(11,.sl 6 0 0 m),(12,.sl 7 0 0 (OO j).length),(13,.int .i64 i),(14,.str c),(15,.int .i64 A),(19,.int .i64 (sg3 j))],rvH np ps rm R q++rvV m L cs (OO j),8⟩
set_option maxHeartbeats 3200000 in
theorem o0n {b:Bk} (h:BkI b 4503599627370496) {np:Nat} (hnp:b.n=np) (ps:List ByteArray) (hps:b.ps.Pairwise (fun a b=>a0D a b=true)) {R:List Px} (hr:RlB b R) {rm:Nat} (hrm:R.length=rm) (hrl:rm<=1000) (hbm:b.m<=60) (q:RL) (hq:q.l<=1000) (hz:∀i,(q.at i).f.size<=9223372036854775807/\(q.at i).t.size<=9223372036854775807) (t p:ByteArray) (ht:t.size<=9223372036854775807):
  FC Tryz.prog 5 53 [.ptr 1 0 0 0,.sl 4 0 0 q.l,.str t,.str p] (rvH np ps rm R q) (i0V b q t p):=by
 have hnd:b.ps.Nodup:=hps.imp (fun {a b} h e=>by subst e;rw [a0p] at h;cases h);have c1:=i0Y t;unfold i0V;cases hcu:d0M t with
 |false=>
  have e:b.cvE q t p=11:=by unfold Bk.cvE;rw [if_pos hcu]
  rw [e,if_pos (by decide)];rw [hcu] at c1;refine fEx Tryz.func53 ?_;repeat' ((conv=>whnf);first|refine cPx c1 ?_|refine a0a ?_|(apply bRx<;>intro h<;>try (exfalso;(try dsimp only at h);omega)))
  all_goals (conv=>whnf)
  all_goals first
   |exact rOx [0,1,2,3,4] a0b
   |(exfalso;omega)
   |trace_state
 |true=>
 rw [hcu] at c1;have eE:b.cvE q t p=if b.cvX q t p≠0 then b.cvX q t p else if t0l (b.cvS q t p) b.n=true then 0 else 4:=by unfold Bk.cvE;rw [if_neg (by rw [hcu];simp)]
 have cL:=i0n np ps R rm hrm (by omega) hr.d;obtain ⟨e1,e2⟩:=r0N h hps hr;obtain ⟨e3,e4⟩:=g1T h hps hr;rw [e1,e2] at cL;have cC:=i0W np ps R rm hrm (by omega) hr.d;rw [e4,e3] at cC;have hLl:=e1n b h.n16 (by omega);have hL2:b.list.length<=1000:=by
  have a:=n0B b (sortS b.cs) b.m;have a2:b.m*b.n<=60*16:=l1S hbm h.n16;unfold Bk.list;omega
 have hLb:=b1L h;have hLd:∀j,(b.list.getD j px0).a<=4503599627370496:=fun j=>by
  by_cases e:j<b.list.length
  .rw [List.getD,k0n e];exact (hLb _ (g1v e)).2
  .rw [List.getD,r0b (by omega)];decide
 refine fEx Tryz.func53 ?_;repeat' ((conv=>whnf);first|refine cPx c1 ?_|refine cOx (l:= [0,1,2,3]) cL ?_|refine cOx (l:= [0,1,2,3]) cC ?_|refine a0a ?_|(apply bRx<;>intro h<;>try (exfalso;(try dsimp only at h);omega)))
 all_goals (conv=>whnf)
 all_goals first
  |(exfalso;first|omega|contradiction)
  |skip
 refine a0f (i1T np ps rm R q t p b.m b.list (sortS b.cs)) (fun x=>CvI b q t p x.1 x.2) (fun x=>b.m-x.1) (0,[]) [0,1,2,3,4,5,6,7] [.slot 12 [.sc (.strs []),.sc (.ints .i64 []),.sc (.strs [])]] wHx b1M ?_;rintro ⟨i,O⟩ hI;dsimp only at hI;unfold i1T;dsimp only;have hi:=hI.le;have hOl:=hI.len;by_cases hi2:i<b.m
 case neg=>
  have ei:i=b.m:=by omega
  have hX:b.cvX q t p=0:=by have:=hI.e;rw [ei] at this;exact this
  rw [if_neg (by rw [hX];simp)] at eE;have hrel:v0s b t O (fun j=>(b.cvS q t p).getD j 0):=by have:=hI.rel;rw [ei] at this;exact this
  have hft:=f1m h hnd hI.one.d hI.one.c hrel;obtain ⟨s1,s2⟩:=b1K h hps hI.one.d hI.one.c hrel;have cS:=i0O O O.length rfl (by omega) hI.one.d;rw [s1,s2] at cS;have eL:b.cvL q t p=liR (b.cvS q t p) b.ps t b.n:=rfl;rw [<-eL] at cS;repeat' ((conv=>whnf);first|refine a0a ?_|(apply bRx<;>intro h<;>try (exfalso;(try dsimp only at h);omega)))
  all_goals (conv=>whnf)
  all_goals first
   |(exfalso;omega)
   |skip
  refine a0f (fun k:Nat=>⟨[(12,.sl 7 0 0 O.length),(22,.int .i64 k)],rvH np ps rm R q++rvV b.m b.list (sortS b.cs) O,8⟩) (fun k=>k<=O.length/\∀x∈O.take k,f0n x.a=true) (fun k=>O.length-k) 0 [0,1,2,3,4,5,6,7] [] wHx ⟨w0F _,fun x hx=>by simp at hx⟩ ?_;rintro k ⟨hk,hf⟩;by_cases hk2:k<O.length
  .obtain ⟨b1,b2,b3⟩:=atP O k;have cF:=i0m ((a0y O).a.getD k 0);cases hfk:f0n ((a0y O).a.getD k 0) with
   |false=>
    have e4':b.cvE q t p=4:=by
     rw [eE,if_neg];intro w;have:=hft.2 w (O.getD k px0) (by rw [List.getD,k0n hk2];exact g1v _);rw [b2,this] at hfk;cases hfk
    rw [e4',if_pos (by decide)];rw [hfk] at cF;repeat' ((conv=>whnf);first|refine cPx cF ?_|refine a0a ?_|(apply bRx<;>intro h<;>try (exfalso;(try dsimp only at h);omega)))
    all_goals (conv=>whnf)
    all_goals (try simp only [a0u,p0F,w0G] at*)
    all_goals first
     |exact rOx [0,1,2,3,4] a0b
     |(exfalso;first|omega|contradiction)
     |trace_state
   |true=>
    rw [hfk] at cF;have hf2:∀x∈O.take (k+1),f0n x.a=true:=by
     rw [c0K hk2];intro x hx;rcases g1h.1 hx with w|w
     .exact hf x w
     .rw [a1A] at w;subst w;rw [<-b2];exact hfk
    repeat' ((conv=>whnf);first|refine cPx cF ?_|refine a0a ?_|(apply bRx<;>intro h<;>try (exfalso;(try dsimp only at h);omega)))
    all_goals (conv=>whnf)
    all_goals (try simp only [a0u,p0F,w0G] at*)
    all_goals first
     |exact ⟨k+1,[0,1,2,3,4,5,6,7],[],⟨hk2,hf2⟩,(show O.length-(k+1)<O.length-k by omega),⟨rfl,⟨rfl,congrArg (fun z=>some (SV.int .i64 z)) (a0e (by omega)),trivial⟩,⟨gwk rfl,rfl,rfl,rfl,rfl,rfl,rfl,rfl,trivial⟩⟩⟩
     |(exfalso;first|omega|contradiction)
     |trace_state
  .have ek:k=O.length:=by omega
   have hall:∀x∈O,f0n x.a=true:=by rw [ek,g1y] at hf;exact hf
   rw [if_pos (hft.1 hall)] at eE;rw [eE,if_neg (by decide)];generalize b.cvL q t p=LL at*;repeat' ((conv=>whnf);first|refine cOx (l:= [0,7]) cS ?_|refine a0a ?_|(apply bRx<;>intro h<;>try (exfalso;(try dsimp only at h);omega)))
   all_goals (conv=>whnf)
   all_goals first
    |exact rOx [0,1,2,3,4,8] (a0d a0b)
    |(exfalso;first|omega|contradiction)
    |trace_state
 have hcm:=b1O h hi2;have hst:=fun e=>k0G (q:=q) (b:=b) (cs:=sortS b.cs) (t:=t) (p:=p) (k:=i) (e:=e) hI.e
 have hstep:=fun O1 O2=>b1N (O1:=O1) (O2:=O2) (c:=(sortS b.cs).getD i ⟨#[]⟩) h hnd hI hi2
 generalize hcd:(sortS b.cs).getD i ⟨#[]⟩=c at hcm hst hstep;have cT:=s0b b.list b.list.length rfl (by omega) hLd c;rw [h1t h hcm] at cT;have htb:=x0m (r:=b.row c) (fun j=>(h.rb c j).2) 16;have hrow:=h.rb c;have f16:=fun s=>j1f h hcm s
 have hiO:=hI.one;have hB:(18014398509481984*(i:Int))<=1152921504606846976:=by omega
 have sumB:∀(A:Nat) (s:Int),A<=4503599627370496->∀(hs:s=1\/s= -1),∀z∈dvZ A b.list c s,-4503599627370512<=z.2/\z.2<=4503599627370512:=fun A s hA hs z hz=>by
  obtain ⟨j,_,rfl⟩:=o0m hz;have hw:∀k,k<fL b.list c s->1<=(fW b.list c s).getD k 0:=fun k hk=>by
   rw [(y0S h hcm s).1];rw [(y0S h hcm s).2] at hk;exact g1R _ _ k hk
  have h2:=x0b (A:=A) (ws:=fW b.list c s) (n:=fL b.list c s) hw j;have h3:=f16 s;have h4:0<=(dvP A b.list c s).getD j 0/\(dvP A b.list c s).getD j 0<=4503599627370512:=by
   show 0<=(spP A (fW b.list c s) (fL b.list c s)).getD j 0/\(spP A (fW b.list c s) (fL b.list c s)).getD j 0<=4503599627370512;omega
  dsimp only;rcases hs with e|e<;>subst e<;>omega
 have zl:∀(A:Nat) (s:Int),(dvZ A b.list c s).length<=16:=fun A s=>by unfold dvZ;rw [o0l];exact f16 s
 have plB:∀s,∀z∈plZ b.list c s,-4503599627370512<=z.2/\z.2<=4503599627370512:=fun s z hz=>by
  unfold plZ at hz;obtain ⟨x,hx,rfl⟩:=h1T.1 hz;have:=hLb x (j1j.1 hx).1;dsimp only;omega
 have pll:∀s,(plZ b.list c s).length<=16:=fun s=>by unfold plZ;rw [j1G];exact f16 s
 by_cases hct:c=t
 .obtain ⟨T,hT⟩:=j1F htb.1;rw [hT] at cT;have hTA:T<=9223372036854775807:=by omega
  generalize hO1:stL t (plZ b.list c 1) O=O1;generalize hO2:stL t (plZ b.list c (-1)) O1=O2;have o1:OneC t (1224979098644774912) O1:=by
   have a:=i0r hiO (V:=4503599627370512) (by decide) (plZ b.list c 1) (plB 1);rw [hO1] at a;have:=pll 1;exact ⟨a.d,a.c,fun p=>by have:=a.b p;omega⟩
  have l1:O1.length<=O.length+16:=by have a:=g0F t (plZ b.list c 1) O;rw [hO1] at a;have:=pll 1;omega
  have hinv:CvI b q t p (i+1) O2:=hstep O1 O2 rfl (plZ b.list c 1) (plZ b.list c (-1)) hO1 hO2 (plB 1) (plB (-1)) (pll 1) (pll (-1)) (.inl hct) (by
   have r1:=q0r h hnd hcm hiO.d hI.rel 1;rw [hO1] at r1;have r2:=q0r h hnd hcm o1.d r1 (-1);rw [hO2] at r2;intro p';rw [r2 p'];split
   .rename_i w;dsimp only;unfold cvR;rw [if_pos hct];have hx:=h.rb c (a0o b.ps p');by_cases w1:0<(b.row c).getD (a0o b.ps p') 0
    .rw [if_pos ⟨w,by omega⟩,if_neg (by omega)];omega
    .by_cases w2:(b.row c).getD (a0o b.ps p') 0<0
     .rw [if_neg (by omega),if_pos ⟨w,by omega⟩];omega
     .rw [if_neg (by omega),if_neg (by omega)];omega
   .rfl)
  have d1:=d0Q T hTA O b.list O.length b.list.length rfl rfl (by omega) (by omega) hLb c t 1 (.inl rfl) (f16 1) _ hiO (by omega);have d2:=d0Q T hTA O1 b.list O1.length b.list.length rfl rfl (by omega) (by omega) hLb c t (-1) (.inr rfl) (f16 (-1)) _ o1 (by omega);have hiO':OneC c (18014398509481984*(i:Int)) O:=by rw [hct];exact hiO
  have o1':OneC c (1224979098644774912) O1:=by rw [hct];exact o1
  have g1:=l0a O b.list O.length b.list.length rfl rfl (by omega) (by omega) hLb c 1 (.inl rfl) (f16 1) (c1Y h hcm (.inl rfl)) _ hiO' (by omega) O1 (by rw [<-hO1,hct]);have g2:=l0a O1 b.list O1.length b.list.length rfl rfl (by omega) (by omega) hLb c (-1) (.inr rfl) (f16 (-1)) (c1Y h hcm (.inr rfl)) _ o1' (by omega) O2 (by rw [<-hO2,hct]);unfold b1I at d1 d2;subst hct;subst hcd;generalize b.list=L at*;repeat' ((conv=>whnf);first|refine cOx (l:= [0,5]) cT ?_|refine a0a ?_|(apply bRx<;>intro h<;>try (exfalso;(try dsimp only at h);omega)))
  all_goals (conv=>whnf)
  all_goals first
   |(exfalso;first|omega|contradiction)
   |skip
  all_goals refine a0f (h1Z np ps rm R q ((sortS b.cs).getD i ⟨#[]⟩) p b.m L (sortS b.cs) i ((sortS b.cs).getD i ⟨#[]⟩) T (oo3 O O1 O2)) (fun j=>j<=2) (fun j=>3-j) 0 [0,1,2,3,4,5,6,7] [] wHx (w0F _) ?_
  intro j hj;unfold h1Z;rcases j with _|_|_|j
  .by_cases E:diE T L ((sortS b.cs).getD i ⟨#[]⟩) ((sortS b.cs).getD i ⟨#[]⟩) 1=0
   .rw [if_neg (by simpa using E)] at d1;repeat' ((conv=>whnf);first|refine cOx (l:= [0,7,5]) d1 ?_|refine cOx (l:= [0,7,5]) g1 ?_|refine a0a ?_|(apply bRx<;>intro h<;>try (exfalso;(try dsimp only at h);omega)))
    all_goals (conv=>whnf)
    all_goals first
     |exact ⟨1,[0,1,2,3,4,5,6,9],[],(by decide),(by decide),⟨rfl,⟨rfl,rfl,rfl,rfl,rfl,rfl,rfl,rfl,rfl,rfl,trivial⟩,⟨gwk rfl,rfl,rfl,rfl,rfl,rfl,rfl,rfl,trivial⟩⟩⟩
     |(exfalso;first|omega|contradiction)
     |trace_state
   .rw [if_pos E] at d1;repeat' ((conv=>whnf);first|refine cOx (l:= [0,7,5]) d1 ?_|refine cOx (l:= [0,7,5]) g1 ?_|refine a0a ?_|(apply bRx<;>intro h<;>try (exfalso;(try dsimp only at h);omega)))
    all_goals (conv=>whnf)
    all_goals first
     |exact ⟨1,[0,1,2,3,4,5,6,8],[],(by decide),(by decide),⟨rfl,⟨rfl,rfl,rfl,rfl,rfl,rfl,rfl,rfl,rfl,rfl,trivial⟩,⟨gwk rfl,rfl,rfl,rfl,rfl,rfl,rfl,rfl,trivial⟩⟩⟩
     |(exfalso;first|omega|contradiction)
     |trace_state
  .by_cases E:diE T L ((sortS b.cs).getD i ⟨#[]⟩) ((sortS b.cs).getD i ⟨#[]⟩) (-1)=0
   .rw [if_neg (by simpa using E)] at d2;repeat' ((conv=>whnf);first|refine cOx (l:= [0,7,5]) d2 ?_|refine cOx (l:= [0,7,5]) g2 ?_|refine a0a ?_|(apply bRx<;>intro h<;>try (exfalso;(try dsimp only at h);omega)))
    all_goals (conv=>whnf)
    all_goals first
     |exact ⟨2,[0,1,2,3,4,5,6,9],[],(by decide),(by decide),⟨rfl,⟨rfl,rfl,rfl,rfl,rfl,rfl,rfl,rfl,rfl,rfl,trivial⟩,⟨gwk rfl,rfl,rfl,rfl,rfl,rfl,rfl,rfl,trivial⟩⟩⟩
     |(exfalso;first|omega|contradiction)
     |trace_state
   .rw [if_pos E] at d2;repeat' ((conv=>whnf);first|refine cOx (l:= [0,7,5]) d2 ?_|refine cOx (l:= [0,7,5]) g2 ?_|refine a0a ?_|(apply bRx<;>intro h<;>try (exfalso;(try dsimp only at h);omega)))
    all_goals (conv=>whnf)
    all_goals first
     |exact ⟨2,[0,1,2,3,4,5,6,8],[],(by decide),(by decide),⟨rfl,⟨rfl,rfl,rfl,rfl,rfl,rfl,rfl,rfl,rfl,rfl,trivial⟩,⟨gwk rfl,rfl,rfl,rfl,rfl,rfl,rfl,rfl,trivial⟩⟩⟩
     |(exfalso;first|omega|contradiction)
     |trace_state
  .repeat' ((conv=>whnf);first|refine a0a ?_|(apply bRx<;>intro h<;>try (exfalso;(try dsimp only at h);omega)))
   all_goals (conv=>whnf)
   all_goals first
    |exact ⟨(i+1,O2),[0,1,2,3,4,5,6,7],[],hinv,(show b.m-(i+1)<b.m-i by omega),⟨rfl,⟨rfl,rfl,rfl,rfl,rfl,rfl,congrArg (fun z=>some (SV.int .i64 z)) (a0e (by omega)),trivial⟩,⟨gwk rfl,rfl,rfl,rfl,rfl,rfl,rfl,rfl,trivial⟩⟩⟩
    |(exfalso;first|omega|contradiction)
    |trace_state
  .omega
 have hcE:∀e,e≠0->cwE q (b.row c) c t p=e->b.cvE q t p=e:=fun e he hw=>by
  have hX:b.cvX q t p=e:=hst e hct hw he b.m hi2;rw [eE,hX,if_pos he]
 have cF:=v0f q hq hz c t p;by_cases h1:fiE q c t p=0
 case neg=>
  rw [p0M h1] at cF;rw [hcE (fiE q c t p) h1 (by unfold cwE;rw [if_pos h1]),if_pos h1];subst hcd;generalize b.list=L at*;generalize fiE q ((sortS b.cs).getD i ⟨#[]⟩) t p=er at*;repeat' ((conv=>whnf);first|refine cOx (l:= [0,5]) cT ?_|refine cOx (l:= [0,4]) cF ?_|refine a0a ?_|(apply bRx<;>intro h<;>try (exfalso;(try dsimp only at h);omega)))
  all_goals (conv=>whnf)
  all_goals first
   |exact rOx [0,1,2,3,4] a0b
   |(exfalso;first|omega|contradiction)
   |trace_state
 have hR:=c1A h1;rw [t0j h1] at cF;have hcs:c.size=3:=by
  have:=h.c3 c hcm;unfold d0M at this;simp only [k0o,decide_eq_true_eq] at this;exact this.1
 have c2:=n0E (h0v (b.row c) 16) c (fiR q c t p).f (fiR q c t p).t (fiR q c t p).n (fiR q c t p).d 4 (by omega) (by omega) (by rw [hR.2.2.1];omega) (by rw [hR.2.2.2];exact ht);have ew:cwE q (b.row c) c t p=if cwC q (b.row c) c t p≠0 then cwC q (b.row c) c t p else if dvE (cwA q (b.row c) c t p) t (b.row c) 1≠0 then dvE (cwA q (b.row c) c t p) t (b.row c) 1 else dvE (cwA q (b.row c) c t p) t (b.row c) (-1):=by unfold cwE;rw [if_neg (by simpa using h1)]
 by_cases h2:cwC q (b.row c) c t p=0
 case neg=>
  rw [d0Y (e:=cwC q (b.row c) c t p) rfl h2] at c2;rw [hcE (cwC q (b.row c) c t p) h2 (by rw [ew,if_pos h2]),if_pos h2];subst hcd;generalize b.list=L at*;generalize cwC q (b.row ((sortS b.cs).getD i ⟨#[]⟩)) ((sortS b.cs).getD i ⟨#[]⟩) t p=er at*;generalize h0v (b.row ((sortS b.cs).getD i ⟨#[]⟩)) 16=TT at*;repeat' ((conv=>whnf);first|refine cOx (l:= [0,5]) cT ?_|refine cOx (l:= [0,4]) cF ?_|refine cPx c2 ?_|refine a0a ?_|(apply bRx<;>intro h<;>try (exfalso;(try dsimp only at h);omega)))
  all_goals (conv=>whnf)
  all_goals first
   |exact rOx [0,1,2,3,4] a0b
   |(exfalso;first|omega|contradiction)
   |trace_state
 rw [if_neg (by simpa using h2)] at ew;have hnn:=x0o (a:=h0v (b.row c) 16) (n:=(fiR q c t p).n) (d:=(fiR q c t p).d) (mode:=4) htb.1 hR.1;have hsle:=x0p (a:=h0v (b.row c) 16) (n:=(fiR q c t p).n) (d:=(fiR q c t p).d) (mode:=4) htb.1 hR.1 (c1C h2);rw [t0b h2] at c2;have eA:m0i (h0v (b.row c) 16) (fiR q c t p).n (fiR q c t p).d 4=((cwA q (b.row c) c t p:Nat):Int):=(l1A hnn).symm;rw [eA] at c2;have hA:cwA q (b.row c) c t p<=4503599627370496:=by omega
 have x1:=c1X h hcm (cwA q (b.row c) c t p) t 1;have x2:=c1X h hcm (cwA q (b.row c) c t p) t (-1);rw [<-x1,<-x2] at ew;have hrel1:∀A:Nat,v0s b t (stL t (dvZ A b.list c (-1)) (stL t (dvZ A b.list c 1) O)) (fun j=>(f0O q b (sortS b.cs) t p i).getD j 0+((dvR z16 A (b.row c) 1).getD j 0+(dvR z16 A (b.row c) (-1)).getD j 0)):=fun A=>by
  have r1:=m0H h hnd hcm hiO.d hI.rel A 1;have hd1:g0A (stL t (dvZ A b.list c 1) O):=by
   have:∀(Z:List (ByteArray×Int)) (X:List Px),g0A X->g0A (stL t Z X):=by
    intro Z;induction Z with
    |nil=>intro X hX;exact hX
    |cons z Z ih=>intro X hX;exact ih _ (e0K hX _ _ _)
   exact this _ _ hiO.d
  have r2:=m0H h hnd hcm hd1 r1 A (-1);intro p';rw [r2 p'];split
  .dsimp only;omega
  .rfl
 have hcwR:∀j,(cwR q (b.row c) c t p).getD j 0=(dvR z16 (cwA q (b.row c) c t p) (b.row c) 1).getD j 0+(dvR z16 (cwA q (b.row c) c t p) (b.row c) (-1)).getD j 0:=fun j=>by
  unfold cwR;exact f1k (n:=16) (fun i hi=>by have:=l0n (b.row c) (-1) 16 i hi;omega) j
 have hcv:cvR q b t p c=cwR q (b.row c) c t p:=by unfold cvR;rw [if_neg hct]
 have hrel2:=hrel1 (cwA q (b.row c) c t p);have sB1:=sumB (cwA q (b.row c) c t p) 1 hA (.inl rfl);have sB2:=sumB (cwA q (b.row c) c t p) (-1) hA (.inr rfl);have zl1:=zl (cwA q (b.row c) c t p) 1;have zl2:=zl (cwA q (b.row c) c t p) (-1);clear hrel1 sumB zl eA hnn hsle;generalize cwA q (b.row c) c t p=A at*;have o1:OneC t (1224979098644774912) (stL t (dvZ A b.list c 1) O):=by
  have a:=i0r hiO (V:=4503599627370512) (by decide) (dvZ A b.list c 1) sB1;exact ⟨a.d,a.c,fun p=>by have:=a.b p;omega⟩
 have l1:(stL t (dvZ A b.list c 1) O).length<=O.length+16:=by have a:=g0F t (dvZ A b.list c 1) O;omega
 have hinv:cwE q (b.row c) c t p=0->CvI b q t p (i+1) (stL t (dvZ A b.list c (-1)) (stL t (dvZ A b.list c 1) O)):=fun hw=>hstep _ _ rfl (dvZ A b.list c 1) (dvZ A b.list c (-1)) rfl rfl sB1 sB2 zl1 zl2 (.inr hw) (by
   intro p';rw [hrel2 p'];split
   .dsimp only;rw [hcv,hcwR]
   .rfl)
 have d1:=d0Q A (by omega) O b.list O.length b.list.length rfl rfl (by omega) (by omega) hLb c t 1 (.inl rfl) (f16 1) _ hiO (by omega);have d2:=d0Q A (by omega) (stL t (dvZ A b.list c 1) O) b.list _ b.list.length rfl rfl (by omega) (by omega) hLb c t (-1) (.inr rfl) (f16 (-1)) _ o1 (by omega);unfold b1I at d1 d2;have he1:diE A b.list c t 1≠0->b.cvE q t p=diE A b.list c t 1:=fun w=>hcE _ w (by rw [ew,if_pos w])
 have he2:diE A b.list c t 1=0->diE A b.list c t (-1)≠0->b.cvE q t p=diE A b.list c t (-1):=fun w w2=>hcE _ w2 (by rw [ew,if_neg (by simpa using w)])
 have he3:diE A b.list c t 1=0->diE A b.list c t (-1)=0->cwE q (b.row c) c t p=0:=fun w w2=>by rw [ew,if_neg (by simpa using w)];exact w2
 clear hstep hrel2 hcwR hcv sB1 sB2 plB pll x1 x2 hLd hst hcE ew;generalize hO2:stL t (dvZ A b.list c (-1)) (stL t (dvZ A b.list c 1) O)=O2 at*;generalize hO1:stL t (dvZ A b.list c 1) O=O1 at*;generalize hE1:diE A b.list c t 1=E1 at*;generalize hE2:diE A b.list c t (-1)=E2 at*;subst hcd;generalize b.list=L at*;generalize h0v (b.row ((sortS b.cs).getD i ⟨#[]⟩)) 16=TT at*;repeat' ((conv=>whnf);first|refine cOx (l:= [0,5]) cT ?_|refine cOx (l:= [0,4]) cF ?_|refine cPx c2 ?_|refine a0a ?_|(apply bRx<;>intro h<;>try (exfalso;(try dsimp only at h);omega)))
 all_goals (conv=>whnf)
 all_goals first
  |(exfalso;first|omega|contradiction)
  |skip
 all_goals refine a0f (h1Z np ps rm R q t p b.m L (sortS b.cs) i ((sortS b.cs).getD i ⟨#[]⟩) A (oo3 O O1 O2)) (fun j=>j<=2/\(1<=j->E1=0)/\(2<=j->E2=0)) (fun j=>3-j) 0 [0,1,2,3,4,5,6,7] [] wHx ⟨w0F _,fun q=>by omega,fun q=>by omega⟩ ?_
 rintro j ⟨hj,hj1,hj2⟩;unfold h1Z;rcases j with _|_|_|j
 .by_cases E:E1=0
  .rw [if_neg (by simpa using E)] at d1;repeat' ((conv=>whnf);first|refine cOx (l:= [0,7,5]) d1 ?_|refine a0a ?_|(apply bRx<;>intro h<;>try (exfalso;(try dsimp only at h);omega)))
   all_goals (conv=>whnf)
   all_goals first
    |exact ⟨1,[0,1,2,3,4,5,6,8],[],⟨by decide,fun _=>E,fun q=>by omega⟩,(by decide),⟨rfl,⟨rfl,rfl,rfl,rfl,rfl,rfl,rfl,rfl,rfl,rfl,trivial⟩,⟨gwk rfl,rfl,rfl,rfl,rfl,rfl,rfl,rfl,trivial⟩⟩⟩
    |(exfalso;first|omega|contradiction)
    |trace_state
  .rw [if_pos E] at d1;rw [he1 E,if_pos E];repeat' ((conv=>whnf);first|refine cOx (l:= [0,7,5]) d1 ?_|refine a0a ?_|(apply bRx<;>intro h<;>try (exfalso;(try dsimp only at h);omega)))
   all_goals (conv=>whnf)
   all_goals first
    |exact rOx [0,1,2,3,4] a0b
    |(exfalso;first|omega|contradiction)
    |trace_state
 .have E0:=hj1 (n0q _);by_cases E:E2=0
  .rw [if_neg (by simpa using E)] at d2;repeat' ((conv=>whnf);first|refine cOx (l:= [0,7,5]) d2 ?_|refine a0a ?_|(apply bRx<;>intro h<;>try (exfalso;(try dsimp only at h);omega)))
   all_goals (conv=>whnf)
   all_goals first
    |exact ⟨2,[0,1,2,3,4,5,6,8],[],⟨by decide,fun _=>E0,fun _=>E⟩,(by decide),⟨rfl,⟨rfl,rfl,rfl,rfl,rfl,rfl,rfl,rfl,rfl,rfl,trivial⟩,⟨gwk rfl,rfl,rfl,rfl,rfl,rfl,rfl,rfl,trivial⟩⟩⟩
    |(exfalso;first|omega|contradiction)
    |trace_state
  .rw [if_pos E] at d2;rw [he2 E0 E,if_pos E];repeat' ((conv=>whnf);first|refine cOx (l:= [0,7,5]) d2 ?_|refine a0a ?_|(apply bRx<;>intro h<;>try (exfalso;(try dsimp only at h);omega)))
   all_goals (conv=>whnf)
   all_goals first
    |exact rOx [0,1,2,3,4] a0b
    |(exfalso;first|omega|contradiction)
    |trace_state
 .have E0:=hj1 (by omega);have E3:=hj2 (by omega);have hinv2:=hinv (he3 E0 E3);repeat' ((conv=>whnf);first|refine a0a ?_|(apply bRx<;>intro h<;>try (exfalso;(try dsimp only at h);omega)))
  all_goals (conv=>whnf)
  all_goals first
   |exact ⟨(i+1,O2),[0,1,2,3,4,5,6,7],[],hinv2,(show b.m-(i+1)<b.m-i by omega),⟨rfl,⟨rfl,rfl,rfl,rfl,rfl,rfl,congrArg (fun z=>some (SV.int .i64 z)) (a0e (by omega)),trivial⟩,⟨gwk rfl,rfl,rfl,rfl,rfl,rfl,rfl,rfl,trivial⟩⟩⟩
   |(exfalso;first|omega|contradiction)
   |trace_state
 .omega
end
section
attribute [local irreducible] a0q a0r a0k a0P
end
section
def dF (acc:Option Ps) (x:Ps):Option Ps:=if x.a<0 then (match acc with|none=>some x|some y=>if x.a<y.a then some x else some y) else acc
def eF (acc:Option Ps) (x:Ps):Option Ps:=if 0<x.a then (match acc with|none=>some x|some y=>if y.a<x.a then some x else some y) else acc
theorem f0V {x:Ps} {l:List Ps} (h:x.a=0):b0C (x::l)=b0C l:=by simp [b0C,h]
theorem h0I {x:Ps} {l:List Ps} (h:x.a≠0):b0C (x::l)=x::b0C l:=by simp [b0C,h]
theorem l0b {x:Ps} {l:List Ps}:x∈b0C l↔x∈l/\x.a≠0:=by simp [b0C]
theorem h1u {l:List Ps} (h:∀x∈l,x.a=0):b0C l= []:=by
 unfold b0C;rw [List.filter_eq_nil_iff];intro x hx;simp [h x hx]
theorem f1n:∀(l:List Ps) (acc:Option Ps),(b0C l).foldl dF acc=l.foldl dF acc
 | [],_=>rfl
 |x::l,acc=>by
  by_cases h:x.a=0
  .rw [f0V h,f1n l acc,j1u,show dF acc x=acc by unfold dF;rw [if_neg (by omega)]]
  .rw [h0I h,j1u,j1u,f1n l]
theorem f1o:∀(l:List Ps) (acc:Option Ps),(b0C l).foldl eF acc=l.foldl eF acc
 | [],_=>rfl
 |x::l,acc=>by
  by_cases h:x.a=0
  .rw [f0V h,f1o l acc,j1u,show eF acc x=acc by unfold eF;rw [if_neg (by omega)]]
  .rw [h0I h,j1u,j1u,f1o l]
theorem d0B (A:List Ps) (o k:Nat):(A.drop o).getD k ps0=A.getD (k+o) ps0:=by
 rw [List.getD,List.getD,k1W,k1l]
theorem g0f {A:List Ps} {o k:Nat} (h:o+(k+1)<=A.length):(A.drop o).take (k+1)=(A.drop o).take k++ [A.getD (k+o) ps0]:=by
 rw [e0N (by rw [j1C];omega),d0B]
theorem y0V {A:List Ps} {o:Nat}:∀k,o+k<=A.length->((A.drop o).take k).foldl dF none=(dK (a0g A).a o k).map (fun d=>A.getD (d+o) ps0)
 |0,_=>rfl
 |k+1,h=>by
  rw [g0f h,l1k,y0V k (by omega),j1u,List.foldl_nil];simp only [dK];rw [(b0v A (k+o)).2.1];cases hd:dK (a0g A).a o k with
  |none=>
   simp only [Option.map_none,dF];by_cases h1:(A.getD (k+o) ps0).a<0
   .rw [if_pos h1,if_pos h1];rfl
   .rw [if_neg h1,if_neg h1];rfl
  |some d=>
   simp only [c1m,dF];rw [(b0v A (d+o)).2.1];by_cases h1:(A.getD (k+o) ps0).a<0
   .by_cases h2:(A.getD (k+o) ps0).a<(A.getD (d+o) ps0).a
    .rw [if_pos h1,if_pos h2,if_pos ⟨h1,h2⟩];rfl
    .rw [if_pos h1,if_neg h2,if_neg (fun q=>h2 q.2)];rfl
   .rw [if_neg h1,if_neg (fun q=>h1 q.1)];rfl
theorem y0W {A:List Ps} {o:Nat}:∀k,o+k<=A.length->((A.drop o).take k).foldl eF none=(eK (a0g A).a o k).map (fun d=>A.getD (d+o) ps0)
 |0,_=>rfl
 |k+1,h=>by
  rw [g0f h,l1k,y0W k (by omega),j1u,List.foldl_nil];simp only [eK];rw [(b0v A (k+o)).2.1];cases hd:eK (a0g A).a o k with
  |none=>
   simp only [Option.map_none,eF];by_cases h1:0<(A.getD (k+o) ps0).a
   .rw [if_pos h1,if_pos h1];rfl
   .rw [if_neg h1,if_neg h1];rfl
  |some d=>
   simp only [c1m,eF];rw [(b0v A (d+o)).2.1];by_cases h1:0<(A.getD (k+o) ps0).a
   .by_cases h2:(A.getD (d+o) ps0).a<(A.getD (k+o) ps0).a
    .rw [if_pos h1,if_pos h2,if_pos ⟨h1,h2⟩];rfl
    .rw [if_pos h1,if_neg h2,if_neg (fun q=>h2 q.2)];rfl
   .rw [if_neg h1,if_neg (fun q=>h1 q.1)];rfl
def l0u (x:Tx) (r:Ps):Ps:=if r.c=x.c/\r.p=x.f then { r with a:=r.a+x.a} else if r.c=x.c/\r.p=x.t then { r with a:=r.a-x.a} else r
def b0N (A:List Ps) (x:Tx):List Ps:=A.map (l0u x)
theorem y0X (x:Tx) (r:Ps):(l0u x r).p=r.p:=by
 unfold l0u;split
 .rfl
 .split<;>rfl
theorem u0a (x:Tx) (r:Ps):(l0u x r).c=r.c:=by
 unfold l0u;split
 .rfl
 .split<;>rfl
theorem f1p {x:Tx} {r:Ps} (h:r.c≠x.c):l0u x r=r:=by
 unfold l0u;rw [if_neg (fun q=>h q.1),if_neg (fun q=>h q.1)]
theorem o0o (A:List Ps) (x:Tx):(b0N A x).length=A.length:=by simp [b0N]
theorem s0c {A:List Ps} (x:Tx) (h:g0D A):g0D (b0N A x):=by
 refine List.pairwise_map.2 (h.imp fun {a b} hab=> ?_);unfold a0W at hab⊢;rw [y0X,u0a,y0X,u0a];exact hab
theorem j0t (A:List Ps) (x:Tx) (o:Nat):(b0N A x).drop o=b0N (A.drop o) x:=(List.map_drop).symm
theorem u0b {A:List Ps} {j:Nat} (x:Tx) (hj:j<A.length):(b0N A x).getD j ps0=l0u x (A.getD j ps0):=by
 unfold b0N;rw [List.getD,a1u,List.getD,k0n hj];rfl
theorem b1P {A B:List Ps} (hl:A.length=B.length) (h:∀j,j<A.length->A.getD j ps0=B.getD j ps0):A=B:=by
 refine k1T hl fun j h1 h2=> ?_
 have:=h j h1;rw [List.getD,k0n h1,List.getD,k0n h2] at this;exact this
theorem s0d {A:List Ps} {i j:Nat} {x:Tx} (hD:b0c A) (hi:i<A.length) (hj:j<A.length) (hne:i≠j) (h1:(A.getD i ps0).p=x.f/\(A.getD i ps0).c=x.c) (h2:(A.getD j ps0).p=x.t/\(A.getD j ps0).c=x.c):q0q (q0q A i x.a) j (-x.a)=b0N A x:=by
 refine b1P (by rw [c0m,c0m,o0o]) fun k hk=> ?_
 rw [c0m,c0m] at hk;rw [u0b x hk,d0P _ (by rw [c0m];exact hj),d0P _ hi,d0P _ hi];by_cases e1:k=j
 .subst e1;rw [if_pos rfl,if_neg (fun q=>hne q.symm)];unfold l0u;rw [if_neg,if_pos ⟨h2.2,h2.1⟩]
  .rfl
  .rintro ⟨q1,q2⟩;exact hne (b0y hD hi hj ⟨h1.1.trans q2.symm,h1.2.trans q1.symm⟩)
 .rw [if_neg e1];by_cases e2:k=i
  .subst e2;rw [if_pos rfl];unfold l0u;rw [if_pos ⟨h1.2,h1.1⟩]
  .rw [if_neg e2];unfold l0u;rw [if_neg,if_neg]
   .rintro ⟨q1,q2⟩;exact e1 (b0y hD hk hj ⟨q2.trans h2.1.symm,q1.trans h2.2.symm⟩)
   .rintro ⟨q1,q2⟩;exact e2 (b0y hD hk hi ⟨q2.trans h1.1.symm,q1.trans h1.2.symm⟩)
theorem l0c (c:ByteArray) (d:Int):∀(A:List Ps) (i:Nat),i<A.length->c0N (q0q A i d) c=c0N A c+if (A.getD i ps0).c=c then d else 0
 | [],i,h=>by simp at h
 |x::A,0,h=>by
  show (if x.c=c then x.a+d else 0)+c0N A c=(if x.c=c then x.a else 0)+c0N A c+if x.c=c then d else 0
  split<;>omega
 |x::A,i+1,h=>by
  have ih:=l0c c d A i (by simpa using h);show (if x.c=c then x.a else 0)+c0N (q0q A i d) c=(if x.c=c then x.a else 0)+c0N A c+if (A.getD i ps0).c=c then d else 0
  rw [ih];omega
theorem j0u (A:List Ps) (i:Nat) (d:Int) (hi:i<A.length) (j:Nat):((q0q A i d).getD j ps0).p=(A.getD j ps0).p/\((q0q A i d).getD j ps0).c=(A.getD j ps0).c:=by
 rw [d0P d hi];split
 .rename_i q;subst q;exact ⟨rfl,rfl⟩
 .exact ⟨rfl,rfl⟩
theorem f1q {A:List Ps} {i j:Nat} {x:Tx} (hD:b0c A) (hi:i<A.length) (hj:j<A.length) (hne:i≠j) (h1:(A.getD i ps0).p=x.f/\(A.getD i ps0).c=x.c) (h2:(A.getD j ps0).p=x.t/\(A.getD j ps0).c=x.c) (c:ByteArray):c0N (b0N A x) c=c0N A c:=by
 rw [<-s0d hD hi hj hne h1 h2,l0c c _ _ _ (by rw [c0m];exact hj),l0c c _ _ _ hi,(j0u A i x.a hi j).2,h1.2,h2.2];split<;>omega
theorem c1Z {x:Tx}:∀(A:List Ps),(∀r∈A,r.a=0->¬(r.c=x.c/\(r.p=x.f\/r.p=x.t)))->b0C (b0N A x)=b0C (b0N (b0C A) x)
 | [],_=>rfl
 |r::A,h=>by
  have ih:=c1Z A (fun r hr=>h r (by simp [hr]));by_cases h0:r.a=0
  .have hk:=h r (by simp) h0;have e:l0u x r=r:=by
    unfold l0u;rw [if_neg (fun q=>hk ⟨q.1,.inl q.2⟩),if_neg (fun q=>hk ⟨q.1,.inr q.2⟩)]
   rw [f0V h0,<-ih];show b0C (l0u x r::b0N A x)=_;rw [e,f0V h0]
  .rw [h0I h0];show b0C (l0u x r::b0N A x)=b0C (l0u x r::b0N (b0C A) x);by_cases h2:(l0u x r).a=0
   .rw [f0V h2,f0V h2,ih]
   .rw [h0I h2,h0I h2,ih]
inductive PS:List Ps->List Tx->List Tx->Prop
 |done (T:List Tx):PS [] T T
 |step {R:List Ps} {T T':List Tx} {d e:Ps} {x:Tx}:0<R.length->((R.take (grN (a0g R).c 0)).foldl dF none=some d)->((R.take (grN (a0g R).c 0)).foldl eF none=some e)->x=⟨d.p,e.p,min (-d.a) e.a,(a0g R).c.getD 0 ⟨#[]⟩⟩->PS (b0C (b0N R x)) (T++ [x]) T'->PS R T T'
theorem d1a {p:ByteArray->Bool}:∀(G S:List ByteArray),(∀x∈G,p x=true)->(∀x∈S,p x=false)->(G++S).takeWhile p=G
 | [],[],_,_=>rfl
 | [],y::S,_,h=>by rw [k1F,k1g,if_neg (by rw [h y (by simp)];simp)]
 |x::G,S,hg,hs=>by rw [g1u,k1g,if_pos (hg x (by simp)),d1a G S (fun y hy=>hg y (by simp [hy])) hs]
theorem f1r {G S:List Ps} {c:ByteArray} (h0:0<G.length) (hg:∀x∈G,x.c=c) (hs:∀x∈S,x.c≠c):grN (a0g (G++S)).c 0=G.length/\(a0g (G++S)).c.getD 0 ⟨#[]⟩=c:=by
 have hc:(a0g (G++S)).c.getD 0 ⟨#[]⟩=c:=by
  cases G with
  |nil=>simp at h0
  |cons x G=>exact hg x (by simp)
 refine ⟨?_,hc⟩;unfold grN;rw [hc,k1X];show (((G++S).map Ps.c).takeWhile _).length=_;rw [h1W,d1a]
 .rw [j1G]
 .intro y hy;obtain ⟨x,hx,rfl⟩:=h1T.1 hy;exact b0M.2 (hg x hx)
 .intro y hy;obtain ⟨x,hx,rfl⟩:=h1T.1 hy;exact Bool.eq_false_iff.2 fun q=>hs x hx (b0M.1 q)
theorem s0e (V:List Int) (o:Nat):∀n,dK V o n=none->∀j,j<n->0<=V.getD (j+o) 0
 |0,_,j,hj=>by omega
 |n+1,h,j,hj=>by
  simp only [dK] at h;split at h
  .rename_i hd;split at h
   .cases h
   .by_cases e:j=n
    .subst e;omega
    .exact s0e V o n hd j (by omega)
  .split at h<;>cases h
theorem s0f (V:List Int) (o:Nat):∀n,eK V o n=none->∀j,j<n->V.getD (j+o) 0<=0
 |0,_,j,hj=>by omega
 |n+1,h,j,hj=>by
  simp only [eK] at h;split at h
  .rename_i hd;split at h
   .cases h
   .by_cases e:j=n
    .subst e;omega
    .exact s0f V o n hd j (by omega)
  .split at h<;>cases h
theorem y0Y {c:ByteArray}:∀(l:List Ps),(∀x∈l,x.c=c)->(∀x∈l,0<=x.a)->0<=c0N l c/\(c0N l c=0->∀x∈l,x.a=0)
 | [],_,_=>⟨j1T _,fun _ x hx=>by simp at hx⟩
 |y::l,hc,ha=>by
  obtain ⟨i1,i2⟩:=y0Y l (fun x hx=>hc x (by simp [hx])) (fun x hx=>ha x (by simp [hx]));have h1:=ha y (by simp);simp only [c0N];rw [if_pos (hc y (by simp))];refine ⟨by omega,fun h x hx=> ?_⟩;rcases a1q.1 hx with rfl|hx
  .omega
  .exact i2 (by omega) x hx
theorem q0t {c:ByteArray}:∀(l:List Ps),(∀x∈l,x.c=c)->(∀x∈l,x.a<=0)->c0N l c<=0/\(c0N l c=0->∀x∈l,x.a=0)
 | [],_,_=>⟨j1T _,fun _ x hx=>by simp at hx⟩
 |y::l,hc,ha=>by
  obtain ⟨i1,i2⟩:=q0t l (fun x hx=>hc x (by simp [hx])) (fun x hx=>ha x (by simp [hx]));have h1:=ha y (by simp);simp only [c0N];rw [if_pos (hc y (by simp))];refine ⟨by omega,fun h x hx=> ?_⟩;rcases a1q.1 hx with rfl|hx
  .omega
  .exact i2 (by omega) x hx
theorem d0f {A:List Ps} {o n:Nat} {x:Ps} (hl:o+n<=A.length):x∈(A.drop o).take n↔∃j,j<n/\A.getD (j+o) ps0=x:=by
 rw [a0K];have:((A.drop o).take n).length=n:=by rw [d1P,j1C];omega
 rw [this];constructor
 .rintro ⟨j,hj,e⟩;refine ⟨j,hj,?_⟩;rw [<-e,<-d0B,List.getD,List.getD,j1U,if_pos hj]
 .rintro ⟨j,hj,e⟩;refine ⟨j,hj,?_⟩;rw [<-e,<-d0B,List.getD,List.getD,j1U,if_pos hj]
theorem h0J (A:List Ps) (o n:Nat):A.drop o=(A.drop o).take n++A.drop (n+o):=by
 rw [k1l n o,<-l1P,k1o]
theorem u0c {A:List Ps} {o n:Nat} {c:ByteArray} (hl:o+n<=A.length) (hc:∀j,j<n->(A.getD (j+o) ps0).c=c) (hr:∀x∈A.drop (n+o),x.c≠c) (hs:∀c,c0N (A.drop o) c=0) (h:dK (a0g A).a o n=none\/eK (a0g A).a o n=none):b0C (A.drop o)=b0C (A.drop (n+o)):=by
 have hcg:∀x∈(A.drop o).take n,x.c=c:=fun x hx=>by
  obtain ⟨j,hj,rfl⟩:=(d0f hl).1 hx;exact hc j hj
 have h0:=hs c;rw [h0J A o n,g0C,o0c hr,l1y] at h0;have hz:∀x∈(A.drop o).take n,x.a=0:=by
  rcases h with h|h
  .have:=s0e _ _ _ h;refine (y0Y _ hcg fun x hx=> ?_).2 h0;obtain ⟨j,hj,rfl⟩:=(d0f hl).1 hx;have:=this j hj
   rwa [(b0v A (j+o)).2.1] at this
  .have:=s0f _ _ _ h;refine (q0t _ hcg fun x hx=> ?_).2 h0;obtain ⟨j,hj,rfl⟩:=(d0f hl).1 hx;have:=this j hj
   rwa [(b0v A (j+o)).2.1] at this
 rw [h0J A o n,e0P,h1u hz,k1F]
theorem d0R {A:List Ps} (h:g0D A):b0c A:=m0A h
theorem f1s {A:List Ps} {o d e:Nat} {c:ByteArray} (hD:b0c A) (hd:d+o<A.length) (he:e+o<A.length) (hne:d≠e) (h1:(A.getD (d+o) ps0).c=c) (h2:(A.getD (e+o) ps0).c=c):sgN A o d e=b0N A (sgT A o d e c):=
 s0d (x:=sgT A o d e c) hD hd he (by omega) ⟨rfl,h1⟩ ⟨rfl,h2⟩
theorem b1Q {A:List Ps} {o n d e:Nat} {c:ByteArray} {T T':List Tx} (hA:g0D A) (hl:o+n<=A.length) (hc:∀j,j<n->(A.getD (j+o) ps0).c=c) (hr:∀x∈A.drop (n+o),x.c≠c) (hd:dK (a0g A).a o n=some d) (he:eK (a0g A).a o n=some e) (h:PS (b0C ((b0N A (sgT A o d e c)).drop o)) (T++ [sgT A o d e c]) T'):PS (b0C (A.drop o)) T T':=by
 obtain ⟨f1,f2,f3,f4,f5,f6,f7⟩:=e0t hl hd he;have hcg:∀x∈b0C ((A.drop o).take n),x.c=c:=fun x hx=>by
  obtain ⟨j,hj,rfl⟩:=(d0f hl).1 (l0b.1 hx).1;exact hc j hj
 have hrg:∀x∈b0C (A.drop (n+o)),x.c≠c:=fun x hx=>hr x (l0b.1 hx).1
 have hin:A.getD (d+o) ps0∈b0C ((A.drop o).take n):=l0b.2 ⟨(d0f hl).2 ⟨d,f1,rfl⟩,by omega⟩;have hpos:0<(b0C ((A.drop o).take n)).length:=List.length_pos_of_mem hin;have hR:b0C (A.drop o)=b0C ((A.drop o).take n)++b0C (A.drop (n+o)):=by rw [<-e0P,<-h0J]
 obtain ⟨g1,g2⟩:=f1r hpos hcg hrg;have htk:(b0C (A.drop o)).take (grN (a0g (b0C (A.drop o))).c 0)=b0C ((A.drop o).take n):=by
  rw [hR,g1,List.take_left]
 refine PS.step (d:=A.getD (d+o) ps0) (e:=A.getD (e+o) ps0) (x:=sgT A o d e c) ?_ ?_ ?_ ?_ ?_
 .rw [hR,a1N];omega
 .rw [htk,f1n,y0V n hl,hd];rfl
 .rw [htk,f1o,y0W n hl,he];rfl
 .rw [hR,g2];rfl
 .rw [j0t] at h
  rwa [<-c1Z]
  intro r hr0 hz;rintro ⟨q1,q2⟩;obtain ⟨j,hj,rfl⟩:=a0K.1 hr0;rw [j1C] at hj;rw [d0B] at*;rcases q2 with q2|q2
  .have:=b0y (d0R hA) (i:=j+o) (j:=d+o) (by omega) (by omega) ⟨q2,q1.trans (hc d f1).symm⟩;rw [this] at hz;omega
  .have:=b0y (d0R hA) (i:=j+o) (j:=e+o) (by omega) (by omega) ⟨q2,q1.trans (hc e f2).symm⟩;rw [this] at hz;omega
theorem h1v {o n:Nat} {c:ByteArray}:∀(k:Nat) (A:List Ps) (T:List Tx),g0D A->o+n<=A.length->(∀j,j<n->(A.getD (j+o) ps0).c=c)->(∀x∈A.drop (n+o),x.c≠c)->(∀c,c0N (A.drop o) c=0)->cnz A o n<=k->
  g0D (stG o n c k A T).1/\(stG o n c k A T).1.length=A.length/\(stG o n c k A T).1.drop (n+o)=A.drop (n+o)/\∀T',PS (b0C (A.drop (n+o))) (stG o n c k A T).2 T'->PS (b0C (A.drop o)) T T':=by
 intro k;induction k with
 |zero=>
  intro A T hA hl hc hr hs hk;refine ⟨hA,rfl,rfl,fun T' h=> ?_⟩;by_cases hDE:dK (a0g A).a o n=none\/eK (a0g A).a o n=none
  .rw [u0c hl hc hr hs hDE];exact h
  .rw [not_or] at hDE;obtain ⟨d,hd⟩:=k1C.1 hDE.1;obtain ⟨e,he⟩:=k1C.1 hDE.2;obtain ⟨_,_,_,_,_,_,f7⟩:=e0t hl hd he;omega
 |succ k ih=>
  intro A T hA hl hc hr hs hk;by_cases hDE:dK (a0g A).a o n=none\/eK (a0g A).a o n=none
  .rw [y0G hDE];exact ⟨hA,rfl,rfl,fun T' h=>by rw [u0c hl hc hr hs hDE];exact h⟩
  .rw [not_or] at hDE;obtain ⟨d,hd⟩:=k1C.1 hDE.1;obtain ⟨e,he⟩:=k1C.1 hDE.2;obtain ⟨f1,f2,f3,f4,f5,f6,f7⟩:=e0t hl hd he;have eU:=f1s (c:=c) (d0R hA) (by omega:d+o<A.length) (by omega:e+o<A.length) f3 (hc d f1) (hc e f2);rw [t0S hd he];have hid:b0N (A.drop (n+o)) (sgT A o d e c)=A.drop (n+o):=by
    unfold b0N;refine (m1D fun r hr0=> ?_).trans (List.map_id _);exact f1p (hr r hr0)
   rw [eU] at f7⊢;have hA1:=s0c (sgT A o d e c) hA;have hl1:o+n<=(b0N A (sgT A o d e c)).length:=by rw [o0o];exact hl
   have hc1:∀j,j<n->((b0N A (sgT A o d e c)).getD (j+o) ps0).c=c:=fun j hj=>by rw [u0b _ (by omega),u0a];exact hc j hj
   have hr1:∀x∈(b0N A (sgT A o d e c)).drop (n+o),x.c≠c:=by rw [j0t,hid];exact hr
   have hs1:∀c',c0N ((b0N A (sgT A o d e c)).drop o) c'=0:=fun c'=>by
    rw [j0t,<-hs c'];have hDd:b0c (A.drop o):=(d0R hA).sublist (l1l _ _);refine f1q (i:=d) (j:=e) hDd ?_ ?_ f3 ?_ ?_ c'
    .rw [j1C];omega
    .rw [j1C];omega
    .rw [d0B];exact ⟨rfl,hc d f1⟩
    .rw [d0B];exact ⟨rfl,hc e f2⟩
   obtain ⟨i1,i2,i3,i4⟩:=ih (b0N A (sgT A o d e c)) (T++ [sgT A o d e c]) hA1 hl1 hc1 hr1 hs1 (by omega);rw [j0t _ _ (n+o),hid] at i3 i4;exact ⟨i1,i2.trans (o0o _ _),i3,fun T' h=>b1Q hA hl hc hr hd he (i4 T' h)⟩
theorem o0p {a b:ByteArray} (h:a0D a b=true):a≠b:=by
 intro e;subst e;rw [a0p] at h;cases h
theorem u0d {A:List Ps} (hA:g0D A) {i j:Nat} (hij:i<j) (hj:j<A.length):a0W (A.getD i ps0) (A.getD j ps0)=true:=by
 have:=g1z.1 hA i j (by omega) hj hij;rw [List.getD,k0n (by omega),List.getD,k0n hj];exact this
theorem f1t {A:List Ps} {o:Nat} (hA:g0D A) (ho:o<A.length):∀x∈A.drop (grN (a0g A).c o+o),x.c≠(a0g A).c.getD o ⟨#[]⟩:=by
 intro x hx;have hCl:(a0g A).c.length=A.length:=by simp [a0g]
 obtain ⟨j,hj,rfl⟩:=a0K.1 hx;rw [j1C] at hj;rw [d0B];have he:=o0g (C:=(a0g A).c) (o:=o) (by omega);rw [(b0v A _).2.2,(b0v A o).2.2] at he;rw [(b0v A o).2.2];have hg1:grN (a0g A).c o≠0:=by
  intro q;rw [q,z0z] at he;exact he rfl
 have h1:a0D (A.getD o ps0).c (A.getD (grN (a0g A).c o+o) ps0).c=true:=by
  rcases b0T.1 (u0d hA (show o<grN (a0g A).c o+o by omega) (by omega)) with q|q
  .exact q
  .exact absurd q.1.symm he
 by_cases e0:j=0
 .subst e0;rw [z0z];exact (o0p h1).symm
 .rcases b0T.1 (u0d hA (show grN (a0g A).c o+o<j+(grN (a0g A).c o+o) by omega) (by omega)) with q|q
  .exact (o0p (d0t h1 q)).symm
  .rw [<-q.1];exact (o0p h1).symm
theorem y0Z {C:List ByteArray} {o:Nat} (h:o<C.length):0<grN C o:=by
 refine Nat.pos_of_ne_zero fun q=> ?_
 have:=o0g (C:=C) (o:=o) (by omega);rw [q,z0z] at this;exact this rfl
theorem d1b:∀(f o:Nat) (A:List Ps) (T:List Tx),g0D A->A.length<=f+o->(∀c,c0N (A.drop o) c=0)->PS (b0C (A.drop o)) T (stR f o A T)
 |0,o,A,T,hA,hf,hs=>by
  rw [k1k (by omega)];exact PS.done T
 |f+1,o,A,T,hA,hf,hs=>by
  simp only [stR];by_cases ho:A.length<=o
  .rw [if_pos ho,k1k ho];exact PS.done T
  rw [if_neg ho];have hCl:(a0g A).c.length=A.length:=by simp [a0g]
  have hgl:=t0T (a0g A).c o;have hgp:=y0Z (C:=(a0g A).c) (o:=o) (by omega);have hno:=f1t hA (by omega:o<A.length);have hin:∀j,j<grN (a0g A).c o->(A.getD (j+o) ps0).c=(a0g A).c.getD o ⟨#[]⟩:=fun j hj=>by
   have:=t0U hj
   rwa [(b0v A (j+o)).2.2] at this
  obtain ⟨i1,i2,i3,i4⟩:=h1v (c:=(a0g A).c.getD o ⟨#[]⟩) (grN (a0g A).c o) A T hA (by omega) hin hno hs (t0Q _ _ _);refine i4 _ ?_;rw [<-i3];refine d1b f _ _ _ i1 (by omega) fun c=> ?_
  rw [i3];by_cases hc:c=(a0g A).c.getD o ⟨#[]⟩
  .subst hc;exact o0c hno
  .have:=hs c;rw [h0J A o (grN (a0g A).c o),g0C,o0c (L:=(A.drop o).take _),Int.zero_add] at this
   .exact this
   .intro x hx e;obtain ⟨j,hj,rfl⟩:=(d0f (by omega)).1 hx;exact hc (e.symm.trans (hin j hj))
theorem o0q {L:List Ps} (h:ckP L=0):sgP L=0/\∀c,c0N L c=0:=by
 unfold ckP at h;split at h
 .rename_i q;exact absurd h q
 .rename_i q;split at h
  .rename_i q2;exact ⟨j1Q.1 q,j0s.1 q2⟩
  .omega
theorem d1c {L:List Ps} (h:ckP L=0):PS (b0C (c0M L)) [] (seT L):=by
 obtain ⟨h1,h2⟩:=o0q h;unfold seT;rw [if_neg (fun q=>q h)];have:=d1b L.length 0 (c0M L) [] (h0E (h0H h1)) (by rw [(b0b L).length_eq];omega) (fun c=>by rw [k1X,y0q (b0b L)];exact h2 c)
 rwa [k1X] at this
end
section
theorem z0a (V:List Int):∀k,(∀j,j<k->V.getD (fK V k) 0<=V.getD j 0)/\∀j,j<fK V k->V.getD (fK V k) 0<V.getD j 0
 |0=>⟨fun j hj=>by omega,fun j hj=>by simp only [fK] at hj;omega⟩
 |k+1=>by
  obtain ⟨h1,h2⟩:=z0a V k;have hle:=f1c V k;simp only [fK];split
  .rename_i q;refine ⟨fun j hj=> ?_,fun j hj=> ?_⟩
   .by_cases e:j=k
    .subst e;exact j1T _
    .have:=h1 j (by omega);omega
   .have:=h1 j hj;omega
  .rename_i q;refine ⟨fun j hj=> ?_,fun j hj=>h2 j hj⟩;by_cases e:j=k
   .subst e;omega
   .exact h1 j (by omega)
theorem z0b (V:List Int):∀k,(∀j,j<k->V.getD j 0<=V.getD (tK V k) 0)/\∀j,j<tK V k->V.getD j 0<V.getD (tK V k) 0
 |0=>⟨fun j hj=>by omega,fun j hj=>by simp only [tK] at hj;omega⟩
 |k+1=>by
  obtain ⟨h1,h2⟩:=z0b V k;have hle:=f1d V k;simp only [tK];split
  .rename_i q;refine ⟨fun j hj=> ?_,fun j hj=> ?_⟩
   .by_cases e:j=k
    .subst e;exact j1T _
    .have:=h1 j (by omega);omega
   .have:=h1 j hj;omega
  .rename_i q;refine ⟨fun j hj=> ?_,fun j hj=>h2 j hj⟩;by_cases e:j=k
   .subst e;omega
   .exact h1 j (by omega)
theorem z0c (V:List Int):∀k d,dK V 0 k=some d->(∀j,j<k->V.getD d 0<=V.getD j 0)/\∀j,j<d->V.getD d 0<V.getD j 0
 |0,d,h=>by cases h
 |k+1,d,h=>by
  simp only [dK] at h;split at h
  .rename_i hd;have h0:=s0e V 0 k hd;split at h
   .rename_i q;cases h;simp only [w0G] at q h0;refine ⟨fun j hj=> ?_,fun j hj=> ?_⟩
    .by_cases e:j=k
     .subst e;exact j1T _
     .have:=h0 j (by omega);omega
    .have:=h0 j hj;omega
   .cases h
  .rename_i d' hd;obtain ⟨h1,h2⟩:=z0c V k d' hd;have hneg:=y0C V 0 k d' hd;simp only [w0G] at h hneg;split at h
   .rename_i q;cases h;refine ⟨fun j hj=> ?_,fun j hj=> ?_⟩
    .by_cases e:j=k
     .subst e;exact j1T _
     .have:=h1 j (by omega);omega
    .have:=h1 j hj;omega
   .rename_i q;cases h;refine ⟨fun j hj=> ?_,h2⟩;by_cases e:j=k
    .subst e;omega
    .exact h1 j (by omega)
theorem z0d (V:List Int):∀k d,eK V 0 k=some d->(∀j,j<k->V.getD j 0<=V.getD d 0)/\∀j,j<d->V.getD j 0<V.getD d 0
 |0,d,h=>by cases h
 |k+1,d,h=>by
  simp only [eK] at h;split at h
  .rename_i hd;have h0:=s0f V 0 k hd;split at h
   .rename_i q;cases h;simp only [w0G] at q h0;refine ⟨fun j hj=> ?_,fun j hj=> ?_⟩
    .by_cases e:j=k
     .subst e;exact j1T _
     .have:=h0 j (by omega);omega
    .have:=h0 j hj;omega
   .cases h
  .rename_i d' hd;obtain ⟨h1,h2⟩:=z0d V k d' hd;have hneg:=y0D V 0 k d' hd;simp only [w0G] at h hneg;split at h
   .rename_i q;cases h;refine ⟨fun j hj=> ?_,fun j hj=> ?_⟩
    .by_cases e:j=k
     .subst e;exact j1T _
     .have:=h1 j (by omega);omega
    .have:=h1 j hj;omega
   .rename_i q;cases h;refine ⟨fun j hj=> ?_,h2⟩;by_cases e:j=k
    .subst e;omega
    .exact h1 j (by omega)
theorem i1G {V:List Int} {g d:Nat} (h:dK V 0 g=some d):fK V g=d:=by
 have hlt:=b1E V 0 g d h;obtain ⟨h1,h2⟩:=z0c V g d h;obtain ⟨k1,k2⟩:=z0a V g;have hf:=h1j V (show 0<g by omega);rcases j1P (fK V g) d with q|q|q
 .have a1:=h2 _ q;have a2:=k1 d hlt;omega
 .exact q
 .have a1:=k2 _ q;have a2:=h1 _ hf;omega
theorem i1H {V:List Int} {g d:Nat} (h:eK V 0 g=some d):tK V g=d:=by
 have hlt:=b1F V 0 g d h;obtain ⟨h1,h2⟩:=z0d V g d h;obtain ⟨k1,k2⟩:=z0b V g;have hf:=h1k V (show 0<g by omega);rcases j1P (tK V g) d with q|q|q
 .have a1:=h2 _ q;have a2:=k1 d hlt;omega
 .exact q
 .have a1:=k2 _ q;have a2:=h1 _ hf;omega
structure StepK (R:List Ps) (d e:Nat) (x:Tx):Prop where
 d1:d<R.length
 e1:e<R.length
 ne:d≠e
 dk:(R.getD d ps0).p=x.f/\(R.getD d ps0).c=x.c
 ek:(R.getD e ps0).p=x.t/\(R.getD e ps0).c=x.c
 dn:(R.getD d ps0).a<0
 ep:0<(R.getD e ps0).a
 am:x.a=min (-(R.getD d ps0).a) (R.getD e ps0).a
structure StepI (R:List Ps) (d e:Nat) (x:Tx):Prop extends StepK R d e x where
 cc:x.c=(R.getD 0 ps0).c
theorem u0e {R:List Ps} {d0 e0:Ps} {x:Tx} (h0:0<R.length) (hd:(R.take (grN (a0g R).c 0)).foldl dF none=some d0) (he:(R.take (grN (a0g R).c 0)).foldl eF none=some e0) (hx:x=⟨d0.p,e0.p,min (-d0.a) e0.a,(a0g R).c.getD 0 ⟨#[]⟩⟩):∃d e,StepI R d e x/\fK (a0g R).a (grN (a0g R).c 0)=d/\tK (a0g R).a (grN (a0g R).c 0)=e:=by
 have hgl:=t0T (a0g R).c 0;rw [show (a0g R).c.length=R.length by simp [a0g],Nat.sub_zero] at hgl;have r1:=y0V (A:=R) (o:=0) (grN (a0g R).c 0) (by omega);have r2:=y0W (A:=R) (o:=0) (grN (a0g R).c 0) (by omega);rw [k1X,hd] at r1;rw [k1X,he] at r2;have hin:∀j,j<grN (a0g R).c 0->(R.getD j ps0).c=(a0g R).c.getD 0 ⟨#[]⟩:=fun j hj=>by
  have:=t0U hj
  rwa [(b0v R (j+0)).2.2] at this
 cases hdk:dK (a0g R).a 0 (grN (a0g R).c 0) with
 |none=>rw [hdk] at r1;cases r1
 |some d=>
  cases hek:eK (a0g R).a 0 (grN (a0g R).c 0) with
  |none=>rw [hek] at r2;cases r2
  |some e=>
   rw [hdk] at r1;rw [hek] at r2;simp only [c1m,Option.some.injEq,w0G] at r1 r2;subst r1;subst r2;obtain ⟨f1,f2,f3,f4,f5,_,_⟩:=e0t (A:=R) (o:=0) (by omega) hdk hek;refine ⟨d,e,⟨⟨by omega,by omega,f3,?_,?_,f4,f5,?_⟩,?_⟩,i1G hdk,i1H hek⟩
   .rw [hx];exact ⟨rfl,hin d f1⟩
   .rw [hx];exact ⟨rfl,hin e f2⟩
   .rw [hx]
   .rw [hx];exact (b0v R 0).2.2
theorem h1w {R:List Ps} {T T':List Tx} (h:PS R T T') (h0:0<R.length):∃d e x,StepI R d e x/\fK (a0g R).a (grN (a0g R).c 0)=d/\tK (a0g R).a (grN (a0g R).c 0)=e/\PS (b0C (b0N R x)) (T++ [x]) T':=by
 cases h with
 |done=>simp at h0
 | @step _ _ _ d0 e0 x _ hd he hx hn=>
   obtain ⟨d,e,hS,h1,h2⟩:=u0e h0 hd he hx;exact ⟨d,e,x,hS,h1,h2,hn⟩
theorem h1x {M:List Ps->List Tx->List Tx->Prop} (done:∀T,M [] T T) (step:∀R T T' d e x,StepI R d e x->PS (b0C (b0N R x)) (T++ [x]) T'->M (b0C (b0N R x)) (T++ [x]) T'->M R T T') {R:List Ps} {T T':List Tx} (h:PS R T T'):M R T T':=by
 induction h with
 |done T=>exact done T
 | @step R T T' d0 e0 x h0 hd he hx hn ih=>
   obtain ⟨d,e,hS,_,_⟩:=u0e h0 hd he hx;exact step R T T' d e x hS hn ih
structure RfI (R:List Ps):Prop where
 asc:g0D R
 no:∀x∈R,x.a≠0
 ok:∀x∈R,b0f x.p=true/\b0O x.a x.c=0
 len:R.length<=400
theorem z0e {L:List Ps}:∀n,(∀k,k<n->erP L k=0)->sgE L n=0
 |0,_=>rfl
 |n+1,h=>by
  have ih:=z0e n (fun k hk=>h k (by omega));simp only [sgE];rw [if_neg (by omega)];exact h n (by omega)
theorem h1y {R:List Ps} (hl:R.length<=512) (hD:b0c R) (hok:∀x∈R,b0f x.p=true/\b0O x.a x.c=0):sgP R=0:=by
 unfold sgP;rw [if_neg (by omega)];refine z0e _ fun k hk=> ?_
 have hx:=hok _ (a0K.2 ⟨k,hk,rfl⟩);unfold erP;rw [if_neg (by rw [hx.1];simp),if_neg (by rw [hx.2];simp),if_neg];intro q;have hkl:(R.take k).length=k:=by rw [d1P];omega
 have:=(f0T (R.getD k ps0).p (R.getD k ps0).c (R.take k)).1 (by omega);obtain ⟨y,hy,hc,hp⟩:=this;obtain ⟨j,hj,rfl⟩:=a0K.1 hy;rw [hkl] at hj;have e:(R.take k).getD j ps0=R.getD j ps0:=by rw [List.getD,List.getD,j1U,if_pos hj]
 rw [e] at hc hp;have:=b0y hD (by omega:j<R.length) hk ⟨hp,hc⟩;omega
theorem z0f {R:List Ps} {i:Nat} (d:Int) (hD:b0c R) (hi:i<R.length):mvR R (R.getD i ps0).p (R.getD i ps0).c d=q0q R i d/\mvN R (R.getD i ps0).p (R.getD i ps0).c d=(R.getD i ps0).a+d:=by
 unfold mvR mvN q0q;rw [e1Y hD hi,o0d hi];exact ⟨rfl,rfl⟩
theorem z0g {a b:Int} {c:ByteArray} (h:b0O a c=0) (hb:inT b):b0O b c=0:=by
 have:=(e0O h).1;unfold b0O;rw [if_neg (by rw [this];simp),if_pos hb]
theorem z0h {R:List Ps} (hD:b0c R) {i:Nat} (hi:i<R.length) (d:Int):b0c (q0q R i d):=by
 refine r0U fun k j hk hj q=> ?_
 rw [c0m] at hk;have k1:=j0u R i d hi k;have k2:=j0u R i d hi j;have:=b0y hD (show j<R.length by omega) hk ⟨k2.1.symm.trans (q.1.trans k1.1),k2.2.symm.trans (q.2.trans k1.2)⟩;omega
theorem d1d {R:List Ps} {d e:Nat} {x:Tx} (hS:StepK R d e x) (hD:b0c R):apN R x=b0N R x/\mvN R x.f x.c x.a=(R.getD d ps0).a+x.a/\mvN (mvR R x.f x.c x.a) x.t x.c (-x.a)=(R.getD e ps0).a-x.a:=by
 obtain ⟨m1,m2⟩:=z0f (i:=d) x.a hD hS.d1;rw [hS.dk.1,hS.dk.2] at m1 m2;have kE:=j0u R d x.a hS.d1 e;have hE:(q0q R d x.a).getD e ps0=R.getD e ps0:=by rw [d0P _ hS.d1,if_neg (fun q=>hS.ne q.symm)]
 obtain ⟨n1,n2⟩:=z0f (R:=q0q R d x.a) (i:=e) (-x.a) (z0h hD hS.d1 _) (by rw [c0m];exact hS.e1);rw [hE,hS.ek.1,hS.ek.2] at n1 n2;refine ⟨?_,m2,?_⟩
 .unfold apN;rw [m1,n1];exact s0d hD hS.d1 hS.e1 hS.ne hS.dk hS.ek
 .rw [m1,n2];rfl
theorem h1z {R:List Ps} {d e:Nat} {x:Tx} (hS:StepK R d e x) (hD:b0c R) (hok:∀x∈R,b0f x.p=true/\b0O x.a x.c=0):apE R x=0:=by
 obtain ⟨_,m1,m2⟩:=d1d hS hD;have o1:=hok _ (a0K.2 ⟨d,hS.d1,rfl⟩);have o2:=hok _ (a0K.2 ⟨e,hS.e1,rfl⟩);have b1:=(e0O o1.2).2;have b2:=(e0O o2.2).2;have hdn:=hS.dn;have hep:=hS.ep;have ham:=hS.am;unfold apE;rw [m1,m2,if_neg,if_neg,if_neg,if_neg]
 .exact fun q=>q ⟨by omega,by omega⟩
 .exact fun q=>q ⟨by omega,by omega⟩
 .rw [<-hS.dk.2,z0g o1.2 ⟨by omega,by omega⟩];simp
 .rw [<-hS.dk.1,<-hS.ek.1,o1.1,o2.1];simp
theorem h1A {R:List Ps} {d e:Nat} {x:Tx} (hS:StepK R d e x) (hD:b0c R) (hok:∀x∈R,b0f x.p=true/\b0O x.a x.c=0):∀x'∈b0N R x,b0f x'.p=true/\b0O x'.a x'.c=0:=by
 intro y hy;obtain ⟨r,hr,rfl⟩:=h1T.1 hy;have o0:=hok r hr;have o1:=hok _ (a0K.2 ⟨d,hS.d1,rfl⟩);have o2:=hok _ (a0K.2 ⟨e,hS.e1,rfl⟩);have b1:=(e0O o1.2).2;have b2:=(e0O o2.2).2;have hdn:=hS.dn;have hep:=hS.ep;have ham:=hS.am;rw [y0X,u0a];refine ⟨o0.1,z0g o0.2 ?_⟩;obtain ⟨j,hj,rfl⟩:=a0K.1 hr;unfold l0u;split
 .rename_i q;have:=b0y hD hj hS.d1 ⟨q.2.trans hS.dk.1.symm,q.1.trans hS.dk.2.symm⟩;subst this;exact ⟨by dsimp only;omega,by dsimp only;omega⟩
 .split
  .rename_i q;have:=b0y hD hj hS.e1 ⟨q.2.trans hS.ek.1.symm,q.1.trans hS.ek.2.symm⟩;subst this;exact ⟨by dsimp only;omega,by dsimp only;omega⟩
  .exact (e0O o0.2).2
theorem h1B {R:List Ps} {d e:Nat} {x:Tx} (hS:StepK R d e x) (hD:b0c R):(l0u x (R.getD d ps0)).a=(R.getD d ps0).a+x.a/\(l0u x (R.getD e ps0)).a=(R.getD e ps0).a-x.a:=by
 unfold l0u;rw [if_pos ⟨hS.dk.2,hS.dk.1⟩,if_neg,if_pos ⟨hS.ek.2,hS.ek.1⟩]
 .exact ⟨rfl,rfl⟩
 .rintro ⟨q1,q2⟩;exact hS.ne (b0y hD hS.d1 hS.e1 ⟨hS.dk.1.trans q2.symm,hS.dk.2.trans q1.symm⟩)
theorem o0r {R:List Ps} {d e:Nat} {x:Tx} (hS:StepK R d e x) (hD:b0c R):(b0C (b0N R x)).length<R.length:=by
 rw [<-o0o R x];obtain ⟨u1,u2⟩:=h1B hS hD;have ham:=hS.am;refine List.length_filter_lt_length_iff_exists.2 ?_;by_cases q: -(R.getD d ps0).a<=(R.getD e ps0).a
 .exact ⟨_,l1a (a0K.2 ⟨d,hS.d1,rfl⟩),by rw [u1,show (R.getD d ps0).a+x.a=0 by rw [ham,Int.min_eq_left q];omega];simp⟩
 .exact ⟨_,l1a (a0K.2 ⟨e,hS.e1,rfl⟩),by rw [u2,show (R.getD e ps0).a-x.a=0 by rw [ham,Int.min_eq_right (by omega)];omega];simp⟩
theorem u0f {R:List Ps} {d e:Nat} {x:Tx} (hS:StepK R d e x) (hI:RfI R):RfI (b0C (b0N R x)):=by
 have hD:=d0R hI.asc;refine ⟨(s0c x hI.asc).sublist k1E,fun y hy=>(l0b.1 hy).2,fun y hy=>h1A hS hD hI.ok y (l0b.1 hy).1,?_⟩;have h1:=o0r hS hD;have h2:=hI.len;omega
theorem b1R {R:List Ps} (h:g0D R):c0M R=R:=j0r (List.Perm.refl _) h
theorem f1u {R:List Ps} {d e:Nat} {x:Tx} (hS:StepK R d e x) (hI:RfI R):i0X R [x]=0/\r0W R [x]=b0C (b0N R x):=by
 have hD:=d0R hI.asc;have hl:=hI.len;have h0:=h1y (by omega) hD hI.ok;have h1:=h1z hS hD hI.ok;have h2:=(d1d hS hD).1;have e1:apK R [x] 1=(0,b0N R x):=by
  have:apK R [x] 1=(apE R x,apN R x):=o0e (k:=0) (T:= [x]) rfl;rw [this,h1,h2]
 have he:i0X R [x]=0:=by
  unfold i0X;rw [if_neg (fun q=>q h0)];exact congrArg Prod.fst e1
 refine ⟨he,?_⟩;unfold r0W;rw [if_neg (fun q=>q he)];show c0M (b0C (apK R [x] 1).2)=_;rw [e1];exact b1R ((s0c x hI.asc).sublist k1E)
theorem d1e {L:List Ps} (h:sgP L=0) (hl:L.length<=400):RfI (b0C (c0M L)):=by
 refine ⟨(h0E (h0H h)).sublist k1E,fun y hy=>(l0b.1 hy).2,fun y hy=> ?_,?_⟩
 .have hm:=(b0b L).subset (l0b.1 hy).1;obtain ⟨j,hj,rfl⟩:=a0K.1 hm;have:=o0a ((h0G h).2 j hj);exact ⟨this.1,this.2.1⟩
 .have h1:=y0z (c0M L);have h2:=(b0b L).length_eq;omega
end
section
attribute [local irreducible] a0q a0r a0k a0P
theorem o0s {s:ByteArray} (h:b0f s=true):s.size<=100000:=by
 unfold b0f at h;rw [k0o,decide_eq_true_iff] at h;omega
theorem h1C {R:List Ps} (h:RfI R):SmP R:=by
 intro k;by_cases hk:k<R.length
 .exact o0s (h.ok _ (a0K.2 ⟨k,hk,rfl⟩)).1
 .rw [List.getD,r0b (by omega)];decide
theorem h1D {R:List Ps} (h:RfI R):∀k,inT ((a0g R).a.getD k 0):=by
 intro k;rw [(b0v R k).2.1];by_cases hk:k<R.length
 .exact (e0O (h.ok _ (a0K.2 ⟨k,hk,rfl⟩)).2).2
 .rw [List.getD,r0b (by omega)];exact ⟨by decide,by decide⟩
structure SfI (L R:List Ps) (T:List Tx) (k m:Nat):Prop where
 ps:PS R T (seT L)
 ok:RfI R
 rk:R.length=k
 tm:T.length=m
 tl:m+k<=L.length
theorem h1E {T:List Tx} {m:Nat} (x:Tx):(some (HB.one false (.cols (m+1) [.sc (.strs ((b0l T).f++ [x.f])),.sc (.strs ((b0l T).t++ [x.t])),.sc (.ints .i64 ((b0l T).a++ [x.a])),.sc (.strs ((b0l T).c++ [x.c]))])):Option HB)=some (.one false (txB (m+1) (b0l (T++ [x])))):=by
 unfold txB b0l;simp only [h1W,j1D,k1H]
theorem v0u (L:List Ps) (N:Nat) (hn:L.length=N) (hl:N<=200) (hsm:SmP L):FC Tryz.prog 2 54 [.sl 1 0 0 N] [(1,some (.one true (psB N (a0g L))))] (v0q L):=by
 have c1:=y0t L N hn (by omega) hsm;unfold v0q;by_cases hck:ckP L≠0
 .rw [if_pos hck];generalize ckP L=ck at*;refine fEx Tryz.func54 ?_;repeat' ((conv=>whnf);first|refine cOx (l:= [0,1]) c1 ?_|refine a0a ?_|(apply bRx<;>intro h<;>try (exfalso;(try dsimp only at h);omega)))
  all_goals (conv=>whnf)
  all_goals first
   |exact rOx [0,1] a0b
   |(exfalso;omega)
   |trace_state
 rw [if_neg hck];have hz:=j1Q.1 hck;rw [hz] at c1;have hsg:=(o0q hz).1;have c2:=m0G L N hn (by omega) (h0H hsg);have h0:SfI L (b0C (c0M L)) [] (b0C L).length 0:=⟨d1c hz,d1e hsg (by omega),(((b0b L).filter _).length_eq),rfl,by have:=y0z L;omega⟩;rw [show b0C (c0M L)=c0M (b0C L) from ((j0r ((b0b L).filter _) ((h0E (h0H hsg)).sublist k1E))).symm] at h0;refine fEx Tryz.func54 ?_;repeat' ((conv=>whnf);first|refine cOx (l:= [0,1]) c1 ?_|refine cOx (l:= [0,1]) c2 ?_|refine a0a ?_|(apply bRx<;>intro h<;>try (exfalso;(try dsimp only at h);omega)))
 all_goals (conv=>whnf)
 refine a0f (fun x:Nat×Nat×List Ps×List Tx=>⟨[(5,.sl 3 0 0 x.2.1),(6,.sl 2 0 0 x.1)],[(2,some (.one false (psB x.1 (a0g x.2.2.1)))),(3,some (.one false (txB x.2.1 (b0l x.2.2.2))))],4⟩) (fun x=>SfI L x.2.2.1 x.2.2.2 x.1 x.2.1) (fun x=>x.1) ((b0C L).length,0,c0M (b0C L),[]) [0,1,2,3] [.slot 5 [.sc (.strs []),.sc (.strs []),.sc (.ints .i64 []),.sc (.strs [])]] wHx h0 ?_;rintro ⟨k,m,R,T⟩ hI;dsimp only at hI;dsimp only;obtain ⟨hps,hok,hk,hm,htl⟩:=hI;by_cases hk0:0<k
 .obtain ⟨d,e,x,hS,hfd,hte,hnx⟩:=h1w hps (by omega);have hgl:=t0T (a0g R).c 0;have hgp:=y0Z (C:=(a0g R).c) (o:=0) (by simp [a0g];omega);have hCl:(a0g R).c.length=k:=by simp [a0g,hk]
  rw [hCl] at hgl;have cF:=y0A R k (grN (a0g R).c 0) hk (by omega) hgp (by omega) (fun j hj=>t0U hj) (fun q=>by have:=o0g (C:=(a0g R).c) (o:=0) (by omega);rwa [w0G] at this) (h1D hok);rw [hfd,hte,(b0v R d).1,(b0v R e).1,(b0v R d).2.1,(b0v R e).2.1,(b0v R 0).2.2,<-hS.am,hS.dk.1,hS.ek.1,<-hS.cc] at cF;obtain ⟨a1,a2⟩:=f1u hS.toStepK hok;have hrl:=hok.len;have hx1:SmT [x]:=by
   intro j;cases j with
   |zero=>
    have o1:=(hok.ok _ (a0K.2 ⟨d,hS.d1,rfl⟩)).1;have o2:=(hok.ok _ (a0K.2 ⟨e,hS.e1,rfl⟩)).1;rw [hS.dk.1] at o1;rw [hS.ek.1] at o2;exact ⟨o0s o1,o0s o2⟩
   |succ j=>exact ⟨w0F _,w0F _⟩
  have cA:=y0y R [x] k 1 hk rfl (by omega) (by omega) (h1C hok) hx1;unfold f1b at cA;rw [if_neg (fun q=>q a1),a2] at cA;have hok2:=u0f hS.toStepK hok;have hlt:=o0r hS.toStepK (d0R hok.asc);generalize hQ:b0C (b0N R x)=Q at*;have hI2:SfI L Q (T++ [x]) Q.length (m+1):=⟨hnx,hok2,rfl,by rw [a1N,hm];rfl,by omega⟩;clear hps hnx h0 c1 c2;have hr3:=h1E (T:=T) (m:=m) x;obtain ⟨xf,xt,xa,xc⟩:=x;dsimp only at cF;dsimp only at hr3;repeat' ((conv=>whnf);first|refine cOx (l:= [0,2]) cF ?_|refine cOx (l:= [0,2,7]) cA ?_|refine a0a ?_|(apply bRx<;>intro h<;>try (exfalso;(try dsimp only at h);omega)))
  all_goals (conv=>whnf)
  refine ⟨(Q.length,m+1,Q,T++ [⟨xf,xt,xa,xc⟩]),[0,1,8,6],[],hI2,(show Q.length<k by omega),?_⟩;refine ⟨rfl,⟨?_,?_,trivial⟩,⟨?_,?_,trivial⟩⟩
  .rfl
  .rfl
  .rfl
  .exact hr3
 .have e:k=0:=by omega
  subst e;have hR:=l1D.1 hk;subst hR;have hT:seT L=T:=by cases hps with
   |done=>rfl
   |step h=>simp at h
  rw [hT,hm];repeat' ((conv=>whnf);first|refine a0a ?_|(apply bRx<;>intro h<;>try (exfalso;(try dsimp only at h);omega)))
  all_goals (conv=>whnf)
  all_goals first
   |exact rOx [0,1,3] (a0d a0b)
   |(exfalso;omega)
   |trace_state
end
section
attribute [local irreducible] a0q a0r a0k a0P sortI
theorem l0v {b:Bk} (h:BkI b 4503599627370496) {np:Nat} (hnp:b.n=np) (hps:b.ps.Pairwise (fun a b=>a0D a b=true)) {L:List Rc} {m i:Nat} (hi:i<m) (pr:List ByteArray) (hr:RlB b (L.getD i rc0).R) (hrl:(L.getD i rc0).R.length<=1000) (hbm:b.m<=60) (q:RL) (hq:q.l<=1000) (hz:∀i,(q.at i).f.size<=9223372036854775807/\(q.at i).t.size<=9223372036854775807) (t p:ByteArray) (ht:t.size<=9223372036854775807):
  FC Tryz.prog 5 53 [.ptr 1 i 0 0,.sl 4 0 0 q.l,.str t,.str p] [(0,some (GB glT)),(4,some (.one true (rlB q))),(1,fmB true m (g7q 2 L 3 np)),(2,some (.one true (.cols np [.sc (.strs pr)]))),(3,fmB true m (g8 L))] (i0V b q t p):=by
 have c0:=o0n h hnp pr hps hr rfl hrl hbm q hq hz t p ht;have e:SV.mems (fmu [(1,⟨i,fun x=>x<m,g7q 2 L 3 np⟩),(3,⟨i,fun x=>x<m,g8 L⟩)]) [.ptr 1 0 0 0,.sl 4 0 0 q.l,.str t,.str p]= [.ptr 1 i 0 0,.sl 4 0 0 q.l,.str t,.str p]:=by
  show [SV.ptr 1 (0+i) 0 0,.sl 4 (0+0) 0 q.l,.str t,.str p]=_;rw [z0z]
 have eH:a1P [(1,⟨i,fun x=>x<m,g7q 2 L 3 np⟩),(3,⟨i,fun x=>x<m,g8 L⟩)] (rvH np pr (L.getD i rc0).R.length (L.getD i rc0).R q)= [(0,some (GB glT)),(4,some (.one true (rlB q))),(1,fmB true m (g7q 2 L 3 np)),(2,some (.one true (.cols np [.sc (.strs pr)]))),(3,fmB true m (g8 L))]:=by
  show (0,some (l0r _ 0 (GB glT)))::_=_;rw [x0X];rfl
 unfold i0V at c0⊢;by_cases hz:b.cvE q t p≠0
 .rw [if_pos hz] at c0⊢;have c:=f0r [(1,⟨i,fun x=>x<m,g7q 2 L 3 np⟩),(3,⟨i,fun x=>x<m,g8 L⟩)] (by
   refine ⟨⟨by decide,by decide,_,_,rfl,hi,?_,.inl rfl⟩,⟨by decide,by decide,_,_,rfl,hi,rfl,.inl rfl⟩,trivial⟩;show Blk.cells [.sl 2 0 0 np,.sl 3 i 0 _]= .cells [.sl 2 0 0 np,.sl 3 (0+i) 0 _];rw [z0z]) (by exact ⟨q0a _ _,rfl,rfl,rfl,rfl,trivial⟩) (by exact trivial) a0b c0
  rw [e,eH] at c;exact c
 .rw [if_neg hz] at c0⊢;have c:=f0r [(1,⟨i,fun x=>x<m,g7q 2 L 3 np⟩),(3,⟨i,fun x=>x<m,g8 L⟩)] (by
   refine ⟨⟨by decide,by decide,_,_,rfl,hi,?_,.inl rfl⟩,⟨by decide,by decide,_,_,rfl,hi,rfl,.inl rfl⟩,trivial⟩;show Blk.cells [.sl 2 0 0 np,.sl 3 i 0 _]= .cells [.sl 2 0 0 np,.sl 3 (0+i) 0 _];rw [z0z]) (by exact ⟨q0a _ _,rfl,rfl,rfl,rfl,trivial⟩) (by exact ⟨rfl,trivial⟩) (a0d a0b) c0
  rw [e,eH] at c;exact c
abbrev j1g (np m:Nat) (cut:Int) (L:List Rc) (pr:List ByteArray) (q:RL):a0j:=(9,some (.one true (rlB q)))::(0,some (GB glT))::rpR np m cut L pr
def rsO (b:Bk) (shut:Bool) (q:RL) (t p:ByteArray):SV->a0j->Nat->Prop:=
 if shut=true then (if b.cvE q t p≠0 then a0h (.tup [.nsl,.int .i64 (b.cvE q t p)]) [] 10 else if ckP (psL (b.cvL q t p))≠0 then a0h (.tup [.nsl,.int .i64 (ckP (psL (b.cvL q t p)))]) [] 10 else a0h (.tup [.sl 10 0 0 (seT (psL (b.cvL q t p))).length,.int .i64 0]) [(10,some (.one false (txB (seT (psL (b.cvL q t p))).length (b0l (seT (psL (b.cvL q t p)))))))] 11)
 else a0h (.tup [.nsl,.int .i64 8]) [] 10
set_option maxHeartbeats 1000000 in
theorem v0v {b:Bk} (h:BkI b 4503599627370496) {np:Nat} (hnp:b.n=np) (hps:b.ps.Pairwise (fun a b=>a0D a b=true)) {L:List Rc} {m:Nat} (hL:L.length=m) (hm:m<=1000) (pr:List ByteArray) (cut d:Int) (hr:RlB b (b0a L d).R) (hrl:(b0a L d).R.length<=1000) (hbm:b.m<=60) (q:RL) (hq:q.l<=1000) (hz:∀i,(q.at i).f.size<=9223372036854775807/\(q.at i).t.size<=9223372036854775807) (t p:ByteArray) (ht:t.size<=9223372036854775807) (hsm:SmP (psL (b.cvL q t p))):
  FC Tryz.prog 10 28 [.ptr 1 0 0 0,.int .i64 d,.sl 9 0 0 q.l,.str t,.str p] (j1g np m cut L pr q) (rsO b (b0a L d).cl q t p):=by
 have c1:=f0R L m hL (by omega) np cut d;unfold rsO;cases hcl:(b0a L d).cl with
 |false=>
  rw [hcl] at c1;rw [if_neg (by simp)];refine fEx Tryz.func28 ?_;repeat' ((conv=>whnf);first|refine cOx (l:= [0,1,2,3,4,5,6,7,8]) c1 ?_|refine a0a ?_|(apply bRx<;>intro h<;>try (exfalso;(try dsimp only at h);omega)))
  all_goals (conv=>whnf)
  all_goals first
   |exact rOx [0,1,2,3,4,5,6,7,8,9] a0b
   |(exfalso;omega)
   |trace_state
 |true=>
  have hmem:d∈rcD L:=by
   by_cases hx:d∈rcD L
   .exact hx
   .exfalso;unfold b0a at hcl;rw [if_neg hx] at hcl;cases hcl
  rw [hcl] at c1;rw [if_pos rfl];have hi:a0F (rcD L) d<m:=by have:=(d0O hmem).1;omega
  have hat:b0a L d=L.getD (a0F (rcD L) d) rc0:=if_pos hmem;have cf:=h0B L m hL (by omega) np cut d;unfold rfV at cf;rw [if_pos hmem] at cf;rw [hat] at hr hrl;clear hat hcl;generalize a0F (rcD L) d=i at*;have hn16:=h.n16;have hlen:(b.cvL q t p).length<=16:=g1x (g0s _ _ _ _) hn16;have cN:=v0u (psL (b.cvL q t p)) (b.cvL q t p).length (r0Y _) (by omega) hsm;rw [y0I] at cN;dsimp only [v0q] at cN;have c4:=l0v h hnp hps hi pr hr hrl hbm q hq hz t p ht;unfold i0V at c4;by_cases hk0:b.cvE q t p=0
  case neg=>
   rw [if_pos hk0] at c4⊢;generalize b.cvE q t p=e at*;refine fEx Tryz.func28 ?_;repeat' ((conv=>whnf);first|refine cOx (l:= [0,1,2,3,4,5,6,7,8]) c1 ?_|refine cOx (l:= [0,1,2,3,4,5,6,7,8]) cf ?_|refine cOx (l:= [0,7,4,8,9]) c4 ?_|refine a0a ?_|(apply bRx<;>intro h<;>try (exfalso;(try dsimp only at h);omega)))
   all_goals (conv=>whnf)
   all_goals first
    |exact rOx [0,1,2,3,4,5,6,7,8,9] a0b
    |(exfalso;omega)
    |trace_state
  rw [if_neg (by simpa using hk0)] at c4⊢;generalize b.cvL q t p=P at*;by_cases hk:ckP (psL P)=0
  .rw [if_neg (by simpa using hk)] at cN⊢;generalize seT (psL P)=S at*;refine fEx Tryz.func28 ?_;repeat' ((conv=>whnf);first|refine cOx (l:= [0,1,2,3,4,5,6,7,8]) c1 ?_|refine cOx (l:= [0,1,2,3,4,5,6,7,8]) cf ?_|refine cOx (l:= [0,7,4,8,9]) c4 ?_|refine cOx (l:= [0,10]) cN ?_|refine a0a ?_|(apply bRx<;>intro h<;>try (exfalso;(try dsimp only at h);omega)))
   all_goals (conv=>whnf)
   all_goals first
    |exact rOx [0,1,2,3,4,5,6,7,8,9,11] (a0d a0b)
    |(exfalso;omega)
    |trace_state
  .rw [if_pos hk] at cN⊢;generalize ckP (psL P)=e at*;refine fEx Tryz.func28 ?_;repeat' ((conv=>whnf);first|refine cOx (l:= [0,1,2,3,4,5,6,7,8]) c1 ?_|refine cOx (l:= [0,1,2,3,4,5,6,7,8]) cf ?_|refine cOx (l:= [0,7,4,8,9]) c4 ?_|refine cOx (l:= [0,10]) cN ?_|refine a0a ?_|(apply bRx<;>intro h<;>try (exfalso;(try dsimp only at h);omega)))
   all_goals (conv=>whnf)
   all_goals first
    |exact rOx [0,1,2,3,4,5,6,7,8,9] a0b
    |(exfalso;omega)
    |trace_state
end
section
attribute [local irreducible] a0q a0r a0k a0P sortI
theorem z0i (n:Nat) (hl:n<=100000) (P:PxC):FC Tryz.prog 3 26 [.sl 1 0 0 n,.sl 2 0 0 n] [(1,some (.one true (pxB n P))),(2,some (.one true (pxB n P)))] (a0h (.bool true) [] 3):=by
 refine fEx Tryz.func26 ?_;repeat' ((conv=>whnf);first|refine a0a ?_|(apply bRx<;>intro h<;>try (exfalso;(try dsimp only at h);omega)))
 all_goals (conv=>whnf)
 all_goals first
  |(exfalso;first|omega|contradiction)
  |skip
 refine a0f (fun k:Nat=>⟨[(0,.sl 1 0 0 n),(1,.sl 2 0 0 n),(5,.int .i64 k)],[(1,some (.one true (pxB n P))),(2,some (.one true (pxB n P)))],3⟩) (fun k=>k<=n) (fun k=>n-k) 0 [0,1,2] [] wHx (w0F _) ?_;intro k hk;by_cases hk2:k<n
 .repeat' ((conv=>whnf);first|refine a0a ?_|(apply bRx<;>intro h<;>try (exfalso;(try dsimp only at h);omega)))
  all_goals (conv=>whnf)
  all_goals first
   |(exfalso;first|omega|contradiction|(simp [seq] at h;done))
   |exact ⟨k+1,[0,1,2],[],hk2,(show n-(k+1)<n-k by omega),⟨rfl,⟨rfl,rfl,congrArg (fun z=>some (SV.int .i64 z)) (a0e (by omega)),trivial⟩,⟨rfl,rfl,trivial⟩⟩⟩
   |trace_state
 .repeat' ((conv=>whnf);first|refine a0a ?_|(apply bRx<;>intro h<;>try (exfalso;(try dsimp only at h);omega)))
  all_goals (conv=>whnf)
  all_goals first
   |exact rOx [0,1,2] a0b
   |(exfalso;first|omega|contradiction)
   |trace_state
theorem u0g:b0m Tryz.prog 26 [.nsl,.nsl] (.bool true):=by
 refine fEx Tryz.func26 ?_;repeat' ((conv=>whnf);first|refine a0a ?_|(apply bRx<;>intro h<;>try (exfalso;(try dsimp only at h);omega)))
 all_goals (conv=>whnf)
 all_goals first
  |(exfalso;first|omega|contradiction)
  |skip
 refine a0f (fun _:Unit=>⟨[(0,.nsl),(1,.nsl),(5,.int .i64 0)],[],1⟩) (fun _=>True) (fun _=>0) () [0] [] wHx trivial ?_;intro _ _;repeat' ((conv=>whnf);first|refine a0a ?_|(apply bRx<;>intro h<;>try (exfalso;(try dsimp only at h);omega)))
 all_goals (conv=>whnf)
 all_goals first
  |exact a0c rfl
  |(exfalso;first|omega|contradiction)
  |trace_state
theorem f1v (n:Nat) (hl:n<=100000) (T:Tc):FC Tryz.prog 3 29 [.sl 1 0 0 n,.sl 2 0 0 n] [(1,some (.one true (txB n T))),(2,some (.one true (txB n T)))] (a0h (.bool true) [] 3):=by
 refine fEx Tryz.func29 ?_;repeat' ((conv=>whnf);first|refine a0a ?_|(apply bRx<;>intro h<;>try (exfalso;(try dsimp only at h);omega)))
 all_goals (conv=>whnf)
 all_goals first
  |(exfalso;first|omega|contradiction)
  |skip
 refine a0f (fun k:Nat=>⟨[(0,.sl 1 0 0 n),(1,.sl 2 0 0 n),(5,.int .i64 k)],[(1,some (.one true (txB n T))),(2,some (.one true (txB n T)))],3⟩) (fun k=>k<=n) (fun k=>n-k) 0 [0,1,2] [] wHx (w0F _) ?_;intro k hk;by_cases hk2:k<n
 .repeat' ((conv=>whnf);first|refine a0a ?_|(apply bRx<;>intro h<;>try (exfalso;(try dsimp only at h);omega)))
  all_goals (conv=>whnf)
  all_goals first
   |(exfalso;first|omega|contradiction|(simp [seq] at h;done))
   |exact ⟨k+1,[0,1,2],[],hk2,(show n-(k+1)<n-k by omega),⟨rfl,⟨rfl,rfl,congrArg (fun z=>some (SV.int .i64 z)) (a0e (by omega)),trivial⟩,⟨rfl,rfl,trivial⟩⟩⟩
   |trace_state
 .repeat' ((conv=>whnf);first|refine a0a ?_|(apply bRx<;>intro h<;>try (exfalso;(try dsimp only at h);omega)))
  all_goals (conv=>whnf)
  all_goals first
   |exact rOx [0,1,2] a0b
   |(exfalso;first|omega|contradiction)
   |trace_state
theorem u0h:b0m Tryz.prog 29 [.nsl,.nsl] (.bool true):=by
 refine fEx Tryz.func29 ?_;repeat' ((conv=>whnf);first|refine a0a ?_|(apply bRx<;>intro h<;>try (exfalso;(try dsimp only at h);omega)))
 all_goals (conv=>whnf)
 all_goals first
  |(exfalso;first|omega|contradiction)
  |skip
 refine a0f (fun _:Unit=>⟨[(0,.nsl),(1,.nsl),(5,.int .i64 0)],[],1⟩) (fun _=>True) (fun _=>0) () [0] [] wHx trivial ?_;intro _ _;repeat' ((conv=>whnf);first|refine a0a ?_|(apply bRx<;>intro h<;>try (exfalso;(try dsimp only at h);omega)))
 all_goals (conv=>whnf)
 all_goals first
  |exact a0c rfl
  |(exfalso;first|omega|contradiction)
  |trace_state
theorem f1w (n:Nat) (hl:n<=100000) (D:List Int):FC Tryz.prog 3 11 [.sl 1 0 0 n,.sl 2 0 0 n] [(1,some (.one true (.cols n [.sc (.ints .i64 D)]))),(2,some (.one true (.cols n [.sc (.ints .i64 D)])))] (a0h (.bool true) [] 3):=by
 refine fEx Tryz.func11 ?_;repeat' ((conv=>whnf);first|refine a0a ?_|(apply bRx<;>intro h<;>try (exfalso;(try dsimp only at h);omega)))
 all_goals (conv=>whnf)
 all_goals first
  |(exfalso;first|omega|contradiction)
  |skip
 refine a0f (fun k:Nat=>⟨[(0,.sl 1 0 0 n),(1,.sl 2 0 0 n),(5,.int .i64 k)],[(1,some (.one true (.cols n [.sc (.ints .i64 D)]))),(2,some (.one true (.cols n [.sc (.ints .i64 D)])))],3⟩) (fun k=>k<=n) (fun k=>n-k) 0 [0,1,2] [] wHx (w0F _) ?_;intro k hk;by_cases hk2:k<n
 .repeat' ((conv=>whnf);first|refine a0a ?_|(apply bRx<;>intro h<;>try (exfalso;(try dsimp only at h);omega)))
  all_goals (conv=>whnf)
  all_goals first
   |(exfalso;first|omega|contradiction|(simp [seq] at h;done))
   |exact ⟨k+1,[0,1,2],[],hk2,(show n-(k+1)<n-k by omega),⟨rfl,⟨rfl,rfl,congrArg (fun z=>some (SV.int .i64 z)) (a0e (by omega)),trivial⟩,⟨rfl,rfl,trivial⟩⟩⟩
   |trace_state
 .repeat' ((conv=>whnf);first|refine a0a ?_|(apply bRx<;>intro h<;>try (exfalso;(try dsimp only at h);omega)))
  all_goals (conv=>whnf)
  all_goals first
   |exact rOx [0,1,2] a0b
   |(exfalso;first|omega|contradiction)
   |trace_state
theorem u0i:b0m Tryz.prog 11 [.nsl,.nsl] (.bool true):=by
 refine fEx Tryz.func11 ?_;repeat' ((conv=>whnf);first|refine a0a ?_|(apply bRx<;>intro h<;>try (exfalso;(try dsimp only at h);omega)))
 all_goals (conv=>whnf)
 all_goals first
  |(exfalso;first|omega|contradiction)
  |skip
 refine a0f (fun _:Unit=>⟨[(0,.nsl),(1,.nsl),(5,.int .i64 0)],[],1⟩) (fun _=>True) (fun _=>0) () [0] [] wHx trivial ?_;intro _ _;repeat' ((conv=>whnf);first|refine a0a ?_|(apply bRx<;>intro h<;>try (exfalso;(try dsimp only at h);omega)))
 all_goals (conv=>whnf)
 all_goals first
  |exact a0c rfl
  |(exfalso;first|omega|contradiction)
  |trace_state
theorem h1F (t:Int):b0m Tryz.prog 15 [.nptr,.int .i64 t] (.tup [.int .i64 0,.int .i64 6]):=by
 refine fEx Tryz.func15 ?_;repeat' ((conv=>whnf);first|refine a0a ?_|(apply bRx<;>intro h<;>try (exfalso;(try dsimp only at h);omega)))
 all_goals (conv=>whnf)
 all_goals first|exact a0c rfl|trace_state
theorem z0j (t:Int):b0m Tryz.prog 30 [.nptr,.int .i64 t] (.tup [.int .i64 0,.int .i64 6]):=by
 refine fEx Tryz.func30 ?_;repeat' ((conv=>whnf);first|refine a0a ?_|(apply bRx<;>intro h<;>try (exfalso;(try dsimp only at h);omega)))
 all_goals (conv=>whnf)
 all_goals first|exact a0c rfl|(exfalso;first|omega|contradiction)|trace_state
theorem b1S (t a:Int) (f g c:ByteArray):b0m Tryz.prog 17 [.nptr,.int .i64 t,.str f,.str g,.agg [.int .i64 a,.str c]] (.tup [.int .i64 0,.int .i64 6]):=by
 refine fEx Tryz.func17 ?_;repeat' ((conv=>whnf);first|refine a0a ?_|(apply bRx<;>intro h<;>try (exfalso;(try dsimp only at h);omega)))
 all_goals (conv=>whnf)
 all_goals first|exact a0c rfl|(exfalso;first|omega|contradiction)|trace_state
theorem z0k (d:Int):b0m Tryz.prog 16 [.nptr,.int .i64 d] (.tup [.nsl,.int .i64 6]):=by
 refine fEx Tryz.func16 ?_;repeat' ((conv=>whnf);first|refine a0a ?_|(apply bRx<;>intro h<;>try (exfalso;(try dsimp only at h);omega)))
 all_goals (conv=>whnf)
 all_goals first|exact a0c rfl|(exfalso;first|omega|contradiction)|trace_state
theorem v0w (d:Int):b0m Tryz.prog 25 [.nptr,.int .i64 d] (.tup [.nsl,.int .i64 6]):=by
 refine fEx Tryz.func25 ?_;repeat' ((conv=>whnf);first|refine a0a ?_|(apply bRx<;>intro h<;>try (exfalso;(try dsimp only at h);omega)))
 all_goals (conv=>whnf)
 all_goals first|exact a0c rfl|(exfalso;first|omega|contradiction)|trace_state
theorem v0x (d:Int):b0m Tryz.prog 32 [.nptr,.int .i64 d] (.bool false):=by
 refine fEx Tryz.func32 ?_;repeat' ((conv=>whnf);first|refine a0a ?_|(apply bRx<;>intro h<;>try (exfalso;(try dsimp only at h);omega)))
 all_goals (conv=>whnf)
 all_goals first|exact a0c rfl|(exfalso;first|omega|contradiction)|trace_state
theorem o0t (d:Int):b0m Tryz.prog 18 [.nptr,.int .i64 d] (.nsl):=by
 refine fEx Tryz.func18 ?_;repeat' ((conv=>whnf);first|refine a0a ?_|(apply bRx<;>intro h<;>try (exfalso;(try dsimp only at h);omega)))
 all_goals (conv=>whnf)
 all_goals first|exact a0c rfl|(exfalso;first|omega|contradiction)|trace_state
theorem u0j:b0m Tryz.prog 12 [.nptr] (.nsl):=by
 refine fEx Tryz.func12 ?_;repeat' ((conv=>whnf);first|refine a0a ?_|(apply bRx<;>intro h<;>try (exfalso;(try dsimp only at h);omega)))
 all_goals (conv=>whnf)
 all_goals first|exact a0c rfl|(exfalso;first|omega|contradiction)|trace_state
end
section
attribute [local irreducible] a0q a0r a0k a0P sortI
theorem q0u (d:Int):b0m Tryz.prog 52 [.nptr,.int .i64 d] .nptr:=by
 refine fEx Tryz.func52 ?_;repeat' ((conv=>whnf);first|refine a0a ?_|(apply bRx<;>intro h<;>try (exfalso;(try dsimp only at h);omega)))
 all_goals (conv=>whnf)
 refine a0f (fun _:Unit=>⟨[(0,.nptr),(1,.int .i64 d),(5,.int .i64 0)],[],1⟩) (fun _=>True) (fun _=>0) () [0] [] wHx trivial ?_;intro _ _;repeat' ((conv=>whnf);first|refine a0a ?_|(apply bRx<;>intro h<;>try (exfalso;(try dsimp only at h);omega)))
 all_goals (conv=>whnf)
 all_goals first
  |exact a0c rfl
  |(exfalso;first|omega|contradiction)
  |trace_state
theorem s0g (d:Int):b0m Tryz.prog 33 [.nptr,.int .i64 d] (.bool false):=by
 have c:=q0u d;refine fEx Tryz.func33 ?_;repeat' ((conv=>whnf);first|refine cPx c ?_|refine a0a ?_|(apply bRx<;>intro h<;>try (exfalso;(try dsimp only at h);omega)))
 all_goals (conv=>whnf)
 all_goals first
  |exact a0c rfl
  |(exfalso;first|omega|contradiction)
  |trace_state
theorem l0w (d:Int):b0m Tryz.prog 31 [.nptr,.int .i64 d] .nsl:=by
 have c:=q0u d;refine fEx Tryz.func31 ?_;repeat' ((conv=>whnf);first|refine cPx c ?_|refine a0a ?_|(apply bRx<;>intro h<;>try (exfalso;(try dsimp only at h);omega)))
 all_goals (conv=>whnf)
 all_goals first
  |exact a0c rfl
  |(exfalso;first|omega|contradiction)
  |trace_state
theorem q0v:b0m Tryz.prog 13 [.nptr] .nsl:=by
 refine fEx Tryz.func13 ?_;repeat' ((conv=>whnf);first|refine a0a ?_|(apply bRx<;>intro h<;>try (exfalso;(try dsimp only at h);omega)))
 all_goals (conv=>whnf)
 refine a0f (fun _:Unit=>⟨[(0,.nptr),(3,.nsl),(4,.int .i64 0)],[],1⟩) (fun _=>True) (fun _=>0) () [0] [] wHx trivial ?_;intro _ _;repeat' ((conv=>whnf);first|refine a0a ?_|(apply bRx<;>intro h<;>try (exfalso;(try dsimp only at h);omega)))
 all_goals (conv=>whnf)
 all_goals first
  |exact a0c rfl
  |(exfalso;first|omega|contradiction)
  |trace_state
theorem z0l (t a:Int) (f g c:ByteArray):b0m Tryz.prog 24 [.nptr,.int .i64 t,.str f,.str g,.agg [.int .i64 a,.str c]] (.tup [.int .i64 0,.int .i64 6]):=by
 have c1:=z0j t;refine fEx Tryz.func24 ?_;repeat' ((conv=>whnf);first|refine cPx c1 ?_|refine a0a ?_|(apply bRx<;>intro h<;>try (exfalso;(try dsimp only at h);omega)))
 all_goals (conv=>whnf)
 refine a0E (fun _:Unit=>⟨[(12,.int .i64 0),(13,.int .i64 6)],[],1⟩) (fun _=>True) (fun _=>0) () [0] [] wHx trivial ?_;intro _ _;repeat' ((conv=>whnf);first|refine a0a ?_|(apply bRx<;>intro h<;>try (exfalso;(try dsimp only at h);omega)))
 all_goals (conv=>whnf)
 all_goals first
  |exact a0c rfl
  |(exfalso;first|omega|contradiction)
  |trace_state
theorem f1x (cut:Int) (n:Nat):FC Tryz.prog 2 7 [.nptr,.int .i64 cut,.sl 1 0 0 n] [] (a0h (.tup [.nptr,.int .i64 6]) [] 2):=by
 refine fEx Tryz.func7 ?_;repeat' ((conv=>whnf);first|refine a0a ?_|(apply bRx<;>intro h<;>try (exfalso;(try dsimp only at h);omega)))
 all_goals (conv=>whnf)
 all_goals first
  |exact rOx [0,1] a0b
  |trace_state
theorem b1T (cut:Int) (n:Nat):FC Tryz.prog 2 8 [.nptr,.int .i64 cut,.sl 1 0 0 n] [] (a0h (.tup [.nptr,.int .i64 6]) [] 2):=by
 refine fEx Tryz.func8 ?_;repeat' ((conv=>whnf);first|refine a0a ?_|(apply bRx<;>intro h<;>try (exfalso;(try dsimp only at h);omega)))
 all_goals (conv=>whnf)
 all_goals first
  |exact rOx [0,1] a0b
  |trace_state
abbrev h1G (ro:Bool) (hc hp hl np m:Nat) (cut:Int):Option HB:=some (.one ro (.cells [.ptr hc 0 0 0,.int .i64 cut,.sl hp 0 0 np,.sl hl 0 0 m]))
def i1I (cut:Int) (ps:List ByteArray) (n:Nat):SV->a0j->Nat->Prop:=if cnE cut ps=0 then a0h (.tup [.ptr 3 0 0 0,.int .i64 0]) [(3,h1G false 1 4 5 n 0 cut),(4,cyP false n ps),(5,rgP false 6 0),(6,fmB false 0 (g6 [] 7)),(7,fmB false 0 (g7q 4 [] 8 n)),(8,fmB false 0 (g8 []))] 9 else a0h (.tup [.nptr,.int .i64 (cnE cut ps)]) [] 3
theorem f1y (cut:Int) (ps:List ByteArray) (n:Nat) (hl:ps.length=n) (hsz:∀k,(ps.getD k ⟨#[]⟩).size<=9223372036854775807):FC Tryz.prog 3 8 [.ptr 1 0 0 0,.int .i64 cut,.sl 2 0 0 n] [(2,some (.one true (.cols n [.sc (.strs ps)])))] (i1I cut ps n):=by
 have c1:=p0X ps n hl hsz;unfold i1I cnE;by_cases h:cut<0\/86400<cut
 .rw [if_pos h,if_neg (by decide)];refine fEx Tryz.func8 ?_;repeat' ((conv=>whnf);first|refine a0a ?_|(apply bRx<;>intro h<;>try (exfalso;(try dsimp only at h);omega)))
  all_goals (conv=>whnf)
  all_goals first
   |exact rOx [0,1,2] a0b
   |(exfalso;omega)
   |trace_state
 rw [if_neg h];unfold b1h at c1;by_cases he:b0u ps=0
 .rw [if_neg (by rw [he];simp)] at c1;rw [if_pos he];have hn16:=(l0t he).1;refine fEx Tryz.func8 ?_;repeat' ((conv=>whnf);first|refine cOx (l:= [0,2]) c1 ?_|(refine And.intro ⟨?_,trivial,?_⟩ ?_;omega;omega)|refine a0a ?_|(apply bRx<;>intro h<;>try (exfalso;(try dsimp only at h);omega)))
  all_goals (conv=>whnf)
  rw [z0z n,t0o hl];exact m0e (l:= [0,1,2,6,5,7,8,9,10]) [.cell 6 3 [.svs []],.relab (fun _ _=>none) (fun _=>0) ((7,rgP false 8 0)::gdN 8 0 0 [⟨0,0,g6 [] 9⟩,⟨0,0,g7q 5 [] 10 n⟩,⟨0,0,g8 []⟩]) [] 3] ⟨m0s (n:=8) (th:=7) [⟨0,0,g6 [] 9⟩,⟨0,0,g7q 5 [] 10 n⟩,⟨0,0,g8 []⟩] (by decide) rfl (j0k ⟨⟨fun _=>rfl,fun i hi=>absurd hi (k1G _)⟩,trivial⟩),rfl,rfl,⟨rfl,rfl,rfl,rfl,rfl,rfl,trivial⟩⟩ (a0d (a0d (a0d (a0C (a0C (a0C a0b))))))
 .rw [if_pos he] at c1;rw [if_neg he];generalize b0u ps=e at*;refine fEx Tryz.func8 ?_;repeat' ((conv=>whnf);first|refine cOx (l:= [0,2]) c1 ?_|refine a0a ?_|(apply bRx<;>intro h<;>try (exfalso;(try dsimp only at h);omega)))
  all_goals (conv=>whnf)
  all_goals first
   |exact rOx [0,1,2] a0b
   |(exfalso;omega)
   |trace_state
end
section
attribute [local irreducible] a0q a0r a0k a0P sortI
structure Sp where
 c:Int
 t:Int
 d:Int
 f:ByteArray
 g:ByteArray
 a:Int
 m:ByteArray
 q:RL
 p:ByteArray
def spV (h k:Nat) (x:Sp):SV:= .agg [.int .u8 x.c,.int .i64 x.t,.int .i64 x.d,.str x.f,.str x.g,.int .i64 x.a,.str x.m,.sl h k 0 x.q.l,.str x.p]
def v0G (q:RL):Nat->Bool
 |0=>true
 |k+1=>v0G q k&&(decide (k<10)&&(decide ((q.f.getD k ⟨#[]⟩).size<=40)&&decide ((q.t.getD k ⟨#[]⟩).size<=40)))
def shP (x:Sp):Bool:=v0G x.q x.q.l&&(decide (x.f.size<=40)&&(decide (x.g.size<=40)&&(decide (x.p.size<=40)&&decide (x.m.size<=40))))
theorem q0w {q:RL} {k:Nat} (h:v0G q (k+1)=false):∀n,k<n->v0G q n=false
 |0,hn=>by omega
 |n+1,hn=>by
  by_cases e:k=n
  .rw [<-e];exact h
  .simp only [v0G];rw [q0w h n (by omega)];rfl
theorem z0m {q:RL}:∀n,v0G q n=true->n<=10/\∀i,i<n->(q.f.getD i ⟨#[]⟩).size<=40/\(q.t.getD i ⟨#[]⟩).size<=40
 |0,_=>⟨w0F _,fun i hi=>by omega⟩
 |n+1,h=>by
  simp only [v0G,k0o,decide_eq_true_eq] at h;obtain ⟨h1,h2,h3,h4⟩:=h;have ih:=(z0m n h1).2;refine ⟨by omega,fun i hi=> ?_⟩;by_cases e:i=n
  .subst e;exact ⟨h3,h4⟩
  .exact ih i (by omega)
theorem z0n (x:Sp) (hl:x.q.l<=maxLen):FC Tryz.prog 2 9 [.agg [.int .u8 x.c,.int .i64 x.t,.int .i64 x.d,.str x.f,.str x.g,.int .i64 x.a,.str x.m,.sl 1 0 0 x.q.l,.str x.p]] [(1,some (.one true (rlB x.q)))] (a0h (.bool (shP x)) [] 2):=by
 refine fEx Tryz.func9 ?_;repeat' ((conv=>whnf);first|refine a0a ?_|(apply bRx<;>intro h<;>try (exfalso;(try dsimp only at h);omega)))
 all_goals (conv=>whnf)
 refine a0f (fun k:Nat=>⟨[(1,.ptr 2 0 0 0),(3,.int .i64 k)],[(2,some (.one false (.cells [.int .u8 x.c,.int .i64 x.t,.int .i64 x.d,.str x.f,.str x.g,.int .i64 x.a,.str x.m,.sl 1 0 0 x.q.l,.str x.p]))),(1,some (.one true (rlB x.q)))],3⟩) (fun k=>k<=x.q.l/\v0G x.q k=true) (fun k=>x.q.l-k) 0 [0,1,2] [] wHx ⟨w0F _,rfl⟩ ?_;rintro k ⟨hk,hs⟩;by_cases hk2:k<x.q.l
 .have q1:(x.q.f.getD ((k:Int).toNat+0) ⟨#[]⟩).size=(x.q.f.getD k ⟨#[]⟩).size:=rfl;have q2:(x.q.t.getD ((k:Int).toNat+0) ⟨#[]⟩).size=(x.q.t.getD k ⟨#[]⟩).size:=rfl;by_cases hg:v0G x.q (k+1)=true
  .have hg2:=hg;simp only [v0G,k0o,decide_eq_true_eq] at hg2;obtain ⟨_,h1,h2,h3⟩:=hg2;repeat' ((conv=>whnf);first|refine a0a ?_|(apply bRx<;>intro h<;>try (exfalso;(try dsimp only at h);omega)))
   all_goals (conv=>whnf)
   all_goals first
    |(exfalso;first|omega|contradiction)
    |exact ⟨k+1,[0,1,2],[],⟨hk2,hg⟩,(show x.q.l-(k+1)<x.q.l-k by omega),⟨rfl,⟨rfl,congrArg (fun z=>some (SV.int .i64 z)) (a0e (by omega)),trivial⟩,⟨rfl,rfl,trivial⟩⟩⟩
    |trace_state
  .have hf:v0G x.q (k+1)=false:=by simpa using hg
   have hP:shP x=false:=by unfold shP;rw [q0w hf _ hk2];rfl
   simp only [v0G,hs,j1O,k0o,decide_eq_true_eq] at hg;rw [hP];repeat' ((conv=>whnf);first|refine a0a ?_|(apply bRx<;>intro h<;>try (exfalso;(try dsimp only at h);omega)))
   all_goals (conv=>whnf)
   all_goals first
    |exact rOx [0,1] a0b
    |(exfalso;first|omega|contradiction)
    |(exfalso;exact hg ⟨by omega,by omega,by omega⟩)
    |trace_state
 .have e:k=x.q.l:=by omega
  subst e;have hP:shP x=(decide (x.f.size<=40)&&(decide (x.g.size<=40)&&(decide (x.p.size<=40)&&decide (x.m.size<=40)))):=by unfold shP;rw [hs];rfl
  rw [hP];by_cases h1:x.f.size<=40
  case neg=>
   rw [decide_eq_false h1];repeat' ((conv=>whnf);first|refine a0a ?_|(apply bRx<;>intro h<;>try (exfalso;(try dsimp only at h);omega)))
   all_goals (conv=>whnf)
   all_goals first
    |exact rOx [0,1] a0b
    |(exfalso;first|omega|contradiction)
    |trace_state
  by_cases h2:x.g.size<=40
  case neg=>
   rw [decide_eq_true h1,decide_eq_false h2];repeat' ((conv=>whnf);first|refine a0a ?_|(apply bRx<;>intro h<;>try (exfalso;(try dsimp only at h);omega)))
   all_goals (conv=>whnf)
   all_goals first
    |exact rOx [0,1] a0b
    |(exfalso;first|omega|contradiction)
    |trace_state
  by_cases h3:x.p.size<=40
  case neg=>
   rw [decide_eq_true h1,decide_eq_true h2,decide_eq_false h3];repeat' ((conv=>whnf);first|refine a0a ?_|(apply bRx<;>intro h<;>try (exfalso;(try dsimp only at h);omega)))
   all_goals (conv=>whnf)
   all_goals first
    |exact rOx [0,1] a0b
    |(exfalso;first|omega|contradiction)
    |trace_state
  rw [decide_eq_true h1,decide_eq_true h2,decide_eq_true h3];have e4:decide ((x.m.size:Int)<=40)=decide (x.m.size<=40):=decide_eq_decide.2 (by omega);repeat' ((conv=>whnf);first|refine a0a ?_|(apply bRx<;>intro h<;>try (exfalso;(try dsimp only at h);omega)))
  all_goals (conv=>whnf)
  all_goals first
   |(exfalso;first|omega|contradiction)
   |(rw [e4];exact rOx [0,1] a0b)
   |trace_state
end
section
attribute [local irreducible] sortI
structure RcI (ds cd:List Int) (B:List Bk) (pr:List ByteArray) (L:List Rc) (k:Nat):Prop where
 nd:(rcD L).Nodup
 mv:∀d,(b0a L d).mv=true↔d∈ds
 cl:∀d,(b0a L d).cl=true↔d∈cd
 bk:∀d,RlB (c0V ds B pr d) (b0a L d).R
 len:L.length<=k
 rl:∀d,(b0a L d).R.length<=2*k
theorem f1z (pr:List ByteArray):RcI [] [] [] pr [] 0:=by
 refine ⟨k1I,fun d=> ?_,fun d=> ?_,fun d=> ?_,n0q _,fun d=> ?_⟩
 .show (b0a [] d).mv=true↔_;simp [b0a,d0Z]
 .show (b0a [] d).cl=true↔_;simp [b0a,d0Z]
 .show RlB (nwB pr) [];exact h1o
 .exact w0F _
theorem RcI.up {ds cd:List Int} {B:List Bk} {pr:List ByteArray} {L:List Rc} {k k':Nat} (h:RcI ds cd B pr L k) (hk:k<=k'):RcI ds cd B pr L k':=
 ⟨h.nd,h.mv,h.cl,h.bk,g1x h.len hk,fun d=>g1x (h.rl d) (m1C 2 hk)⟩
theorem RcI.w {ds cd:List Int} {B:List Bk} {pr:List ByteArray} {L:List Rc} {k:Nat} (h:RcI ds cd B pr L k) (d:Int):RcI ds cd B pr (rcW L d) (k+1):=by
 have hl:=n0W L d;have hk:=h.len;refine ⟨q0b h.nd d,fun x=> ?_,fun x=> ?_,fun x=> ?_,by omega,fun x=> ?_⟩
 .rw [k0Q];exact h.mv x
 .rw [k0Q];exact h.cl x
 .rw [k0Q];exact h.bk x
 .rw [k0Q];have:=h.rl x;omega
theorem RcI.C {ds cd:List Int} {B:List Bk} {pr:List ByteArray} {L:List Rc} {k:Nat} (h:RcI ds cd B pr L k) (d:Int):d∈rcX L↔d∈cd:=(k0O h.nd).trans (h.cl d)
theorem RcI.close {ds cd:List Int} {B:List Bk} {pr:List ByteArray} {L:List Rc} {k:Nat} (h:RcI ds cd B pr L k) (D:Int):RcI ds (cd++ [D]) B pr (h0A L D { b0a L D with cl:=true}) (k+1):=by
 have hx:({ b0a L D with cl:=true}:Rc).d=D:=y0e L D;have hl:=q0c L D { b0a L D with cl:=true};have hk:=h.len;refine ⟨k0R h.nd hx,fun x=> ?_,fun x=> ?_,fun x=> ?_,by omega,fun x=> ?_⟩
 .rw [d0d h.nd hx];split
  .rename_i e;subst e;exact h.mv _
  .exact h.mv x
 .rw [d0d h.nd hx,g1h,a1A];split
  .rename_i e;simp [e]
  .rename_i e;simp [e];exact h.cl x
 .rw [d0d h.nd hx];split
  .rename_i e;subst e;exact h.bk _
  .exact h.bk x
 .rw [d0d h.nd hx];split
  .rename_i e;subst e;have:=h.rl x;show (b0a L x).R.length<=_;omega
  .have:=h.rl x;omega
theorem RcI.move {ds cd:List Int} {B:List Bk} {pr:List ByteArray} {L:List Rc} {k:Nat} (h:RcI ds cd B pr L k) (hB:ds.length=B.length) (D:Int) {b:Bk} {f t c:ByteArray} {a:Int} (hb:RlB b (rmR (b0a L D).R f t c a)):
  RcI (t0s ds D) cd (z0C ds B D b) pr (h0A L D { b0a L D with mv:=true,R:=rmR (b0a L D).R f t c a}) (k+1):=by
 have hx:({ b0a L D with mv:=true,R:=rmR (b0a L D).R f t c a}:Rc).d=D:=y0e L D;have hl:=q0c L D { b0a L D with mv:=true,R:=rmR (b0a L D).R f t c a};have hk:=h.len;refine ⟨k0R h.nd hx,fun x=> ?_,fun x=> ?_,fun x=> ?_,by omega,fun x=> ?_⟩
 .rw [d0d h.nd hx,b1n];split
  .rename_i e;simp [e]
  .rename_i e;simp [e];exact h.mv x
 .rw [d0d h.nd hx];split
  .rename_i e;subst e;exact h.cl _
  .exact h.cl x
 .rw [d0d h.nd hx,y0g hB];split
  .exact hb
  .exact h.bk x
 .rw [d0d h.nd hx];split
  .show (rmR (b0a L D).R f t c a).length<=_;have h1:=h.rl D;unfold rmR;have h2:=j0p (b0a L D).R f c (c0b (b0a L D).R f c-a);have h3:=j0p (j0o (b0a L D).R f c (c0b (b0a L D).R f c-a)) t c (c0b (b0a L D).R t c+a);omega
  .have:=h.rl x;omega
theorem RcI.open {ds cd:List Int} {B:List Bk} {pr:List ByteArray} {L:List Rc} {k:Nat} (h:RcI ds cd B pr L k) (hd:ds.Nodup):rcO L=e0J ds cd:=by
 unfold rcO e0J;refine k0p ?_;have n1:((L.filter fun x=>x.mv&& !x.cl).map Rc.d).Nodup:=h.nd.sublist ((k1E (l:=L)).map Rc.d);have n2:(ds.filter (fun t=> !decide (t∈cd))).Nodup:=hd.sublist k1E;refine (k1S n1 n2).2 fun d=> ?_
 rw [j1j,<-h.mv d];constructor
 .intro q;obtain ⟨x,hx,rfl⟩:=h1T.1 q;obtain ⟨q1,q2⟩:=j1j.1 hx;rw [k0o] at q2;rw [e1I h.nd q1];refine ⟨q2.1,?_⟩;have:¬x.d∈cd:=fun w=>by
   have:=(h.cl x.d).2 w;rw [e1I h.nd q1] at this;rw [this] at q2;exact absurd q2.2 (by decide)
  simp [this]
 .rintro ⟨q1,q2⟩;have q3:¬d∈cd:=by simpa using q2
  by_cases hm:d∈rcD L
  .obtain ⟨hi,e⟩:=d0O hm;have ea:b0a L d=L.getD (a0F (rcD L) d) rc0:=by unfold b0a;rw [if_pos hm]
   refine h1T.2 ⟨_,j1j.2 ⟨by rw [List.getD,k0n hi];exact g1v _,?_⟩,e⟩;rw [<-ea,k0o];refine ⟨q1,?_⟩;cases hc:(b0a L d).cl with
   |false=>rfl
   |true=>exact absurd ((h.cl d).1 hc) q3
  .unfold b0a at q1;rw [if_neg hm] at q1;cases q1
end
section
attribute [local irreducible] sortI
theorem d1f (l cd:List Int):∀k x,mvF (ddS l) cd k x=mvF l cd k x
 |0,_=>rfl
 |k+1,x=>by simp only [mvF];rw [c1q,d1f l cd k]
theorem h1H (l cd:List Int) (x:Int):mvD (ddS l) cd x=mvD l cd x:=by unfold mvD;exact d1f l cd _ _
structure Cpi (pr:List ByteArray) (ds cd:List Int) (B:List Bk) (L:List Rc) (k:Nat):Prop where
 b:BksI ds B ds.length pr.length (sortS pr)
 r:RcI ds cd B pr L k
 m:∀d,(c0V ds B pr d).m<=k
theorem f1A (pr:List ByteArray):Cpi pr [] [] [] [] 0:=
 ⟨⟨rfl,rfl,k1I,fun i hi=>absurd hi (k1G _)⟩,f1z pr,fun d=>n0q _⟩
theorem Cpi.up {pr:List ByteArray} {ds cd:List Int} {B:List Bk} {L:List Rc} {k k':Nat} (h:Cpi pr ds cd B L k) (hk:k<=k'):Cpi pr ds cd B L k':=⟨h.b,h.r.up hk,fun d=>g1x (h.m d) hk⟩
theorem Cpi.bl {pr:List ByteArray} {ds cd:List Int} {B:List Bk} {L:List Rc} {k:Nat} (h:Cpi pr ds cd B L k):ds.length=B.length:=h.b.bl.symm
theorem z0o {ds:List Int} {B:List Bk} {m np:Nat} {sp:List ByteArray} (h:BksI ds B m np sp) (D:Int) {b:Bk} (hb:BkI b 4503599627370496/\b.n=np/\b.ps=sp/\b.m<=100000):BksI (t0s ds D) (z0C ds B D b) (t0s ds D).length np sp:=by
 unfold t0s z0C;by_cases hD:D∈ds
 .rw [if_pos hD,if_pos hD];refine ⟨rfl,by rw [j1B,h.bl,h.dl],h.nd,fun i hi=> ?_⟩;rw [List.getD,j1H];split
  .split
   .exact hb
   .rename_i h1 h2;exact absurd (by rw [h.bl,<-h.dl,h1];exact hi) h2
  .have:=h.I i (by rw [<-h.dl];exact hi);rw [List.getD] at this;exact this
 .rw [if_neg hD,if_neg hD];refine ⟨rfl,by simp [h.bl,h.dl],?_,fun i hi=> ?_⟩
  .exact k1t.2 ⟨h.nd,by simp,fun a ha b hb e=>by simp at hb;subst hb;subst e;exact hD ha⟩
  .rw [a1N,f1M,h.dl] at hi;by_cases e:i<m
   .rw [List.getD,c1u (by rw [h.bl];exact e)];have:=h.I i e;rw [List.getD] at this;exact this
   .have e2:i=m:=by omega
    rw [e2,List.getD,c1l (by rw [h.bl];exact n0q _),h.bl,j1k];exact hb
section
variable {pr:List ByteArray} {ds cd:List Int} {B:List Bk} {L:List Rc} {k:Nat}
theorem Cpi.at (h:Cpi pr ds cd B L k) (he:b0u pr=0) (d:Int):BkI (c0V ds B pr d) 4503599627370496/\(c0V ds B pr d).n=pr.length/\(c0V ds B pr d).ps=sortS pr/\(c0V ds B pr d).m<=100000:=i1S h.b rfl he d
theorem Cpi.D (h:Cpi pr ds cd B L k) (hol:List Int) (x:Int):mvD hol (rcX L) x=mvD hol cd x:=y0f (fun d=>h.r.C d) x
theorem Cpi.X (h:Cpi pr ds cd B L k) (he:b0u pr=0) (hs:List Int) (D:Int) (f g c:ByteArray) (a:Int):b1q L pr pr.length D f g c a=mvX hs ds cd B pr D f g c a:=by
 unfold b1q mvX;by_cases h0:D<0
 .rw [if_pos h0,if_pos h0]
 .rw [if_neg h0,if_neg h0];obtain ⟨h1,h2,h3,_⟩:=h.at he D;have:=(y0c h1 (ps:=pr) (by rw [h3];exact b0L pr) (h.r.bk D) f g c a).1;rw [h2] at this;exact this
theorem Cpi.move (h:Cpi pr ds cd B L k) (he:b0u pr=0) (hk:k<=1000) (hs:List Int) (D:Int) (f g c:ByteArray) (a:Int) (h0:mvX hs ds cd B pr D f g c a=0):Cpi pr (t0s ds D) cd (z0C ds B D ((c0V ds B pr D).mv f g c a)) (t0D L pr pr.length D f g c a) (k+1):=by
 obtain ⟨h1,h2,h3,h4⟩:=h.at he D;have hm:=h.m D;have hX:=h.X he hs D f g c a;rw [h0] at hX;have hD:¬D<0:=fun w=>by unfold b1q at hX;rw [if_pos w] at hX;cases hX
 have hX2:rmE pr.length pr (b0a L D).R f g c a=0:=by unfold b1q at hX;rw [if_neg hD] at hX;exact hX
 have h02:mvE (c0V ds B pr D) f g c a=0:=by unfold mvX at h0;rw [if_neg hD] at h0;exact h0
 have hR:=(y0c h1 (ps:=pr) (by rw [h3];exact b0L pr) (h.r.bk D) f g c a).2 h02;have e:t0D L pr pr.length D f g c a=h0A L D { b0a L D with mv:=true,R:=rmR (b0a L D).R f g c a}:=by unfold t0D;rw [if_neg hD,if_pos hX2];rfl
 rw [e];have hmm:=j1b (c0V ds B pr D) f g c a;refine ⟨z0o h.b D ⟨i1R h1 f g c a,by rw [(e1l _ f g c a).2];exact h2,by rw [(e1l _ f g c a).1];exact h3,by omega⟩,h.r.move h.bl D hR,fun d=> ?_⟩;rw [y0g h.bl];split
 .omega
 .have:=h.m d;omega
theorem Cpi.move_no (h:Cpi pr ds cd B L k) (he:b0u pr=0) (hs:List Int) (D:Int) (f g c:ByteArray) (a:Int) (h0:mvX hs ds cd B pr D f g c a≠0):Cpi pr ds cd B (t0D L pr pr.length D f g c a) (k+1):=by
 have hX:=h.X he hs D f g c a;unfold t0D;by_cases hD:D<0
 .rw [if_pos hD];exact h.up (l1L _)
 .rw [if_neg hD];unfold b1q at hX;rw [if_neg hD] at hX;rw [if_neg (by rw [hX];exact h0)];exact ⟨h.b,h.r.w D,fun d=>g1x (h.m d) (l1L _)⟩
theorem Cpi.E (h:Cpi pr ds cd B L k) (hol:List Int) (d:Int):g1Z hol L d=clE (ddS hol) ds cd d:=by
 unfold g1Z clE;rw [r0m,h.r.open h.b.nd];by_cases q:d∈cd
 .rw [if_pos q,if_pos ((h.r.C d).2 q)]
 .rw [if_neg q,if_neg (fun w=>q ((h.r.C d).1 w))]
theorem Cpi.close (h:Cpi pr ds cd B L k) (d:Int):Cpi pr ds (cd++ [d]) B (v0E L d) (k+1):=⟨h.b,h.r.close d,fun x=>g1x (h.m x) (l1L _)⟩
theorem Cpi.P (h:Cpi pr ds cd B L k) (he:b0u pr=0) (d:Int):rpL L d=m0u ds B d:=by
 unfold rpL m0u;by_cases q:d∈ds
 .rw [if_pos q,if_pos ((h.r.mv d).2 q)];obtain ⟨h1,h2,h3,h4⟩:=h.at he d;have:=(r0N h1 (by rw [h3];exact c0C (l0t he).2.1) (h.r.bk d)).1;rw [this];unfold c0V;rw [if_pos q]
 .rw [if_neg q,if_neg (fun w=>q ((h.r.mv d).1 w))]
theorem Cpi.net (h:Cpi pr ds cd B L k) (he:b0u pr=0) (d:Int) (p c:ByteArray): -4503599627370496<=c0b (b0a L d).R p c/\c0b (b0a L d).R p c<=4503599627370496:=by
 rw [(h.r.bk d).net];exact e1H (h.at he d).1 (by decide) p c
end
end
section
attribute [local irreducible] a0q a0r a0k a0P sortI
abbrev plH (np hn m nc hd ml:Nat) (cut:Int) (hol ds cd:List Int) (B:List Bk) (L:List Rc) (pr:List ByteArray) (q:RL):a0j:=
 (0,some (GB glT))::(18,some (.one true (rlB q)))::(1,cyC true 2 4 5 6 np cut)::(2,v0C true 3)::(3,tmM true hd (ddS hol))::(4,cyP true np pr)::(6,tmM false nc cd)::
 (10,h1G false 11 13 14 np ml cut)::(11,rcC true 12 hn)::(12,inB hn hol)::(13,cyP true np pr)::(14,rgP false 15 ml)::(15,fmB false ml (g6 L 16))::(16,fmB false ml (g7q 13 L 17 np))::(17,fmB false ml (g8 L))::t0r 5 7 8 9 np m ds B (sortS pr)
abbrev plO (np m nc ml:Nat) (cut:Int) (ds cd:List Int) (B:List Bk) (L:List Rc) (pr:List ByteArray):a0j:=
 (6,tmM false nc cd)::(10,h1G false 11 13 22 np ml cut)::(22,rgP false 23 ml)::(23,fmB false ml (g6 L 24))::(24,fmB false ml (g7q 13 L 25 np))::(25,fmB false ml (g8 L))::t0r 5 19 20 21 np m ds B (sortS pr)
theorem e0W {np m nc ml:Nat} {cut:Int} {ds cd:List Int} {B:List Bk} {L:List Rc} {pr:List ByteArray}:g0h (plO np m nc ml cut ds cd B L pr):=a0d (a0d (a0d (a0C (a0C (a0C k0L)))))
theorem l0x {np m nc ml:Nat} {cut:Int} {ds cd:List Int} {B:List Bk} {L:List Rc} {pr:List ByteArray} {l:List Nat} {b:Bool} {vs:VS}
  (h1:(Nat.ble 1 19&&Nat.ble 19 l.length&&e0R 19 l&&h0O l vs.next&&o0w (rho l vs.next) (plO np m nc ml cut ds cd B L pr) (plO np m nc ml cut ds cd B L pr))=true) (h2:b=true) (h3:l.length=26) (h4:b0g (rho l vs.next) (plO np m nc ml cut ds cd B L pr) vs.heap):
  a0P 19 (a0h (.bool true) (plO np m nc ml cut ds cd B L pr) 26) (.bool b) vs:=by
 subst h2;rw [<-h3];exact c0S h1 rfl h4 e0W
theorem z0p (L:List Rc) (d:Int):(rpL L d).length<=(b0a L d).R.length:=by
 unfold rpL;split
 .rw [(h0y _).length_eq];unfold nz;exact j1L _ _
 .exact w0F _
section
variable {pr:List ByteArray} {ds cd hol:List Int} {B:List Bk} {L:List Rc} {k hn m nc hd ml:Nat} {cut:Int}
theorem z0q (h:Cpi pr ds cd B L k) (he:b0u pr=0) (hk:k<=60) (hsz:∀k,(pr.getD k ⟨#[]⟩).size<=100000) (hh:hol.length=hn) (hn4:hn<=100000) (hm:ds.length=m) (hc:cd.length=nc) (hd2:(ddS hol).length=hd) (hml:L.length=ml) (x:Sp) (hx:x.c=0):∃ds' B' L',Cpi pr ds' cd B' L' (k+1)/\FC Tryz.prog 19 10 [.ptr 1 0 0 0,.ptr 10 0 0 0,spV 18 0 x] (plH pr.length hn m nc hd ml cut hol ds cd B L pr x.q) (a0h (.bool true) (plO pr.length ds'.length nc L'.length cut ds' cd B' L' pr) 26):=by
 have hlen:=h.r.len;have hnp:=(l0t he).1;have hsz2:∀k,(pr.getD k ⟨#[]⟩).size<=9223372036854775807:=fun k=>g1x (hsz k) (by decide)
 have hb:=h.b;rw [hm] at hb;have c1:=x0P hb hd2 hc rfl he cut x.t x.f x.g x.m x.a;rw [c1K,h1H] at c1;have c2:=b1r (np:=pr.length) hml (by omega) h.r.nd hh hn4 rfl he hsz2 (by omega) (fun d=>by have:=h.r.rl d;omega) (fun d=>h.net he d) cut x.t x.f x.g x.m x.a;rw [h.D] at c2;generalize mvD hol cd (ofI hol cut x.t)=D at*;unfold mvO at c1;unfold g1V at c2;have hX:=h.X he (ddS hol) D x.f x.g x.m x.a;rw [hX] at c2;by_cases hz:mvX (ddS hol) ds cd B pr D x.f x.g x.m x.a=0
 .have hn':=h.move he (by omega) (ddS hol) D x.f x.g x.m x.a hz;rw [if_pos hz] at c1;rw [hz,if_pos rfl] at c2;refine ⟨_,_,_,hn',?_⟩;clear hn' hz hX;generalize z0C ds B D ((c0V ds B pr D).mv x.f x.g x.m x.a)=B2 at*;generalize t0s ds D=D2 at*;generalize t0D L pr pr.length D x.f x.g x.m x.a=L2 at*;unfold spV;rw [hx];refine fEx Tryz.func10 ?_;repeat' ((conv=>whnf);first|refine cOx (l:= [0,1,2,3,4,5,6,7,8,9]) c1 ?_|refine cOx (l:= [0,10,11,12,13,14,15,16,17]) c2 ?_|refine a0a ?_|(apply bRx<;>intro h<;>try (exfalso;(try dsimp only at h);omega)))
  all_goals (conv=>whnf)
  all_goals first
   |(exfalso;first|omega|contradiction)
   |exact rOx [0,1,2,3,4,5,6,7,8,9,10,11,12,13,14,15,16,17,18,20,21,22,23,24,25,26] e0W
   |exact l0x (l:= [0,1,2,3,4,5,6,7,8,9,10,11,12,13,14,15,16,17,18,20,21,22,23,24,25,26]) rfl (by simp) rfl ⟨rfl,rfl,rfl,rfl,rfl,rfl,rfl,rfl,rfl,rfl,trivial⟩
   |trace_state
 .have hn':=h.move_no he (ddS hol) D x.f x.g x.m x.a hz;rw [if_neg hz] at c1 c2;refine ⟨_,_,_,hn',?_⟩;clear hn' hX;rw [hm];generalize mvX (ddS hol) ds cd B pr D x.f x.g x.m x.a=e at*;generalize t0D L pr pr.length D x.f x.g x.m x.a=L2 at*;unfold spV;rw [hx];refine fEx Tryz.func10 ?_;repeat' ((conv=>whnf);first|refine cOx (l:= [0,1,2,3,4,5,6,7,8,9]) c1 ?_|refine cOx (l:= [0,10,11,12,13,14,15,16,17]) c2 ?_|refine a0a ?_|(apply bRx<;>intro h<;>try (exfalso;(try dsimp only at h);omega)))
  all_goals (conv=>whnf)
  all_goals first
   |(exfalso;first|omega|contradiction)
   |exact rOx [0,1,2,3,4,5,6,7,8,9,10,11,12,13,14,15,16,17,18,7,8,9,20,21,22,23] e0W
   |exact l0x (l:= [0,1,2,3,4,5,6,7,8,9,10,11,12,13,14,15,16,17,18,7,8,9,20,21,22,23]) rfl (by simp) rfl ⟨rfl,rfl,rfl,rfl,rfl,rfl,rfl,rfl,rfl,rfl,trivial⟩
   |trace_state
theorem f1B (h:Cpi pr ds cd B L k) (he:b0u pr=0) (hk:k<=60) (hsz:∀k,(pr.getD k ⟨#[]⟩).size<=100000) (hh:hol.length=hn) (hn4:hn<=100000) (hm:ds.length=m) (hc:cd.length=nc) (hd2:(ddS hol).length=hd) (hml:L.length=ml) (x:Sp) (hx:x.c=3):FC Tryz.prog 19 10 [.ptr 1 0 0 0,.ptr 10 0 0 0,spV 18 0 x] (plH pr.length hn m nc hd ml cut hol ds cd B L pr x.q) (a0h (.bool true) (plO pr.length m nc ml cut ds cd B L pr) 26):=by
 have hlen:=h.r.len;have hnp:=(l0t he).1;have hsz2:∀k,(pr.getD k ⟨#[]⟩).size<=9223372036854775807:=fun k=>g1x (hsz k) (by decide)
 have hb:=h.b;rw [hm] at hb;have c1:=a1W pr.length hd cut (ddS hol) hd2 x.t;rw [c1K] at c1;have c2:=c1P pr.length hn ml cut hol hh hn4 x.t;generalize ofI hol cut x.t=X at*;rw [p0S] at c1 c2;generalize ofP X=X1 at*;generalize ofQ X=X2 at*;unfold spV;rw [hx];refine fEx Tryz.func10 ?_;repeat' ((conv=>whnf);first|refine cOx (l:= [0,1,2,3,4,5,6,7,8,9]) c1 ?_|refine cOx (l:= [0,10,11,12,13,14,15,16,17]) c2 ?_|refine a0a ?_|(apply bRx<;>intro h<;>try (exfalso;(try dsimp only at h);omega)))
 all_goals (conv=>whnf)
 all_goals first
  |(exfalso;first|omega|contradiction)
  |exact rOx [0,1,2,3,4,5,6,7,8,9,10,11,12,13,14,15,16,17,18,7,8,9,14,15,16,17] e0W
  |exact l0x (l:= [0,1,2,3,4,5,6,7,8,9,10,11,12,13,14,15,16,17,18,7,8,9,14,15,16,17]) rfl (by simp) rfl ⟨rfl,rfl,rfl,rfl,rfl,rfl,rfl,rfl,rfl,rfl,trivial⟩
  |trace_state
theorem z0r (h:Cpi pr ds cd B L k) (he:b0u pr=0) (hk:k<=60) (hsz:∀k,(pr.getD k ⟨#[]⟩).size<=100000) (hh:hol.length=hn) (hn4:hn<=100000) (hm:ds.length=m) (hc:cd.length=nc) (hd2:(ddS hol).length=hd) (hml:L.length=ml) (x:Sp) (h0:x.c≠0) (h1:x.c≠1) (h2:x.c≠2) (h3:x.c≠3):FC Tryz.prog 19 10 [.ptr 1 0 0 0,.ptr 10 0 0 0,spV 18 0 x] (plH pr.length hn m nc hd ml cut hol ds cd B L pr x.q) (a0h (.bool true) (plO pr.length m nc ml cut ds cd B L pr) 26):=by
 have hlen:=h.r.len;have hnp:=(l0t he).1;have hsz2:∀k,(pr.getD k ⟨#[]⟩).size<=9223372036854775807:=fun k=>g1x (hsz k) (by decide)
 have hb:=h.b;rw [hm] at hb;have hat:=h.at he x.d;have c1:=f0w hb cut x.d;have c2:=h0D L ml hml (by omega) pr.length pr cut x.d (by have:=h.r.rl x.d;omega) (h.r.bk x.d).d;have c3:=x0D pr.length nc cut cd hc x.d;have c4:=f0R L ml hml (by omega) pr.length cut x.d;rw [h.P he] at c2;have hcl:(b0a L x.d).cl=decide (x.d∈cd):=by
  by_cases q:x.d∈cd
  .rw [decide_eq_true q];exact (h.r.cl _).2 q
  .rw [decide_eq_false q];cases w:(b0a L x.d).cl with
   |false=>rfl
   |true=>exact absurd ((h.r.cl _).1 w) q
 rw [hcl] at c4;have hpl:(m0u ds B x.d).length<=100000:=by
  have h1:=z0p L x.d;rw [h.P he] at h1;have h2:=h.r.rl x.d;omega
 have c5:=z0i (m0u ds B x.d).length hpl (a0y (m0u ds B x.d));generalize m0u ds B x.d=P at*;generalize decide (x.d∈cd)=b at*;unfold spV;refine fEx Tryz.func10 ?_;repeat' ((conv=>whnf);first|refine cOx (l:= [0,1,2,3,4,5,6,7,8,9]) c1 ?_|refine cOx (l:= [0,10,11,12,13,14,15,16,17]) c2 ?_|refine cOx (l:= [0,1,2,3,4,5,6,7,8,9]) c3 ?_|refine cOx (l:= [0,10,11,12,13,14,15,16,17]) c4 ?_|refine cOx (l:= [0,20,21]) c5 ?_|refine a0a ?_|(apply bRx<;>intro h<;>try (exfalso;(try dsimp only at h);omega)))
 all_goals (conv=>whnf)
 all_goals first
  |(exfalso;first|omega|contradiction)
  |exact rOx [0,1,2,3,4,5,6,7,8,9,10,11,12,13,14,15,16,17,18,7,8,9,14,15,16,17] e0W
  |exact l0x (l:= [0,1,2,3,4,5,6,7,8,9,10,11,12,13,14,15,16,17,18,7,8,9,14,15,16,17]) rfl (by simp) rfl ⟨rfl,rfl,rfl,rfl,rfl,rfl,rfl,rfl,rfl,rfl,trivial⟩
  |trace_state
end
end
section
attribute [local irreducible] a0q a0r a0k a0P sortI
theorem b1U {pr:List ByteArray} {M:Nat} (h:∀k,(pr.getD k ⟨#[]⟩).size<=M) (k:Nat):((sortS pr).getD k ⟨#[]⟩).size<=M:=by
 by_cases hk:k<(sortS pr).length
 .have hm:(sortS pr).getD k ⟨#[]⟩∈pr:=(b0L pr).mem_iff.1 (by rw [List.getD,k0n hk];exact g1v hk);obtain ⟨j,hj,e⟩:=k1J.1 hm;have:=h j;rw [List.getD,k0n hj] at this;rw [<-e];exact this
 .rw [List.getD,r0b (by omega)];exact w0F _
theorem h1I {b:Bk} (h:∀k,(b.ps.getD k ⟨#[]⟩).size<=100000) (q:RL) (t p:ByteArray):SmP (psL (b.cvL q t p)):=by
 intro k;unfold psL;by_cases hk:k<(b.cvL q t p).length
 .rw [List.getD,a1u,k0n hk];obtain ⟨_,_,j,_,e,_⟩:=c0k _ _ (g1v hk);show ((b.cvL q t p)[k]).p.size<=100000;rw [e];exact h j
 .rw [List.getD,a1u,r0b (by omega)];exact w0F _
theorem i1J {R:List Ps} {T T':List Tx} (h:PS R T T'):RfI R->T'.length<=T.length+R.length:=
 h1x (M:=fun R T T'=>RfI R->T'.length<=T.length+R.length) (fun T _=>Nat.le_add_right _ _) (fun R T T' d e x hS _ ih hI=>by
  have h1:=ih (u0f hS.toStepK hI);have h2:=o0r hS.toStepK (d0R hI.asc);rw [a1N,f1M] at h1;omega) h
theorem h1J {L:List Ps} (hl:L.length<=16) (h:ckP L=0):(seT L).length<=100000:=by
 have h1:=i1J (d1c h) (d1e (o0q h).1 (by omega));have h2:=y0z (c0M L);rw [(b0b L).length_eq] at h2;rw [j1p] at h1;omega
section
variable {pr:List ByteArray} {ds cd hol:List Int} {B:List Bk} {L:List Rc} {k hn m nc hd ml:Nat} {cut:Int}
theorem v0y (h:Cpi pr ds cd B L k) (he:b0u pr=0) (hk:k<=60) (hsz:∀k,(pr.getD k ⟨#[]⟩).size<=100000) (hh:hol.length=hn) (hn4:hn<=100000) (hm:ds.length=m) (hc:cd.length=nc) (hd2:(ddS hol).length=hd) (hml:L.length=ml) (x:Sp) (hx:x.c=1):∃cd' L',Cpi pr ds cd' B L' (k+1)/\FC Tryz.prog 19 10 [.ptr 1 0 0 0,.ptr 10 0 0 0,spV 18 0 x] (plH pr.length hn m nc hd ml cut hol ds cd B L pr x.q) (a0h (.bool true) (plO pr.length m cd'.length L'.length cut ds cd' B L' pr) 26):=by
 have hlen:=h.r.len;have hnp:=(l0t he).1;have hsz2:∀k,(pr.getD k ⟨#[]⟩).size<=9223372036854775807:=fun k=>g1x (hsz k) (by decide)
 have hb:=h.b;rw [hm] at hb;have hml2:m<=100000:=by
  have h1:=h.r.mv;have h2:ds.length<=L.length:=by
   have:=r0H ds (rcD L) hb.nd (fun d hd=>by
    by_cases q:d∈rcD L
    .exact q
    .have:=(h1 d).2 hd;unfold b0a at this;rw [if_neg q] at this;cases this)
   rwa [e0a] at this
  omega
 have c1:=t0q hb hd2 hc hml2 cut x.d;have c2:=y0j (np:=pr.length) hml (by omega) h.r.nd hh hn4 rfl he hsz2 cut x.d (by have:=h.r.rl x.d;omega) (h.r.bk x.d).d;have hpl:(m0u ds B x.d).length<=100000:=by
  have h1:=z0p L x.d;rw [h.P he] at h1;have h2:=h.r.rl x.d;omega
 have c3:=z0i (m0u ds B x.d).length hpl (a0y (m0u ds B x.d));have c4:=u0g;unfold clO at c1;unfold i1w at c2;rw [h.E,h.P he] at c2;generalize m0u ds B x.d=P at*;by_cases hz:clE (ddS hol) ds cd x.d=0
 .have hn':=h.close x.d;rw [if_pos hz] at c1 c2;refine ⟨_,_,hn',?_⟩;clear hn' hz;generalize v0E L x.d=L2 at*;generalize cd++ [x.d]=C2 at*;unfold spV;rw [hx];refine fEx Tryz.func10 ?_;repeat' ((conv=>whnf);first|refine cOx (l:= [0,1,2,3,4,5,6,7,8,9]) c1 ?_|refine cOx (l:= [0,10,11,12,13,14,15,16,17]) c2 ?_|refine cOx (l:= [0,20,25]) c3 ?_|refine a0a ?_|(apply bRx<;>intro h<;>try (exfalso;(try dsimp only at h);omega)))
  all_goals (conv=>whnf)
  all_goals first
   |(exfalso;first|omega|contradiction)
   |exact rOx [0,1,2,3,4,5,6,7,8,9,10,11,12,13,14,15,16,17,18,7,8,9,21,22,23,24] e0W
   |exact l0x (l:= [0,1,2,3,4,5,6,7,8,9,10,11,12,13,14,15,16,17,18,7,8,9,21,22,23,24]) rfl (by simp) rfl ⟨rfl,rfl,rfl,rfl,rfl,rfl,rfl,rfl,rfl,rfl,trivial⟩
   |trace_state
 .rw [if_neg hz] at c1 c2;refine ⟨_,_,h.up (l1L k),?_⟩;rw [hml];generalize clE (ddS hol) ds cd x.d=e at*;unfold spV;rw [hx];refine fEx Tryz.func10 ?_;repeat' ((conv=>whnf);first|refine cOx (l:= [0,1,2,3,4,5,6,7,8,9]) c1 ?_|refine cOx (l:= [0,10,11,12,13,14,15,16,17]) c2 ?_|refine cPx c4 ?_|refine a0a ?_|(apply bRx<;>intro h<;>try (exfalso;(try dsimp only at h);omega)))
  all_goals (conv=>whnf)
  all_goals first
   |(exfalso;first|omega|contradiction)
   |exact rOx [0,1,2,3,4,5,6,7,8,9,10,11,12,13,14,15,16,17,18,7,8,9,20,21,22,23] e0W
   |exact l0x (l:= [0,1,2,3,4,5,6,7,8,9,10,11,12,13,14,15,16,17,18,7,8,9,20,21,22,23]) rfl (by simp) rfl ⟨rfl,rfl,rfl,rfl,rfl,rfl,rfl,rfl,rfl,rfl,trivial⟩
   |trace_state
set_option maxHeartbeats 1000000 in
theorem s0h (h:Cpi pr ds cd B L k) (he:b0u pr=0) (hk:k<=60) (hsz:∀k,(pr.getD k ⟨#[]⟩).size<=100000) (hh:hol.length=hn) (hn4:hn<=100000) (hm:ds.length=m) (hc:cd.length=nc) (hd2:(ddS hol).length=hd) (hml:L.length=ml) (x:Sp) (hx:x.c=2) (hq:x.q.l<=1000) (hz:∀i,(x.q.at i).f.size<=9223372036854775807/\(x.q.at i).t.size<=9223372036854775807) (ht:x.g.size<=9223372036854775807):FC Tryz.prog 19 10 [.ptr 1 0 0 0,.ptr 10 0 0 0,spV 18 0 x] (plH pr.length hn m nc hd ml cut hol ds cd B L pr x.q) (a0h (.bool true) (plO pr.length m nc ml cut ds cd B L pr) 26):=by
 have hlen:=h.r.len;have hnp:=(l0t he).1;have hsz2:∀k,(pr.getD k ⟨#[]⟩).size<=9223372036854775807:=fun k=>g1x (hsz k) (by decide)
 have hb:=h.b;rw [hm] at hb;obtain ⟨a1,a2,a3,a4⟩:=h.at he x.d;have hbm:=h.m x.d;have hcl:(b0a L x.d).cl=decide (x.d∈cd):=by
  by_cases q:x.d∈cd
  .rw [decide_eq_true q];exact (h.r.cl _).2 q
  .rw [decide_eq_false q];cases w:(b0a L x.d).cl with
   |false=>rfl
   |true=>exact absurd ((h.r.cl _).1 w) q
 have hps:(c0V ds B pr x.d).ps.Pairwise (fun a b=>a0D a b=true):=by rw [a3];exact c0C (l0t he).2.1
 have hsm:SmP (psL ((c0V ds B pr x.d).cvL x.q x.g x.p)):=h1I (fun k=>by rw [a3];exact b1U hsz k) x.q x.g x.p;have c1:=y0J hb hc rfl he cut x.d x.q hq x.g x.p;have c2:=v0v a1 a2 hps hml (by omega) pr cut x.d (h.r.bk x.d) (by have:=h.r.rl x.d;omega) (by omega) x.q hq hz x.g x.p ht hsm;have hn16:=a1.n16;have hlen2:((c0V ds B pr x.d).cvL x.q x.g x.p).length<=16:=g1x (g0s _ _ _ _) hn16;have c4:=u0h;rw [hcl] at c2;unfold shO at c1;unfold rsO at c2;by_cases hs:x.d∈cd
 case neg=>
  rw [if_neg hs] at c1;rw [if_neg (by simpa using hs)] at c2;clear hs hcl;unfold spV;rw [hx];refine fEx Tryz.func10 ?_;repeat' ((conv=>whnf);first|refine cOx (l:= [0,1,2,3,4,5,6,7,8,9,18]) c1 ?_|refine cOx (l:= [0,10,11,12,13,14,15,16,17,18]) c2 ?_|refine cPx c4 ?_|refine a0a ?_|(apply bRx<;>intro h<;>try (exfalso;(try dsimp only at h);omega)))
  all_goals (conv=>whnf)
  all_goals first
   |(exfalso;first|omega|contradiction)
   |exact rOx [0,1,2,3,4,5,6,7,8,9,10,11,12,13,14,15,16,17,18,7,8,9,14,15,16,17] e0W
   |exact l0x (l:= [0,1,2,3,4,5,6,7,8,9,10,11,12,13,14,15,16,17,18,7,8,9,14,15,16,17]) rfl (by simp) rfl ⟨rfl,rfl,rfl,rfl,rfl,rfl,rfl,rfl,rfl,rfl,trivial⟩
   |trace_state
 rw [if_pos hs] at c1;rw [if_pos (by simpa using hs)] at c2;clear hcl;generalize c0V ds B pr x.d=b at*;by_cases hk0:b.cvE x.q x.g x.p=0
 case neg=>
  rw [if_pos hk0] at c1 c2;generalize b.cvE x.q x.g x.p=e at*;unfold spV;rw [hx];refine fEx Tryz.func10 ?_;repeat' ((conv=>whnf);first|refine cOx (l:= [0,1,2,3,4,5,6,7,8,9,18]) c1 ?_|refine cOx (l:= [0,10,11,12,13,14,15,16,17,18]) c2 ?_|refine cPx c4 ?_|refine a0a ?_|(apply bRx<;>intro h<;>try (exfalso;(try dsimp only at h);omega)))
  all_goals (conv=>whnf)
  all_goals first
   |(exfalso;first|omega|contradiction)
   |exact rOx [0,1,2,3,4,5,6,7,8,9,10,11,12,13,14,15,16,17,18,7,8,9,14,15,16,17] e0W
   |exact l0x (l:= [0,1,2,3,4,5,6,7,8,9,10,11,12,13,14,15,16,17,18,7,8,9,14,15,16,17]) rfl (by simp) rfl ⟨rfl,rfl,rfl,rfl,rfl,rfl,rfl,rfl,rfl,rfl,trivial⟩
   |trace_state
 rw [if_neg (by simpa using hk0)] at c1 c2;generalize b.cvL x.q x.g x.p=P at*;by_cases hk1:ckP (psL P)=0
 case neg=>
  rw [if_pos hk1] at c1 c2;generalize ckP (psL P)=e at*;unfold spV;rw [hx];refine fEx Tryz.func10 ?_;repeat' ((conv=>whnf);first|refine cOx (l:= [0,1,2,3,4,5,6,7,8,9,18]) c1 ?_|refine cOx (l:= [0,10,11,12,13,14,15,16,17,18]) c2 ?_|refine cPx c4 ?_|refine a0a ?_|(apply bRx<;>intro h<;>try (exfalso;(try dsimp only at h);omega)))
  all_goals (conv=>whnf)
  all_goals first
   |(exfalso;first|omega|contradiction)
   |exact rOx [0,1,2,3,4,5,6,7,8,9,10,11,12,13,14,15,16,17,18,7,8,9,14,15,16,17] e0W
   |exact l0x (l:= [0,1,2,3,4,5,6,7,8,9,10,11,12,13,14,15,16,17,18,7,8,9,14,15,16,17]) rfl (by simp) rfl ⟨rfl,rfl,rfl,rfl,rfl,rfl,rfl,rfl,rfl,rfl,trivial⟩
   |trace_state
 rw [if_neg (by simpa using hk1)] at c1 c2;have hS:(seT (psL P)).length<=100000:=h1J (by rw [r0Y];omega) hk1;have c5:=f1v (seT (psL P)).length hS (b0l (seT (psL P)));generalize seT (psL P)=S at*;unfold spV;rw [hx];refine fEx Tryz.func10 ?_;repeat' ((conv=>whnf);first|refine cOx (l:= [0,1,2,3,4,5,6,7,8,9,18]) c1 ?_|refine cOx (l:= [0,10,11,12,13,14,15,16,17,18]) c2 ?_|refine cOx (l:= [0,20,21]) c5 ?_|refine a0a ?_|(apply bRx<;>intro h<;>try (exfalso;(try dsimp only at h);omega)))
 all_goals (conv=>whnf)
 all_goals first
  |(exfalso;first|omega|contradiction)
  |exact rOx [0,1,2,3,4,5,6,7,8,9,10,11,12,13,14,15,16,17,18,7,8,9,14,15,16,17] e0W
  |exact l0x (l:= [0,1,2,3,4,5,6,7,8,9,10,11,12,13,14,15,16,17,18,7,8,9,14,15,16,17]) rfl (by simp) rfl ⟨rfl,rfl,rfl,rfl,rfl,rfl,rfl,rfl,rfl,rfl,trivial⟩
  |trace_state
end
end
end Go.Proofs.YtegbehopnoocnaaGreatDoor
set_option maxRecDepth 100000
namespace Go.Proofs.YtegbehopnoocnaaGreatDoor
open Go.RowKit Go.Sy
attribute [local irreducible] a0q a0r a0k a0P sortI
theorem b1V {pr:List ByteArray} {ds cd hol:List Int} {B:List Bk} {L:List Rc} {k hn m nc hd ml:Nat} {cut:Int}
  (h:Cpi pr ds cd B L k) (he:b0u pr=0) (hk:k<=60) (hsz:∀k,(pr.getD k ⟨#[]⟩).size<=100000) (hh:hol.length=hn) (hn4:hn<=100000) (hm:ds.length=m) (hc:cd.length=nc) (hd2:(ddS hol).length=hd) (hml:L.length=ml) (x:Sp) (hq:x.q.l<=1000) (hz:∀i,(x.q.at i).f.size<=9223372036854775807/\(x.q.at i).t.size<=9223372036854775807) (ht:x.g.size<=9223372036854775807):
  ∃ds' cd' B' L',Cpi pr ds' cd' B' L' (k+1)/\FC Tryz.prog 19 10 [.ptr 1 0 0 0,.ptr 10 0 0 0,spV 18 0 x] (plH pr.length hn m nc hd ml cut hol ds cd B L pr x.q) (a0h (.bool true) (plO pr.length ds'.length cd'.length L'.length cut ds' cd' B' L' pr) 26):=by
 by_cases h0:x.c=0
 .obtain ⟨ds',B',L',h1,h2⟩:=z0q (cut:=cut) h he hk hsz hh hn4 hm hc hd2 hml x h0;rw [<-hc] at h2;exact ⟨ds',cd,B',L',h1,by rw [<-hc];exact h2⟩
 by_cases h1:x.c=1
 .obtain ⟨cd',L',h2,h3⟩:=v0y (cut:=cut) h he hk hsz hh hn4 hm hc hd2 hml x h1;rw [<-hm] at h3;exact ⟨ds,cd',B,L',h2,by rw [<-hm];exact h3⟩
 by_cases h2:x.c=2
 .have h3:=s0h (cut:=cut) h he hk hsz hh hn4 hm hc hd2 hml x h2 hq hz ht;exact ⟨ds,cd,B,L,h.up (l1L k),by rw [hm,hc,hml];exact h3⟩
 by_cases h3:x.c=3
 .have h4:=f1B (cut:=cut) h he hk hsz hh hn4 hm hc hd2 hml x h3;exact ⟨ds,cd,B,L,h.up (l1L k),by rw [hm,hc,hml];exact h4⟩
 have h4:=z0r (cut:=cut) h he hk hsz hh hn4 hm hc hd2 hml x h0 h1 h2 h3;exact ⟨ds,cd,B,L,h.up (l1L k),by rw [hm,hc,hml];exact h4⟩
structure Sq where
 n:Nat
 ns:List Nat
 c:List Int
 t:List Int
 d:List Int
 f:List ByteArray
 g:List ByteArray
 a:List Int
 m:List ByteArray
 p:List ByteArray
 rf:Nat->List ByteArray
 rt:Nat->List ByteArray
 rn:Nat->List Int
 rd:Nat->List Int
abbrev Sq.q (S:Sq) (i:Nat):RL:=⟨S.rf i,S.rt i,S.rn i,S.rd i,S.ns.getD i 0⟩
abbrev Sq.sp (S:Sq) (i:Nat):Sp:=⟨S.c.getD i 0,S.t.getD i 0,S.d.getD i 0,S.f.getD i ⟨#[]⟩,S.g.getD i ⟨#[]⟩,S.a.getD i 0,S.m.getD i ⟨#[]⟩,S.q i,S.p.getD i ⟨#[]⟩⟩
abbrev Sq.fam (S:Sq):Option HB:=some (.fam true (fun x=>x<S.n) (fun x=>rlB (S.q x)))
abbrev Sq.row (S:Sq):Option HB:=some (.one true (.cols S.n [.sc (.ints .u8 S.c),.sc (.ints .i64 S.t),.sc (.ints .i64 S.d),.sc (.strs S.f),.sc (.strs S.g),.sc (.ints .i64 S.a),.sc (.strs S.m),.own 4 S.ns,.sc (.strs S.p)]))
theorem o0u (S:Sq) (i:Nat) (hi:i<S.n) (hl:S.ns.getD i 0<=maxLen):FC Tryz.prog 2 9 [spV 1 i (S.sp i)] [(1,S.fam)] (a0h (.bool (shP (S.sp i))) [] 2):=by
 have c0:=f0r [(1,⟨i,fun x=>x<S.n,fun x=>rlB (S.q x)⟩)] (by exact ⟨⟨by decide,by decide,_,_,rfl,hi,rfl,.inl rfl⟩,trivial⟩) (by exact ⟨rfl,trivial⟩) (by exact trivial) a0b (z0n (S.sp i) hl);have e:SV.mems (fmu [(1,⟨i,fun x=>x<S.n,fun x=>rlB (S.q x)⟩)]) [spV 1 0 (S.sp i)]= [spV 1 i (S.sp i)]:=by
  show [SV.agg [_,_,_,_,_,_,_,.sl 1 (0+i) 0 _,_]]=_;rw [z0z];rfl
 have e2:SV.agg [.int .u8 (S.sp i).c,.int .i64 (S.sp i).t,.int .i64 (S.sp i).d,.str (S.sp i).f,.str (S.sp i).g,.int .i64 (S.sp i).a,.str (S.sp i).m,.sl 1 0 0 (S.sp i).q.l,.str (S.sp i).p]=spV 1 0 (S.sp i):=rfl;rw [e2,e] at c0;exact c0
abbrev i1U (np hn m nc hd ml:Nat) (cut:Int) (hol ds cd:List Int) (B:List Bk) (L:List Rc) (pr:List ByteArray) (S:Sq):a0j:=
 (0,some (GB glT))::(18,S.fam)::(1,cyC true 2 4 5 6 np cut)::(2,v0C true 3)::(3,tmM true hd (ddS hol))::(4,cyP true np pr)::(6,tmM false nc cd)::
 (10,h1G false 11 13 14 np ml cut)::(11,rcC true 12 hn)::(12,inB hn hol)::(13,cyP true np pr)::(14,rgP false 15 ml)::(15,fmB false ml (g6 L 16))::(16,fmB false ml (g7q 13 L 17 np))::(17,fmB false ml (g8 L))::t0r 5 7 8 9 np m ds B (sortS pr)
theorem h1K {pr:List ByteArray} {ds cd hol:List Int} {B:List Bk} {L:List Rc} {k hn m nc hd ml:Nat} {cut:Int} (S:Sq) (i:Nat) (hi:i<S.n)
  (h:Cpi pr ds cd B L k) (he:b0u pr=0) (hk:k<=60) (hsz:∀k,(pr.getD k ⟨#[]⟩).size<=100000) (hh:hol.length=hn) (hn4:hn<=100000) (hm:ds.length=m) (hc:cd.length=nc) (hd2:(ddS hol).length=hd) (hml:L.length=ml) (hq:S.ns.getD i 0<=1000) (hz:∀j,((S.q i).at j).f.size<=9223372036854775807/\((S.q i).at j).t.size<=9223372036854775807) (ht:(S.g.getD i ⟨#[]⟩).size<=9223372036854775807):
  ∃ds' cd' B' L',Cpi pr ds' cd' B' L' (k+1)/\FC Tryz.prog 19 10 [.ptr 1 0 0 0,.ptr 10 0 0 0,spV 18 i (S.sp i)] (i1U pr.length hn m nc hd ml cut hol ds cd B L pr S) (a0h (.bool true) (plO pr.length ds'.length cd'.length L'.length cut ds' cd' B' L' pr) 26):=by
 obtain ⟨ds',cd',B',L',h1,h2⟩:=b1V (cut:=cut) h he hk hsz hh hn4 hm hc hd2 hml (S.sp i) hq hz ht;refine ⟨ds',cd',B',L',h1,?_⟩;have c0:=f0r [(18,⟨i,fun x=>x<S.n,fun x=>rlB (S.q x)⟩)] (by exact ⟨⟨by decide,by decide,_,_,rfl,hi,rfl,.inl rfl⟩,trivial⟩)
  (by exact ⟨q0a _ _,rfl,rfl,rfl,rfl,rfl,rfl,rfl,rfl,rfl,rfl,rfl,fun _ _=>rfl,fun _ _=>rfl,fun _ _=>rfl,rfl,fun _ _=>rfl,fun _ _=>rfl,fun _ _=>rfl,trivial⟩)
  (by exact ⟨rfl,rfl,rfl,fun _ _=>rfl,fun _ _=>rfl,fun _ _=>rfl,rfl,fun _ _=>rfl,fun _ _=>rfl,fun _ _=>rfl,trivial⟩) e0W h2
 have e:SV.mems (fmu [(18,⟨i,fun x=>x<S.n,fun x=>rlB (S.q x)⟩)]) [.ptr 1 0 0 0,.ptr 10 0 0 0,spV 18 0 (S.sp i)]= [.ptr 1 0 0 0,.ptr 10 0 0 0,spV 18 i (S.sp i)]:=by
  show [SV.ptr 1 0 0 0,SV.ptr 10 0 0 0,SV.agg [_,_,_,_,_,_,_,.sl 18 (0+i) 0 _,_]]=_;rw [z0z];rfl
 have eH:a1P [(18,⟨i,fun x=>x<S.n,fun x=>rlB (S.q x)⟩)] (plH pr.length hn m nc hd ml cut hol ds cd B L pr (S.sp i).q)=i1U pr.length hn m nc hd ml cut hol ds cd B L pr S:=by
  show (0,some (l0r _ 0 (GB glT)))::_=_;rw [x0X];rfl
 rw [e,eH] at c0;exact c0
theorem s0i (d:Int) (i k:Nat) (t p:ByteArray):FC Tryz.prog 2 27 [.nptr,.int .i64 d,.sl 1 i 0 k,.str t,.str p] [] (a0h (.tup [.nsl,.int .i64 6]) [] 2):=by
 refine fEx Tryz.func27 ?_;repeat' ((conv=>whnf);first|refine a0a ?_|(apply bRx<;>intro h<;>try (exfalso;(try dsimp only at h);omega)))
 all_goals (conv=>whnf)
 all_goals first
  |exact rOx [0,1] a0b
  |trace_state
theorem q0x (d:Int) (i k:Nat) (t p:ByteArray):FC Tryz.prog 2 28 [.nptr,.int .i64 d,.sl 1 i 0 k,.str t,.str p] [] (a0h (.tup [.nsl,.int .i64 6]) [] 2):=by
 refine fEx Tryz.func28 ?_;repeat' ((conv=>whnf);first|refine a0a ?_|(apply bRx<;>intro h<;>try (exfalso;(try dsimp only at h);omega)))
 all_goals (conv=>whnf)
 all_goals first
  |exact rOx [0,1] a0b
  |trace_state
theorem u0k (x:Sp) (k:Nat):FC Tryz.prog 2 10 [.nptr,.nptr,spV 1 k x] [] (a0h (.bool true) [] 2):=by
 have c1:=b1S x.t x.a x.f x.g x.m;have c2:=z0l x.t x.a x.f x.g x.m;have c3:=z0k x.d;have c4:=v0w x.d;have c5:=h1F x.t;have c6:=z0j x.t;have c7:=o0t x.d;have c8:=l0w x.d;have c9:=v0x x.d;have c10:=s0g x.d;have d1:=s0i x.d k x.q.l x.g x.p;have d2:=q0x x.d k x.q.l x.g x.p;have d3:=u0g;have d4:=u0h;unfold spV;by_cases h0:x.c=0
 .rw [h0];refine fEx Tryz.func10 ?_;repeat' ((conv=>whnf);first|refine cPx c1 ?_|refine cPx c2 ?_|refine a0a ?_|(apply bRx<;>intro h<;>try (exfalso;(try dsimp only at h);omega)))
  all_goals (conv=>whnf)
  all_goals first
   |(exfalso;first|omega|contradiction)
   |exact rOx [0,1] a0b
   |trace_state
 by_cases h1:x.c=1
 .rw [h1];refine fEx Tryz.func10 ?_;repeat' ((conv=>whnf);first|refine cPx c3 ?_|refine cPx c4 ?_|refine cPx d3 ?_|refine a0a ?_|(apply bRx<;>intro h<;>try (exfalso;(try dsimp only at h);omega)))
  all_goals (conv=>whnf)
  all_goals first
   |(exfalso;first|omega|contradiction)
   |exact rOx [0,1] a0b
   |trace_state
 by_cases h2:x.c=2
 .rw [h2];refine fEx Tryz.func10 ?_;repeat' ((conv=>whnf);first|refine cOx (l:= [0,1]) d1 ?_|refine cOx (l:= [0,1]) d2 ?_|refine cPx d4 ?_|refine a0a ?_|(apply bRx<;>intro h<;>try (exfalso;(try dsimp only at h);omega)))
  all_goals (conv=>whnf)
  all_goals first
   |(exfalso;first|omega|contradiction)
   |exact rOx [0,1] a0b
   |trace_state
 by_cases h3:x.c=3
 .rw [h3];refine fEx Tryz.func10 ?_;repeat' ((conv=>whnf);first|refine cPx c5 ?_|refine cPx c6 ?_|refine a0a ?_|(apply bRx<;>intro h<;>try (exfalso;(try dsimp only at h);omega)))
  all_goals (conv=>whnf)
  all_goals first
   |(exfalso;first|omega|contradiction)
   |exact rOx [0,1] a0b
   |trace_state
 refine fEx Tryz.func10 ?_;repeat' ((conv=>whnf);first|refine cPx c7 ?_|refine cPx c8 ?_|refine cPx c9 ?_|refine cPx c10 ?_|refine cPx d3 ?_|refine a0a ?_|(apply bRx<;>intro h<;>try (exfalso;(try dsimp only at h);omega)))
 all_goals (conv=>whnf)
 all_goals first
  |(exfalso;first|omega|contradiction)
  |exact rOx [0,1] a0b
  |trace_state
end Go.Proofs.YtegbehopnoocnaaGreatDoor
namespace Go.Proofs.YtegbehopnoocnaaGreatDoor
open Go.RowKit Go.Sy
attribute [local irreducible] a0q a0r a0k a0P sortI
abbrev lpH (n0:Nat) (hol:List Int) (np:Nat) (pr:List ByteArray) (S:Sq):a0j:= [(0,some (GB glT)),(1,inB n0 hol),(2,cyP true np pr),(3,S.row),(4,S.fam)]
structure Sq.ok (S:Sq):Prop where
 ns:∀i,i<S.n->S.ns.getD i 0<=maxLen
 rf:∀i,i<S.n->(S.rf i).length=S.ns.getD i 0
 rt:∀i,i<S.n->(S.rt i).length=S.ns.getD i 0
theorem Sq.ok.sz {S:Sq} (h:S.ok) {i:Nat} (hi:i<S.n) (hs:shP (S.sp i)=true):S.ns.getD i 0<=1000/\(∀j,((S.q i).at j).f.size<=9223372036854775807/\((S.q i).at j).t.size<=9223372036854775807)/\(S.g.getD i ⟨#[]⟩).size<=9223372036854775807:=by
 unfold shP at hs;simp only [k0o,decide_eq_true_eq] at hs;obtain ⟨h1,h2,h3,h4,h5⟩:=hs;obtain ⟨a,b⟩:=z0m _ h1;have a':S.ns.getD i 0<=10:=a;have h3':(S.g.getD i ⟨#[]⟩).size<=40:=h3;refine ⟨by omega,fun j=> ?_,by omega⟩;by_cases hj:j<S.ns.getD i 0
 .obtain ⟨c1,c2⟩:=b j hj;have c1':((S.q i).at j).f.size<=40:=c1;have c2':((S.q i).at j).t.size<=40:=c2;omega
 .have e1:((S.q i).at j).f=⟨#[]⟩:=by
   show (S.rf i).getD j ⟨#[]⟩=_;rw [List.getD,r0b (by rw [h.rf i hi];omega)];rfl
  have e2:((S.q i).at j).t=⟨#[]⟩:=by
   show (S.rt i).getD j ⟨#[]⟩=_;rw [List.getD,r0b (by rw [h.rt i hi];omega)];rfl
  rw [e1,e2];exact ⟨by decide,by decide⟩
def pnK (pr:List ByteArray) (k:Nat):Prop:=∀i,i<k->(pr.getD i ⟨#[]⟩).size<=100
theorem h1L {pr:List ByteArray} {n:Nat} (hl:pr.length=n) (h:pnK pr n) (k:Nat):(pr.getD k ⟨#[]⟩).size<=100:=by
 by_cases hk:k<n
 .exact h k hk
 .rw [List.getD,r0b (by omega)];exact (by decide:(0:Nat)<=100)
section
variable (n0:Nat) (hol:List Int) (np:Nat) (pr:List ByteArray) (S:Sq) (cut:Int) (h0:hol.length=n0) (h1:pr.length=np) (hS:S.ok)
abbrev lpB (n0:Nat) (cut:Int) (np:Nat):Option HB:=some (.one false (.cells [.sl 1 0 0 n0,.int .i64 cut,.sl 2 0 0 np]))
def v0z (S:Sq) (k:Nat):VS:=⟨[(1,.sl 3 0 0 S.n),(10,.nptr),(12,.nptr),(14,.int .i64 k)],[(0,some (GB glT)),(3,S.row),(4,S.fam)],5⟩
abbrev lmH (n0:Nat) (hol:List Int) (S:Sq) (np:Nat) (pr:List ByteArray) (cut:Int) (ds cd:List Int) (B:List Bk) (L:List Rc):a0j:=
 (0,some (GB glT))::(1,inB n0 hol)::(3,S.row)::(4,S.fam)::(6,v0C false 7)::(7,tmM false (ddS hol).length (ddS hol))::(8,rcC false 1 n0)::(9,cyC false 6 10 11 12 np cut)::(10,cyP false np pr)::(12,tmM false cd.length cd)::
 (16,h1G false 8 17 18 np L.length cut)::(17,cyP false np pr)::(18,rgP false 19 L.length)::(19,fmB false L.length (g6 L 20))::(20,fmB false L.length (g7q 17 L 21 np))::(21,fmB false L.length (g8 L))::t0r 11 13 14 15 np ds.length ds B (sortS pr)
def lmS (n0:Nat) (hol:List Int) (S:Sq) (np:Nat) (pr:List ByteArray) (cut:Int) (x:Nat×List Int×List Int×List Bk×List Rc):VS:=
 ⟨[(1,.sl 3 0 0 S.n),(10,.ptr 9 0 0 0),(12,.ptr 16 0 0 0),(14,.int .i64 x.1)],lmH n0 hol S np pr cut x.2.1 x.2.2.1 x.2.2.2.1 x.2.2.2.2,22⟩
include h0 h1 hS
theorem b1W (hn0:n0<=100) (h60:S.n<=60) (he:b0u pr=0) (hsz:∀k,(pr.getD k ⟨#[]⟩).size<=100) (i:Nat) (ds cd:List Int) (B:List Bk) (R:List Rc) (hi:i<S.n) (hI:Cpi pr ds cd B R i) (hs:shP (S.sp i)=true)
  (K:Exit->VS->Prop) (hK:∀v,(∃(y:Nat×List Int×List Int×List Bk×List Rc) (l:List Nat) (u:List Up),(y.1<=S.n/\Cpi pr y.2.1 y.2.2.1 y.2.2.2.1 y.2.2.2.2 y.1)/\S.n-y.1<S.n-i/\upK u v (fun v=>Weak 5 l v (lmS n0 hol S np pr cut y)))->K .normal v):
  d0E Tryz.prog T 5 (lpc Tryz.f3 1) (lmS n0 hol S np pr cut (i,ds,cd,B,R)) K:=by
 subst h1;obtain ⟨z1,z2,z3⟩:=hS.sz hi hs;have cS:=o0u S i hi (hS.ns i hi);rw [hs] at cS;obtain ⟨ds',cd',B',L',hN,cP⟩:=h1K (cut:=cut) S i hi hI he (by omega) (fun k=>g1x (hsz k) (by decide)) h0 (by omega) rfl rfl rfl rfl z1 z2 z3;have hbl:=hN.r.len;have hml:ds'.length<=100000:=by
  have h2:=hN.r.mv;have h3:ds'.length<=L'.length:=by
   have:=r0H ds' (rcD L') hN.b.nd (fun d hd=>by
    by_cases q:d∈rcD L'
    .exact q
    .have:=(h2 d).2 hd;unfold b0a at this;rw [if_neg q] at this;cases this)
   rwa [e0a] at this
  omega
 have cA:=x0E pr.length ds'.length cd'.length cut ds' cd' rfl rfl hml;have cB:=t0E L' L'.length rfl (by omega) pr.length cut;rw [hN.r.open hN.b.nd] at cB;have hol2:(e0J ds' cd').length<=100000:=by
  unfold e0J;rw [(f0H _).length_eq];exact g1x (j1L _ _) hml
 have cD:=f1w (e0J ds' cd').length hol2 (e0J ds' cd');clear h0 hS hI hs hsz;generalize e0J ds' cd'=O at*;unfold lmS;repeat' ((conv=>whnf);first|refine cOx (l:= [0,4]) cS ?_|refine cOx (l:= [0,9,6,7,10,11,12,13,14,15,16,8,1,17,18,19,20,21,4]) cP ?_|refine cOx (l:= [0,9,6,7,10,11,12,22,23,24]) cA ?_|refine cOx (l:= [0,16,8,1,17,25,26,27,28]) cB ?_|refine cOx (l:= [0,29,30]) cD ?_|refine a0a ?_|(apply bRx<;>intro h<;>try (exfalso;(try dsimp only at h);omega)))
 all_goals (conv=>whnf)
 all_goals first
  |(exfalso;omega)
  |skip
 exact hK _ ⟨(i+1,ds',cd',B',L'),[0,1,2,3,4,5,6,7,8,9,10,11,12,22,23,24,16,17,25,26,27,28],[],⟨by dsimp only;omega,hN⟩,by dsimp only;omega,⟨rfl,⟨rfl,rfl,rfl,congrArg (fun z=>some (SV.int .i64 z)) (a0e (by omega)),trivial⟩,⟨gwk rfl,rfl,rfl,rfl,rfl,rfl,rfl,rfl,rfl,rfl,rfl,rfl,rfl,rfl,rfl,rfl,rfl,rfl,rfl,rfl,trivial⟩⟩⟩
theorem z0s:FC Tryz.prog 5 3 [.agg [.sl 1 0 0 n0,.int .i64 cut,.sl 2 0 0 np],.sl 3 0 0 S.n] (lpH n0 hol np pr S) (a0h (.bool true) [] 5):=by
 have cA:=x0R;by_cases hB:100<n0\/20<np\/60<S.n
 .refine fEx Tryz.func3 ?_;repeat' ((conv=>whnf);first|refine cPx cA ?_|refine a0a ?_|(apply bRx<;>intro h<;>try (exfalso;(try dsimp only at h);omega)))
  all_goals (conv=>whnf)
  all_goals first
   |(exfalso;omega)
   |exact rOx [0,1,2,3,4] a0b
   |trace_state
 have eM:maxLen=9223372036854775807:=rfl;have g1:=w0U hol n0 h0;have g2:=e1w hol n0 (by omega);refine fEx Tryz.func3 ?_;repeat' ((conv=>whnf);first|refine cPx cA ?_|refine a0a ?_|(apply bRx<;>intro h<;>try (exfalso;(try dsimp only at h);omega)))
 all_goals (conv=>whnf)
 all_goals first
  |(exfalso;omega)
  |skip
 refine a0f (fun k:Nat=>⟨[(1,.sl 3 0 0 S.n),(2,.ptr 5 0 0 0),(5,.int .i64 k)],(5,lpB n0 cut np)::lpH n0 hol np pr S,6⟩) (fun k=>k<=np/\pnK pr k) (fun k=>np-k) 0 [0,1,2,3,4,5] [] wHx ⟨w0F _,fun i hi=>absurd hi (k1G _)⟩ ?_;rintro k ⟨hk,hp⟩;by_cases hk2:k<np
 .have q1:(pr.getD ((k:Int).toNat+0) ⟨#[]⟩).size=(pr.getD k ⟨#[]⟩).size:=rfl;have hp2:(pr.getD k ⟨#[]⟩).size<=100->pnK pr (k+1):=fun h i hi=>by
   by_cases e:i=k
   .subst e;exact h
   .exact hp i (by omega)
  repeat' ((conv=>whnf);first|refine cPx cA ?_|refine a0a ?_|(apply bRx<;>intro h<;>try (exfalso;(try dsimp only at h);omega)))
  all_goals (conv=>whnf)
  all_goals first
   |(exfalso;omega)
   |exact rOx [0,1,2,3,4] a0b
   |exact ⟨k+1,[0,1,2,3,4,5],[],⟨hk2,hp2 (by omega)⟩,(show np-(k+1)<np-k by omega),⟨rfl,⟨rfl,rfl,congrArg (fun z=>some (SV.int .i64 z)) (a0e (by omega)),trivial⟩,⟨rfl,gwk rfl,rfl,rfl,rfl,rfl,trivial⟩⟩⟩
   |trace_state
 have e:k=np:=by omega
 subst e;have hsz:=h1L h1 hp;unfold g1r at g1;unfold r3O at g2;by_cases hz:c1r hol n0=0
 case neg=>
  rw [if_neg hz] at g1 g2;have g3:=f1x cut k;have g4:=b1T cut k;generalize c1r hol n0=e at*;repeat' ((conv=>whnf);first|refine cOx (l:= [0,1]) g1 ?_|refine cOx (l:= [0,1]) g2 ?_|refine cOx (l:= [0,2]) g3 ?_|refine cOx (l:= [0,2]) g4 ?_|refine a0a ?_|(apply bRx<;>intro h<;>try (exfalso;(try dsimp only at h);omega)))
  all_goals (conv=>whnf)
  all_goals first
   |(exfalso;omega)
   |skip
  refine a0f (v0z S) (fun k=>k<=S.n) (fun k=>S.n-k) 0 [0,1,2,3,4] [] wHx (w0F _) ?_;intro k hk;by_cases hk2:k<S.n
  .have cS:=o0u S k hk2 (hS.ns k hk2);have cP:=u0k (S.sp k) k;unfold v0z;generalize shP (S.sp k)=b at*;repeat' ((conv=>whnf);first|refine cOx (l:= [0,4]) cS ?_|refine cOx (l:= [0,4]) cP ?_|refine cPx q0v ?_|refine cPx u0j ?_|refine cPx u0i ?_|refine cPx cA ?_|refine a0a ?_|(apply bRx<;>intro h<;>try (exfalso;(try dsimp only at h);omega)))
   all_goals (conv=>whnf)
   all_goals first
    |(exfalso;omega)
    |exact rOx [0,1,2,3,4] a0b
    |exact ⟨k+1,[0,1,2,3,4],[],hk2,(show S.n-(k+1)<S.n-k by omega),⟨rfl,⟨rfl,rfl,rfl,congrArg (fun z=>some (SV.int .i64 z)) (a0e (by omega)),trivial⟩,⟨gwk rfl,rfl,rfl,trivial⟩⟩⟩
    |trace_state
  .unfold v0z;repeat' ((conv=>whnf);first|refine cPx cA ?_|refine a0a ?_|(apply bRx<;>intro h<;>try (exfalso;(try dsimp only at h);omega)))
   all_goals (conv=>whnf)
   all_goals first
    |(exfalso;omega)
    |exact rOx [0,1,2,3,4] a0b
    |trace_state
 rw [if_pos hz] at g1 g2;have g3:=c1H cut pr k h1;have g4:=f1y cut pr k h1 (fun i=>g1x (hsz i) (by decide));unfold cnO at g3;unfold i1I at g4;by_cases hy:cnE cut pr=0
 case neg=>
  rw [if_neg hy] at g3 g4;generalize cnE cut pr=e at*;repeat' ((conv=>whnf);first|refine cOx (l:= [0,1]) g1 ?_|refine cOx (l:= [0,1]) g2 ?_|refine cOx (l:= [0,6,2]) g3 ?_|refine cOx (l:= [0,8,2]) g4 ?_|refine a0a ?_|(apply bRx<;>intro h<;>try (exfalso;(try dsimp only at h);omega)))
  all_goals (conv=>whnf)
  all_goals first
   |(exfalso;omega)
   |skip
  refine a0f (v0z S) (fun k=>k<=S.n) (fun k=>S.n-k) 0 [0,1,2,3,4] [] wHx (w0F _) ?_;intro k hk;by_cases hk2:k<S.n
  .have cS:=o0u S k hk2 (hS.ns k hk2);have cP:=u0k (S.sp k) k;unfold v0z;generalize shP (S.sp k)=b at*;repeat' ((conv=>whnf);first|refine cOx (l:= [0,4]) cS ?_|refine cOx (l:= [0,4]) cP ?_|refine cPx q0v ?_|refine cPx u0j ?_|refine cPx u0i ?_|refine cPx cA ?_|refine a0a ?_|(apply bRx<;>intro h<;>try (exfalso;(try dsimp only at h);omega)))
   all_goals (conv=>whnf)
   all_goals first
    |(exfalso;omega)
    |exact rOx [0,1,2,3,4] a0b
    |exact ⟨k+1,[0,1,2,3,4],[],hk2,(show S.n-(k+1)<S.n-k by omega),⟨rfl,⟨rfl,rfl,rfl,congrArg (fun z=>some (SV.int .i64 z)) (a0e (by omega)),trivial⟩,⟨gwk rfl,rfl,rfl,trivial⟩⟩⟩
    |trace_state
  .unfold v0z;repeat' ((conv=>whnf);first|refine cPx cA ?_|refine a0a ?_|(apply bRx<;>intro h<;>try (exfalso;(try dsimp only at h);omega)))
   all_goals (conv=>whnf)
   all_goals first
    |(exfalso;omega)
    |exact rOx [0,1,2,3,4] a0b
    |trace_state
 rw [if_pos hy] at g3 g4;have he:b0u pr=0:=by
  unfold cnE at hy;split at hy
  .cases hy
  .exact hy
 repeat' ((conv=>whnf);first|refine cOx (l:= [0,1]) g1 ?_|refine cOx (l:= [0,1]) g2 ?_|refine cOx (l:= [0,6,2]) g3 ?_|refine cOx (l:= [0,8,2]) g4 ?_|refine a0a ?_|(apply bRx<;>intro h<;>try (exfalso;(try dsimp only at h);omega)))
 all_goals (conv=>whnf)
 all_goals first
  |(exfalso;omega)
  |skip
 have hI:=f1A pr;refine a0E (lmS n0 hol S k pr cut) (fun y=>y.1<=S.n/\Cpi pr y.2.1 y.2.2.1 y.2.2.2.1 y.2.2.2.2 y.1) (fun y=>S.n-y.1) (0,[],[],[],[]) [0,1,2,3,4,5,6,7,8,9,10,11,12,13,14,15,16,17,18,19,20,21] [] wHx ⟨w0F _,hI⟩ ?_;rintro ⟨i,ds,cd,B,R⟩ ⟨hi,hI⟩;dsimp only at hi hI;by_cases hi2:i<S.n
 .by_cases hs:shP (S.sp i)=true
  .exact b1W n0 hol k pr S cut h0 h1 hS (by omega) (by omega) he hsz i ds cd B R hi2 hI hs _ (fun v hv=>hv)
  .have hs2:shP (S.sp i)=false:=by simpa using hs
   have cS:=o0u S i hi2 (hS.ns i hi2);rw [hs2] at cS;unfold lmS;repeat' ((conv=>whnf);first|refine cOx (l:= [0,4]) cS ?_|refine cPx cA ?_|refine a0a ?_|(apply bRx<;>intro h<;>try (exfalso;(try dsimp only at h);omega)))
   all_goals (conv=>whnf)
   all_goals first
    |(exfalso;omega)
    |exact rOx [0,1,2,3,4] a0b
    |trace_state
 .unfold lmS;repeat' ((conv=>whnf);first|refine cPx cA ?_|refine a0a ?_|(apply bRx<;>intro h<;>try (exfalso;(try dsimp only at h);omega)))
  all_goals (conv=>whnf)
  all_goals first
   |(exfalso;omega)
   |exact rOx [0,1,2,3,4] a0b
   |trace_state
end
end Go.Proofs.YtegbehopnoocnaaGreatDoor
namespace Go.Proofs.YtegbehopnoocnaaGreatDoor
open Go.RowKit Go.Sy
theorem cyclePlays_fc (l0_0:Nat) (hl0_0:l0_0<=maxLen) (q0_0_0:List Int) (eq0_0_0:q0_0_0.length=l0_0) (wq0_0_0:∀x∈q0_0_0,(Lit.int .i64 x).wf=true) (x0_1:Int) (hx0_1:(Lit.int .i64 x0_1).wf=true) (l0_2:Nat) (hl0_2:l0_2<=maxLen) (q0_2_0:List ByteArray) (eq0_2_0:q0_2_0.length=l0_2) (wq0_2_0:∀x∈q0_2_0,x.size<=maxLen) (l1:Nat) (hl1:l1<=maxLen) (ns1:List Nat) (ens1:ns1.length=l1) (hns1:∀i,i<l1->ns1.getD i 0<=maxLen) (q1_0:List Int) (eq1_0:q1_0.length=l1) (wq1_0:∀x∈q1_0,(Lit.int .u8 x).wf=true) (q1_1:List Int) (eq1_1:q1_1.length=l1) (wq1_1:∀x∈q1_1,(Lit.int .i64 x).wf=true) (q1_2:List Int) (eq1_2:q1_2.length=l1) (wq1_2:∀x∈q1_2,(Lit.int .i64 x).wf=true) (q1_3:List ByteArray) (eq1_3:q1_3.length=l1) (wq1_3:∀x∈q1_3,x.size<=maxLen) (q1_4:List ByteArray) (eq1_4:q1_4.length=l1) (wq1_4:∀x∈q1_4,x.size<=maxLen) (q1_5:List Int) (eq1_5:q1_5.length=l1) (wq1_5:∀x∈q1_5,(Lit.int .i64 x).wf=true) (q1_6:List ByteArray) (eq1_6:q1_6.length=l1) (wq1_6:∀x∈q1_6,x.size<=maxLen) (q1_8:List ByteArray) (eq1_8:q1_8.length=l1) (wq1_8:∀x∈q1_8,x.size<=maxLen) (z1_0:Nat->List ByteArray) (ez1_0:∀i,i<l1->(z1_0 i).length=ns1.getD i 0) (wz1_0:∀i,i<l1->∀x∈z1_0 i,x.size<=maxLen) (z1_1:Nat->List ByteArray) (ez1_1:∀i,i<l1->(z1_1 i).length=ns1.getD i 0) (wz1_1:∀i,i<l1->∀x∈z1_1 i,x.size<=maxLen) (z1_2:Nat->List Int) (ez1_2:∀i,i<l1->(z1_2 i).length=ns1.getD i 0) (wz1_2:∀i,i<l1->∀x∈z1_2 i,(Lit.int .i64 x).wf=true) (z1_3:Nat->List Int) (ez1_3:∀i,i<l1->(z1_3 i).length=ns1.getD i 0) (wz1_3:∀i,i<l1->∀x∈z1_3 i,(Lit.int .i64 x).wf=true):
  FC Tryz.prog 5 3 [.agg [.sl 1 0 0 l0_0,.int .i64 x0_1,.sl 2 0 0 l0_2],.sl 3 0 0 l1] [(0,some (GB glT)),(1,some (.one true (.cols l0_0 [.sc (.ints .i64 q0_0_0)]))),(2,some (.one true (.cols l0_2 [.sc (.strs q0_2_0)]))),(3,some (.one true (.cols l1 [.sc (.ints .u8 q1_0),.sc (.ints .i64 q1_1),.sc (.ints .i64 q1_2),.sc (.strs q1_3),.sc (.strs q1_4),.sc (.ints .i64 q1_5),.sc (.strs q1_6),.own 4 ns1,.sc (.strs q1_8)]))),(4,some (.fam true (fun x=>x<l1) (fun x=> .cols (ns1.getD x 0) [.sc (.strs (z1_0 x)),.sc (.strs (z1_1 x)),.sc (.ints .i64 (z1_2 x)),.sc (.ints .i64 (z1_3 x))])))] (a0h (.bool true) [] 5):=z0s l0_0 q0_0_0 l0_2 q0_2_0 ⟨l1,ns1,q1_0,q1_1,q1_2,q1_3,q1_4,q1_5,q1_6,q1_8,z1_0,z1_1,z1_2,z1_3⟩ x0_1 eq0_0_0 eq0_2_0 ⟨hns1,ez1_0,ez1_1⟩
end Go.Proofs.YtegbehopnoocnaaGreatDoor
