/- Several texts in one: Kk4. -/
import Derived.Test.YtmnjebhdclmcfaaGreatDoorP7
set_option linter.unusedVariables false
set_option linter.unusedSimpArgs false
set_option maxRecDepth 100000
open Go.Proofs.Tryz hiding sortI
open Go.IntKind (i64 u8 u64)
attribute [local irreducible] Go.Sy.a0n Go.Sy.a0o Go.Sy.a0i Go.Sy.a0E
namespace Go.Sy
abbrev t1W:=@List.mem_filter
abbrev t1l:=@List.pairwise_append
abbrev u1E:=@List.take_zero
abbrev u1a:=@List.drop_of_length_le
end Go.Sy
namespace Go.Proofs.YtmnjebhdclmcfaaGreatDoor
open Go.RowKit Go.Sy
section
attribute [local irreducible] sortI
theorem d1C:∀(f:Nat) {s:BA} {acc g:List BA},ucR f s acc=some g->4*g.length<=4*acc.length+s.size
 |0,s,acc,g,h=>by cases h
 |f+1,s,acc,g,h=>by
  simp only [ucR] at h;split at h
  .simp_all
  .split at h
   .rename_i hA;split at h
    .have ih:=d1C f h;have h4:=(d1m hA.1).2.1;rw [s0c,m1T,q0M] at ih;omega
    grind
   grind
theorem l1F {now:List BA}:∀{f n:Nat} {h:Int} {t:BA} {g:List BA} {n':Nat} {h':Int},rdK now f n h t=some (g,n',h')->4*g.length<=t.size+45*(n'-n):=by
 intro f;induction f with
 |zero=>intro n h t g n' h' e;cases e
 |succ f ih=>
  intro n h t g n' h' e;by_cases ho:m0X h (now.getD n ⟨#[]⟩)
  .have h45:=ho.2.2.2.2.1;cases hl:j0b (now.getD n ⟨#[]⟩) with
   |true=>
    rw [j0Y ho hl] at e;cases hu:ucG (t++unP (now.getD n ⟨#[]⟩)) with
    |none=>simp_all
    |some g0=>
     rw [hu] at e;cases e;have:=d1C _ hu;rw [k1o] at this;simp only [s1M] at this;omega
   |false=>
    rw [j0X ho hl] at e;have:=ih e;have h2:=h1d e;rw [k1o] at this;omega
  simp_all [z0y]
theorem x0D {d:Dk}:∀(f:Nat) {j:Jr},JO d j->4*j.nr<=45*j.used->4*(opK d f j).nr<=45*(opK d f j).used
 |0,j,_,h=>h
 |f+1,j,jo,h=>by
  simp only [opK];cases hr:nxR j d with
  |none=>omega
  |some r=>
   obtain ⟨jo2,hu⟩:=n0b jo hr;refine x0D f jo2 ?_;obtain ⟨g,n,k⟩:=r;have:=l1F hr;rw [show (⟨#[]⟩:BA).size=0 from rfl] at this;have hu:j.used<n:=hu;show 4*(j.nr+g.length)<=45*n;omega
theorem x0E {d:Dk} (h:d.nn<=200):(opJ d).nr<=2250:=by
 have h1:=x0D (d.nn+1) (n0a d) (m0c _);have h2:=(j0e d).us;grind [opJ]
attribute [local irreducible] seq ByteArray.extract a0y b0Z
abbrev p1Y (X:List BA):Prop:=X.length<=100000/\∀k,(X.getD k ⟨#[]⟩).size<=100000
abbrev rpH (s:Bks) (X:List BA):a0k:=(0,some (GB glT))::(3,some (.one true (.cols X.length [.sc (.strs X)])))::e1V (fun i=>i+4) s
def rpS (s0:Bks) (X:List BA) (k:Nat):VS:=⟨[(6,.ptr 5 0 0 0),(21,.sl 3 0 0 X.length),(22,.i X.length),(23,.i k)],rpH (a0y s0 ((X.take k).map deO)) X,24⟩
def rpO (s0:Bks) (X:List BA):SV->a0k->Nat->Prop:=if rpE s0 X=0 then a0g (.tup [.ptr 4 0 0 0,.i 0]) (e1V (fun i=>i+3) (a0y s0 (X.map deO))) 23 else a0g (.tup [.nptr,.i (rpE s0 X)]) [] 4
theorem j1f (s0:Bks) (X:List BA) {k:Nat} (hk:k<X.length):doS (a0y s0 ((X.take k).map deO)) (deO (X.getD k ⟨#[]⟩))=a0y s0 ((X.take (k+1)).map deO):=by
 rw [<-m0N,s1c,m0b hk,List.getD,m0b hk,n1q];rfl
theorem p0a (cur:BA) (days cut:Int) (L:List BA) (n:Nat) (H:List Int) (m:Nat) (hL:L.length=n) (hH:H.length=m) (he:bkE cur days H m cut L=0) (X:List BA) (hX:p1Y X):
  FC prog 4 71 [.agg [.sl 1 0 0 n,.str cur,.sl 2 0 0 m,.i cut,.i days],.sl 3 0 0 X.length] [(0,some (GB glT)),(1,some (.one true (.cols n [.sc (.strs L)]))),(2,some (.one true (.cols m [.sc (.ints .i64 H)]))),(3,some (.one true (.cols X.length [.sc (.strs X)])))]
   (rpO (bk1 cur days H cut L) X):=by
 have c1:=m0R cur days cut L n H m hL hH he;have hok0:=o0S he;have h0:bk1 cur days H cut L=a0y (bk1 cur days H cut L) ((X.take 0).map deO):=by rw [u1E];unfold a0y;rfl
 rw [h0] at c1;generalize bk1 cur days H cut L=s0 at*;have hX1:=hX.1;refine fEx func71 ?_;repeat' ((conv=>whnf);first|refine cOx (l:= [0,1,2]) c1 ?_|refine a0a ?_|(apply bRx<;>intro h<;>try exact aX))
 all_goals (conv=>whnf)
 refine a0h (rpS s0 X) (fun k=>k<=X.length/\∀j,j<k->deE (X.getD j ⟨#[]⟩)=0/\doE (a0y s0 ((X.take j).map deO)) (deO (X.getD j ⟨#[]⟩))=0) (fun k=>X.length-k) 0 [0,1,2,3,4,5,6,7,8,9,10,11,12,13,14,15,16,17,18,19,20,21,22,23] [] wHx ⟨b1f _,fun j hj=>absurd hj (p1R _)⟩ ?_;rintro k ⟨hk,hall⟩;by_cases hk2:k<X.length
 .have g1:=z0o (X.getD k ⟨#[]⟩) (hX.2 k);have d:=z0n (a0y s0 ((X.take k).map deO)) (deO (X.getD k ⟨#[]⟩)) (u0X hok0 _);rw [j1f s0 X hk2] at d;have hE:=o1m X s0 hk2 hall;have hall2:deE (X.getD k ⟨#[]⟩)=0->doE (a0y s0 ((X.take k).map deO)) (deO (X.getD k ⟨#[]⟩))=0->∀j,j<k+1->deE (X.getD j ⟨#[]⟩)=0/\doE (a0y s0 ((X.take j).map deO)) (deO (X.getD j ⟨#[]⟩))=0:=fun a b j hj=>by
   grind
  unfold rpO;by_cases e1:deE (X.getD k ⟨#[]⟩)=0
  case neg=>
   rw [if_pos e1] at hE;rw [hE,if_neg e1];clear hall hall2 hE d;unfold rpS;have c0:=g1;let l:=[0,1,2,3];exact Vx
  rw [if_neg (fun q=>q e1)] at hE;rw [e1] at g1;by_cases e2:doE (a0y s0 ((X.take k).map deO)) (deO (X.getD k ⟨#[]⟩))=0
  case neg=>
   rw [if_pos e2] at hE;rw [hE,if_neg e2];clear hall hall2 hE;unfold rpS;have c2:=g1;have c3:=d;let l:=xBk;let R:=[0,1,2,3];exact Vx
  have hall3:=hall2 e1 e2;rw [e2] at d;clear hE hall2;unfold rpS;generalize hs2:a0y s0 ((X.take (k+1)).map deO)=s2 at*;repeat' ((conv=>whnf);first|refine cGx g1 ?_|refine cOx (l:= xBk) d ?_|refine a0a ?_|(apply bRx<;>intro h<;>try exact aX)|exact aX|(exfalso;exact h rfl)|(subst hs2;exact ⟨k+1,[0,1,2,3,4,5,25,7,8,9,26,11,12,13,27,15,16,17,18,19,20,28,29,30],[],⟨hk2,hall3⟩,(show X.length-(k+1)<X.length-k by omega),⟨rfl,⟨rfl,rfl,rfl,sI (a0j oM),trivial⟩,⟨gwk rfl,rfl,rfl,rfl,rfl,rfl,rfl,rfl,rfl,rfl,rfl,rfl,rfl,rfl,rfl,rfl,rfl,rfl,rfl,rfl,rfl,trivial⟩⟩⟩))
 have ek:k=X.length:=oM
 subst ek;have hE:=c1Z X s0 hall;unfold rpO;rw [if_pos hE];unfold rpS;rw [n1v];clear hall hE;generalize a0y s0 (X.map deO)=s2 at*;let l:=[0,1,2,3,5,6,7,8,9,10,11,12,13,14,15,16,17,18,19,20,21,22,23];have w:=@m0Q;exact Vx
end
section
attribute [local irreducible] sortI
theorem n0f (s:BA):a0K prog 119 [.str s] (.bool (j0p s)):=by
 by_cases h:s.size<1\/40<s.size
 .rw [s0E h];exact Wx func119
 refine fEx func119 ?_;repeat' ((conv=>whnf);first|refine a0a ?_|(apply bRx<;>intro h<;>try exact aX))
 refine a0h (fun k:Nat=>⟨[(0,.str s),(3,.i k)],[],1⟩) (fun k=>k<=s.size/\c1z s k) (fun k=>s.size-k) 0 [0] [] wHx ⟨by omega,fun i hi=>by omega⟩ ?_;rintro k ⟨hk,hc⟩;repeat' ((conv=>whnf);first|refine a0a ?_|(apply bRx<;>intro h))
 all_goals first
  |exact a0e (by rw [c1y (k:=k) oM oM];rfl)
  |exact ⟨k+1,[0],[],⟨by omega,o0L hc oM⟩,by omega,⟨rfl,⟨rfl,sI (a0j oM),trivial⟩,trivial⟩⟩
  |skip
 have e:k=s.size:=oM
 subst e;exact a0e (by rw [w0X oM oM hc];rfl)
theorem j1g (l:List BA) (n i:Nat) (hl:l.length=n) (hi:i<=n) (hn:n<=1000000) (s:BA):FC prog 2 120 [.sl 1 0 0 i,.str s] [(1,some (.one true (.cols n [.sc (.strs l)])))] (a0g (.bool (decide (a0q l s<i))) [] 2):=by
 refine fEx func120 ?_;refine a0h (fun k:Nat=>⟨[(0,.sl 1 0 0 i),(1,.str s),(5,.i k)],[(1,some (.one true (.cols n [.sc (.strs l)])))],2⟩) (fun k=>k<=i/\∀j,j<k->¬l.getD j ⟨#[]⟩=s) (fun k=>i-k) 0 [0,1] [] wHx ⟨b1f _,fun j hj=>absurd hj (p1R _)⟩ ?_;rintro k ⟨hk,hlo⟩;by_cases hk2:k<i
 .by_cases he:l.getD k ⟨#[]⟩=s
  .have e:=h0H (k:=k) oM he hlo;rw [e,decide_eq_true hk2];let l:=[0,1];exact Vx
  .repeat' (first|refine a0a ?_|(apply bRx<;>intro h))
   all_goals first
    |exact aX
    |(exfalso;exact he h)
    |exact ⟨k+1,[0,1],[],⟨hk2,fun j hj=>by
      grind⟩,(show i-(k+1)<i-k by omega),⟨rfl,⟨rfl,rfl,sI (a0j oM),trivial⟩,rX⟩⟩
 .have e:k=i:=oM
  subst e;have hx:¬a0q l s<k:=fun q=>hlo _ q (d0Y l oM)
  rw [decide_eq_false hx];let l:=[0,1];exact Vx
def poM (L:List Lp):Prop:=∀x∈L,-1000000000000<=x.n/\x.n<=1000000000000
theorem x0F {L:List Lp} (h:poM L) (k:Nat):poM (L.take k):=fun x hx=>h x (List.mem_of_mem_take hx)
theorem j1h {L:List Lp} (h:poM L) (k:Nat): -1000000000000<=(L.getD k lp0).n/\(L.getD k lp0).n<=1000000000000:=by
 by_cases hk:k<L.length
 .rw [List.getD,m0b hk];exact h _ (k1j hk)
 simp_all
theorem h1f {L:List Lp} {k:Nat} (hk:k<L.length) (a c:BA):lgS (L.take (k+1)) a c=lgS (L.take k) a c+if (L.getD k lp0).a=a/\(L.getD k lp0).c=c then (L.getD k lp0).n else 0:=by
 rw [s1c,m0b hk,j0O,List.getD,m0b hk];simp [lgS]
theorem q1I {L:List Lp} (h:poM L) (c:BA): -1000000000000*(L.length:Int)<=lgC L c/\lgC L c<=1000000000000*(L.length:Int):=by
 induction L with
 |nil=>simp [lgC]
 |cons x L ih=>
  have i1:=ih (fun y hy=>h y (by grind));have i2:=h x (by simp);simp only [lgC,i1y];omega
section
variable (L:List Lp) (n:Nat) (hn:L.length=n) (h6:n<=1000000) (hM:poM L) (c:BA)
include hn h6 hM
theorem d1D (a:BA) (ha:a≠⟨#[]⟩):FC prog 2 258 [.sl 1 0 0 n,.str a,.str c] [(1,some (.one true (poB n L)))] (a0g (.i (lgS L a c)) [] 2):=by
 refine fEx func258 ?_;repeat' ((conv=>whnf);first|refine a0a ?_|(apply bRx<;>intro h<;>try exact aX))
 all_goals (conv=>whnf)
 refine a0h (fun k:Nat=>⟨[(0,.sl 1 0 0 n),(1,.str a),(2,.str c),(7,.i (lgS (L.take k) a c)),(8,.i k)],[(1,some (.one true (poB n L)))],2⟩) (fun k=>k<=n) (fun k=>n-k) 0 [0,1] [] wHx (b1f _) ?_;intro k hk;have b1:=u0T (M:=1000000000000) a c (x0F hM k) dC;rw [p1O] at b1;by_cases hk2:k<n
 .have hs:=h1f (L:=L) (k:=k) oM a c;have b2:=j1h hM k;have q1:(L.map Lp.n).getD ((k:Int).toNat+0) 0=(L.getD k lp0).n:=g1m L k;have q2:(L.map Lp.a).getD ((k:Int).toNat+0) ⟨#[]⟩=(L.getD k lp0).a:=p1U L k;have q3:(L.map Lp.c).getD ((k:Int).toNat+0) ⟨#[]⟩=(L.getD k lp0).c:=k1O L k;by_cases he:(L.getD k lp0).a=a/\(L.getD k lp0).c=c
  .rw [if_pos he] at hs;have q4:i64.wrap (lgS (L.take k) a c+(L.getD k lp0).n)=lgS (L.take (k+1)) a c:=by rw [hs];exact a0l oM oM
   obtain ⟨e1,e2⟩:=he;repeat' ((conv=>whnf);first|(simp only [q1,q2,q3,q4])|refine a0a ?_|(apply bRx<;>intro h<;>try exact aX)|exact aX|(exfalso;exact h e1)|(exfalso;exact h e2)|(exfalso;exact ha h)|exact ⟨k+1,[0,1],[],hk2,(show n-(k+1)<n-k by omega),⟨rfl,⟨rfl,rfl,rfl,rfl,sI (a0j oM),trivial⟩,rX⟩⟩)
  .rw [if_neg he,t1p] at hs;repeat' ((conv=>whnf);first|(simp only [q1,q2,q3])|refine a0a ?_|(apply bRx<;>intro h<;>try exact aX)|exact aX|(exfalso;exact ha h)|(exfalso;rename_i h2 _;exact he ⟨h,h2⟩)|exact ⟨k+1,[0,1],[],hk2,(show n-(k+1)<n-k by omega),⟨rfl,⟨rfl,rfl,rfl,by rw [hs];rfl,sI (a0j oM),trivial⟩,rX⟩⟩)
 .have e:k=n:=oM
  have eL:L.take k=L:=by rw [e,<-hn,n1v]
  rw [eL,e];let l:=[0,1];exact Vx
theorem h1g:FC prog 2 258 [.sl 1 0 0 n,.str ⟨#[]⟩,.str c] [(1,some (.one true (poB n L)))] (a0g (.i (lgC L c)) [] 2):=by
 refine fEx func258 ?_;repeat' ((conv=>whnf);first|refine a0a ?_|(apply bRx<;>intro h<;>try exact aX))
 all_goals (conv=>whnf)
 refine a0h (fun k:Nat=>⟨[(0,.sl 1 0 0 n),(1,.str ⟨#[]⟩),(2,.str c),(7,.i (lgC (L.take k) c)),(8,.i k)],[(1,some (.one true (poB n L)))],2⟩) (fun k=>k<=n) (fun k=>n-k) 0 [0,1] [] wHx (b1f _) ?_;intro k hk;have b1:=q1I (x0F hM k) c;rw [p1O] at b1;by_cases hk2:k<n
 .have hs:=q0w (L:=L) (k:=k) oM c;have b2:=j1h hM k;have q1:(L.map Lp.n).getD ((k:Int).toNat+0) 0=(L.getD k lp0).n:=g1m L k;have q3:(L.map Lp.c).getD ((k:Int).toNat+0) ⟨#[]⟩=(L.getD k lp0).c:=k1O L k;by_cases he:(L.getD k lp0).c=c
  .rw [if_pos he] at hs;have q4:i64.wrap (lgC (L.take k) c+(L.getD k lp0).n)=lgC (L.take (k+1)) c:=by rw [hs];exact a0l oM oM
   repeat' ((conv=>whnf);first|(simp only [q1,q3,q4])|refine a0a ?_|(apply bRx<;>intro h<;>try exact aX)|exact aX|(exfalso;exact h he)|(exfalso;exact h rfl)|exact ⟨k+1,[0,1],[],hk2,(show n-(k+1)<n-k by omega),⟨rfl,⟨rfl,rfl,rfl,rfl,sI (a0j oM),trivial⟩,rX⟩⟩)
  .rw [if_neg he,t1p] at hs;repeat' ((conv=>whnf);first|(simp only [q1,q3])|refine a0a ?_|(apply bRx<;>intro h<;>try exact aX)|exact aX|(exfalso;exact he h)|(exfalso;rename_i h2;exact he h2)|exact ⟨k+1,[0,1],[],hk2,(show n-(k+1)<n-k by omega),⟨rfl,⟨rfl,rfl,rfl,by rw [hs];rfl,sI (a0j oM),trivial⟩,rX⟩⟩)
 .have e:k=n:=oM
  have eL:L.take k=L:=by rw [e,<-hn,n1v]
  rw [eL,e];let l:=[0,1];exact Vx
end
abbrev rlC (ro:Bool) (a e:Nat) (s:Lg):Option HB:=some (.one ro (.cells [.sl a 0 0 s.na,.sl e 0 0 s.ne,.nsl,.nsl]))
abbrev rlE (ro:Bool) (f:Nat) (s:Lg):Option HB:=some (.one ro (n0T f s))
theorem h1h {E:List Le} {k:Nat} (hk:k<E.length):q0x (E.take (k+1))=q0x (E.take k)++(E.getD k le0).ps:=by
 rw [s1c,m0b hk,List.getD,m0b hk];exact w0Q _ _
theorem o1z (n m:Nat) (A B:List Lp) (hB:B.length=m):(.cols (n+m) [.sc (.strs (A.map Lp.a++seg 0 m (B.map Lp.a))),.sc (.ints .i64 (A.map Lp.n++seg 0 m (B.map Lp.n))),.sc (.strs (A.map Lp.c++seg 0 m (B.map Lp.c)))]:Blk)=poB (n+m) (A++B):=by
 simp_all [poB,d0J]
section
variable (s:Lg) (hs:LgOk s)
include hs
theorem l1G:FC prog 5 286 [.ptr 1 0 0 0] [(1,rlC true 2 3 s),(3,rlE true 4 s),(4,d0b true s)] (a0g (.sl 5 0 0 (q0x s.ent).length) [(5,some (.one false (poB (q0x s.ent).length (q0x s.ent))))] 6):=by
 have hne:=hs.ne;have h512:=hs.e512;refine fEx func286 ?_;repeat' ((conv=>whnf);first|refine a0a ?_|(apply bRx<;>intro h<;>try exact aX))
 all_goals (conv=>whnf)
 refine a0h (fun x:Nat×Nat×List Lp=>⟨[(0,.ptr 1 0 0 0),(3,.sl 5 0 0 x.2.1),(4,.i x.1)],[(5,some (.one false (poB x.2.1 x.2.2))),(1,rlC true 2 3 s),(3,rlE true 4 s),(4,d0b true s)],6⟩) (fun x=>x.1<=s.ne/\x.2.2=q0x (s.ent.take x.1)/\x.2.2.length=x.2.1/\x.2.1<=16*x.1) (fun x=>s.ne-x.1) (0,0,[]) [0,1,2,3,4,5] [.slot 3 [.sc (.strs []),.sc (.ints .i64 []),.sc (.strs [])]] wHx ⟨b1f _,rfl,rfl,b1f _⟩ ?_;rintro ⟨k,m,A⟩ ⟨hk,hA,hm,hm2⟩;dsimp only at hk hA hm hm2;by_cases hk2:k<s.ne
 .have hmem:s.ent.getD k le0∈s.ent:=by rw [List.getD,m0b oM];exact k1j _
  obtain ⟨e1,e2,e3,e4,e5,e6,e7⟩:=hs.ent _ hmem;have q1:(s.ent.map Le.np).getD ((k:Int).toNat+0) 0=(s.ent.getD k le0).np:=k1T s.ent k;have hA2:A++(s.ent.getD k le0).ps=q0x (s.ent.take (k+1)):=by rw [h1h oM,hA]
  have hpo:=o1z m (s.ent.getD k le0).np A (s.ent.getD k le0).ps e3;repeat' ((conv=>whnf);first|(simp only [q1])|(refine a0f ⟨hk2,(by show 0+(s.ent.getD k le0).np<=(s.ent.getD k le0).np;omega),by omega,by omega⟩ ?_)|refine a0a ?_|(apply bRx<;>intro h<;>try exact aX)|exact aX|exact ⟨(k+1,m+(s.ent.getD k le0).np,A++(s.ent.getD k le0).ps),[0,1,2,3,4,6],[],⟨hk2,hA2,by dsimp only;rw [s0c,hm,e3],by dsimp only;omega⟩,(show s.ne-(k+1)<s.ne-k by omega),⟨rfl,⟨rfl,rfl,sI (a0j oM),trivial⟩,⟨by rw [<-hpo];rfl,rfl,rfl,rfl,trivial⟩⟩⟩)
 .have e:k=s.ne:=oM
  have eA:A=q0x s.ent:=by rw [hA,e,<-hne,n1v]
  subst eA;subst hm;let l:=xAh;exact Vx
theorem v0n (h1:∀e∈s.ent,poM e.ps):poM (q0x s.ent)/\(q0x s.ent).length<=8192:=by
 refine ⟨fun x hx=> ?_,?_⟩
 .obtain ⟨e,he,hx⟩:=List.mem_flatMap.1 hx;exact h1 e he x hx
 .have key:∀E:List Le,(∀e∈E,e.ps.length<=16)->(q0x E).length<=16*E.length:=by
   intro E;induction E with
   |nil=>trivial
   |cons e E ih=>
    intro h;show (e.ps++q0x E).length<=_;grind
  have:=key s.ent (fun e he=>by have:=hs.ent e he;rw [this.n];exact this.n16);have h2:=hs.e512;have h3:=hs.ne;omega
theorem d1E (c:BA):s.bal ⟨#[]⟩ c=0:=by
 rw [hs.bal];refine i1P (fun x hx h=> ?_);obtain ⟨e,he,hx⟩:=List.mem_flatMap.1 hx;obtain ⟨k1,_⟩:=e0m.1 (hs.ent e he).ps x hx;rw [h.1] at k1;have:=(d0i (hs.lab _ k1)).1;trivial
theorem v0o (h1:∀e∈s.ent,poM e.ps) (a c:BA):FC prog 5 259 [.ptr 1 0 0 0,.str a,.str c] [(1,rlC true 2 3 s),(3,rlE true 4 s),(4,d0b true s)] (a0g (.i (s.bal a c)) [] 5):=by
 by_cases hz:a=⟨#[]⟩
 .subst hz;rw [d1E s hs];let l:=[0,1,2,3,4];exact Wx func259
 .obtain ⟨k1,k2⟩:=v0n s hs h1;have c1:=l1G s hs;have c2:=d1D (q0x s.ent) _ rfl oM k1 c a hz;rw [hs.bal];let l2:=[0,5];let l:=[0,1,2,3,4];exact Wx func259
theorem t0a (id:BA):FC prog 5 180 [.ptr 1 0 0 0,.str id] [(1,rlC true 2 3 s),(3,rlE true 4 s)] (a0g (.tup [(if inL id s.ids then .agg [.str ((s.ent.map Le.id).getD (a0q s.ids id) ⟨#[]⟩),.i ((s.ent.map Le.date).getD (a0q s.ids id) 0),.sl 4 (a0q s.ids id) 0 ((s.ent.map Le.np).getD (a0q s.ids id) 0)] else .agg [.str ⟨#[]⟩,.i 0,.nsl]),.bool (decide (inL id s.ids))]) [] 5):=by
 have hne:=hs.ne;have h512:=hs.e512;have hl:s.ids.length=s.ne:=by show (s.ent.map Le.id).length=_;rw [f1R,hne]
 refine fEx func180 ?_;repeat' ((conv=>whnf);first|refine a0a ?_|(apply bRx<;>intro h<;>try exact aX))
 all_goals (conv=>whnf)
 refine a0h (fun k:Nat=>⟨[(0,.ptr 1 0 0 0),(1,.str id),(4,.ptr 5 0 0 0),(6,.i k)],[(1,rlC true 2 3 s),(3,rlE true 4 s),(5,some (.one false (.cells [.str ⟨#[]⟩,.i 0,.nsl])))],6⟩) (fun k=>k<=s.ne/\∀j,j<k->¬s.ids.getD j ⟨#[]⟩=id) (fun k=>s.ne-k) 0 [0,1,2,3,4,5] [] wHx ⟨b1f _,fun j hj=>absurd hj (p1R _)⟩ ?_;rintro k ⟨hk,hlo⟩;by_cases hk2:k<s.ne
 .by_cases he:s.ids.getD k ⟨#[]⟩=id
  .have e:=h0H (k:=k) oM he hlo;have hin:inL id s.ids:=by show a0q s.ids id<_;omega
   rw [if_pos hin,decide_eq_true hin,e];have he':(s.ent.map Le.id).getD ((k:Int).toNat+0) ⟨#[]⟩=id:=he;let l:=[0,1,2,3,4];exact Vx
  .have he':¬(s.ent.map Le.id).getD ((k:Int).toNat+0) ⟨#[]⟩=id:=he;repeat' ((conv=>whnf);first|refine a0a ?_|(apply bRx<;>intro h<;>try exact aX))
   all_goals (conv=>whnf)
   all_goals first
    |exact aX
    |(exfalso;exact he h)
    |exact ⟨k+1,xAh,[],⟨hk2,fun j hj=>by
      by_cases q:j=k
      .rw [q];exact he
      .exact hlo j oM⟩,(show s.ne-(k+1)<s.ne-k by omega),⟨rfl,⟨rfl,rfl,rfl,sI (a0j oM),trivial⟩,rX⟩⟩
 .have e:k=s.ne:=oM
  have hin:¬inL id s.ids:=fun q=>by
   have q':a0q s.ids id<s.ids.length:=q;exact hlo _ oM (d0Y s.ids q')
  rw [if_neg hin,decide_eq_false hin];let l:=[0,1,2,3,4];exact Vx
end
end
section
attribute [local irreducible] sortI
abbrev t0b:BA:=⟨#[48,49,50,51,52,53,54,55,56,57]⟩
theorem p0b {d:Nat} (h:d<10):t0b.extract d (d+1)=a0m [((48+d:Nat):Int)]:=by
 rcases (show d=0\/d=1\/d=2\/d=3\/d=4\/d=5\/d=6\/d=7\/d=8\/d=9 by omega) with rfl|rfl|rfl|rfl|rfl|rfl|rfl|rfl|rfl|rfl<;>kernel_rfl
theorem h0X (a b:List Int):a0m (a++b)=a0m a++a0m b:=by
 unfold a0m;apply ByteArray.ext;simp
theorem x0G {u:Nat} (h:u<10):dec u=a0m [((48+u:Nat):Int)]:=by
 simp_all [dec,b0z,c0P,s1u]
theorem d1F {u:Nat} (h:¬u<10):dec u=dec (u/10)++a0m [((48+u%10:Nat):Int)]:=by
 unfold dec;rw [show b0z u=b0z (u/10)+1 by rw [b0z,if_neg h],c0P,h0X]
theorem n0g (u:Nat):b0i (u:Int)=dec u:=by
 simp_all [b0i,if_neg]
theorem q0R {u:Nat} (h:0<u):b0i (-(u:Int))=⟨#[45]⟩++dec u:=by
 unfold b0i dec;rw [if_pos oM,Int.natAbs_neg,Int.natAbs_natCast,show (45::c0P (b0z u) u:List Int)= [45]++c0P (b0z u) u from rfl,h0X];rfl
attribute [local irreducible] ByteArray.extract seq
theorem x0H:∀(b u:Nat),u<=b->u<=4611686018427387904->a0K prog 156 [.i u] (.str (dec u)):=by
 intro b;induction b with
 |zero=>
  intro u hb hu;obtain rfl:u=0:=oM
  have e:dec 0=t0b.extract 0 1:=by rw [x0G dC,p0b (d:=0) dC]
  rw [e];exact Wx func156
 |succ b ih=>
  intro u hb hu;by_cases hs:u<10
  .have e:dec u=t0b.extract ((u:Int).toNat) ((i64.wrap ((u:Int)+1)).toNat):=by
    rw [a0l oM oM,show ((u:Int)+1).toNat=u+1 by omega,u0f,p0b hs,x0G hs]
   rw [e];have w1:i64.wrap ((u:Int)+1)=(u:Int)+1:=a0l oM oM;refine fEx func156 ?_;repeat' ((conv=>whnf);first|(refine a0f ⟨by omega,by rw [w1];omega,by rw [w1];show _<=(10:Int);omega⟩ ?_)|refine a0a ?_|(apply bRx<;>intro h<;>try exact aX)|exact aX|exact a0e rfl)
  .have c1:=ih (u/10) oM oM;have t1:(u:Int).tdiv 10=((u/10:Nat):Int):=by rw [s1b oM];omega
   have t2:(u:Int).tmod 10=((u%10:Nat):Int):=by rw [s1Q oM];omega
   have w1:i64.wrap ((u/10:Nat):Int)=((u/10:Nat):Int):=a0l oM oM;have w2:i64.wrap ((u%10:Nat):Int)=((u%10:Nat):Int):=a0l oM oM;have w3:i64.wrap (((u%10:Nat):Int)+1)=((u%10+1:Nat):Int):=a0l oM oM;have e:dec u=dec (u/10)++t0b.extract (((u%10:Nat):Int).toNat) (((u%10+1:Nat):Int).toNat):=by
    rw [u0f,u0f,p0b oM,d1F hs]
   have hz:=a0B (u/10:Nat) oM oM;rw [n0g] at hz;rw [e];have hx:(t0b.extract (((u%10:Nat):Int).toNat) (((u%10+1:Nat):Int).toNat)).size=1:=by
    rw [u0f,u0f,p0b oM,b0R];rfl
   generalize dec (u/10)=D at*;refine fEx func156 ?_;repeat' ((conv=>whnf);first|(simp only [t1,t2,w1,w2,w3])|refine cPx c1 ?_|(refine a0f ⟨by omega,by omega,by show _<=(10:Int);omega⟩ ?_)|(refine a0f (by rw [hx];omega) ?_)|refine a0a ?_|(apply bRx<;>intro h<;>try exact aX)|exact aX|exact a0e rfl)
theorem p0c (n:Int) (h1: -4611686018427387904<=n) (h2:n<=4611686018427387904):a0K prog 156 [.i n] (.str (b0i n)):=by
 by_cases h:0<=n
 .have e:n=(n.toNat:Int):=oM
  rw [e,n0g];exact x0H n.toNat n.toNat (m0c _) oM
 .have e:n= -((-n).toNat:Int):=oM
  have c1:=x0H (-n).toNat (-n).toNat (m0c _) oM;have e2:b0i n=⟨#[45]⟩++dec (-n).toNat:=by
   conv=>lhs;rw [e]
   rw [q0R oM]
  rw [e2];have w1:i64.wrap (0-n)=((-n).toNat:Int):=by grind [a0l]
  have hz:=a0B ((-n).toNat:Nat) oM oM;rw [n0g] at hz;refine fEx func156 ?_;repeat' ((conv=>whnf);first|(simp only [w1])|refine cPx c1 ?_|(refine a0f (by rw [lgz];omega) ?_)|(apply bRx<;>intro h)|exact aX|exact a0e rfl)
theorem h1i (id:BA) (d:Int) (L:List Lp) (n:Nat) (hn:L.length=n) (h16:n<=16) (hi:id.size<=40) (hd:0<=d/\d<=99999) (hz:l1d L) (hb:c1j L):
  FC prog 2 101 [.agg [.str id,.i d,.sl 1 0 0 n]] [(1,some (.one true (poB n L)))] (a0g (.str (leT ⟨id,d,L,n⟩ n)) [] 2):=by
 have c1:=p0c d oM oM;have hds:=a0B d oM oM;have hT:=i0S (e:=⟨id,d,L,n⟩) hi hd hz hb;unfold poB;refine fEx func101 ?_;repeat' ((conv=>whnf);first|refine cPx c1 ?_|(refine a0f ?_ ?_;(simp only [k1o,lgz,u0f,q1j];omega))|refine a0a ?_|(apply bRx<;>intro h<;>try exact aX))
 all_goals (conv=>whnf)
 refine a0h (fun k:Nat=>⟨[(1,.ptr 2 0 0 0),(3,.str (leT ⟨id,d,L,n⟩ k)),(4,.i k)],[(1,some (.one true (poB n L))),(2,some (.one false (.cells [.str id,.i d,.sl 1 0 0 n])))],3⟩) (fun k=>k<=n) (fun k=>n-k) 0 [0,1,2] [] wHx (b1f _) ?_;intro k hk;unfold poB;have hTk:=hT k;have hTe:leT ⟨id,d,L,n⟩ (k+1)=leT ⟨id,d,L,n⟩ k++poT ⟨(L.map Lp.a).getD k ⟨#[]⟩,(L.map Lp.n).getD k 0,(L.map Lp.c).getD k ⟨#[]⟩⟩:=by rw [<-m0K];rfl
 have hTk1:=hT (k+1);by_cases hk2:k<n
 .have h1:=u0R hz k;have h2:=c1B hb k;rw [m0K] at h1 h2;dsimp only at h1 h2;have h3:=w0Z h1.1 h1.2 h2;rw [i1U] at hTe;have c3:=p0c ((L.map Lp.n).getD k 0) oM oM;have h4:=a0B ((L.map Lp.n).getD k 0) oM oM;have q1:(L.map Lp.n).getD ((k:Int).toNat+0) 0=(L.map Lp.n).getD k 0:=rfl;have q2:(L.map Lp.a).getD ((k:Int).toNat+0) ⟨#[]⟩=(L.map Lp.a).getD k ⟨#[]⟩:=rfl;have q3:(L.map Lp.c).getD ((k:Int).toNat+0) ⟨#[]⟩=(L.map Lp.c).getD k ⟨#[]⟩:=rfl;generalize hT1:leT ⟨id,d,L,n⟩ (k+1)=T1 at*;generalize hT0:leT ⟨id,d,L,n⟩ k=T at*;repeat' ((conv=>whnf);first|refine cPx c3 ?_|(refine a0f ?_ ?_;(simp only [k1o,lgz,u0f,q1j];omega))|refine a0a ?_|(apply bRx<;>intro h<;>try exact aX)|exact aX|(subst hT1;exact ⟨k+1,[0,1,2],[],hk2,(show n-(k+1)<n-k by omega),⟨rfl,⟨rfl,by rw [hTe];rfl,sI (a0j oM),trivial⟩,rX⟩⟩))
 have ek:k=n:=oM
 subst ek;generalize leT ⟨id,d,L,k⟩ k=T at*;let l:=[0,1];exact Vx
end
section
theorem q0S (s:BA):a0K prog 134 [.str s] (.bool (auI s)):=by
 by_cases h:s.size<1\/16<s.size
 .rw [q0o h];exact Wx func134
 refine fEx func134 ?_;repeat' ((conv=>whnf);first|refine a0a ?_|(apply bRx<;>intro h<;>try exact aX))
 all_goals (conv=>whnf)
 all_goals first
  |exact aX
  |skip
 refine a0h (fun k:Nat=>⟨[(0,.str s),(3,.i k)],[],1⟩) (fun k=>k<=s.size/\m1V s k) (fun k=>s.size-k) 0 [0] [] wHx ⟨by omega,fun i hi=>by omega⟩ ?_;rintro k ⟨hk,hc⟩;repeat' ((conv=>whnf);first|refine a0a ?_|(apply bRx<;>intro h<;>try exact aX))
 all_goals (conv=>whnf)
 all_goals first
  |exact a0e (by rw [b1s (k:=k) oM oM];rfl)
  |exact ⟨k+1,[0],[],⟨by omega,m0n hc oM⟩,by omega,⟨rfl,⟨rfl,sI (a0j oM),trivial⟩,trivial⟩⟩
  |skip
 have e:k=s.size:=oM
 subst e;exact a0e (by rw [u0r oM oM hc];rfl)
theorem n0h (s:BA):a0K prog 73 [.str s] (.bool (e0c s)):=by
 by_cases h0:s.size=3
 case neg=>
  rw [e0K h0];exact Wx func73
 by_cases h1:(65<=a0d s 0/\a0d s 0<=90)/\(65<=a0d s 1/\a0d s 1<=90)
 case neg=>
  have e:e0c s=false:=by
   by_cases q:65<=a0d s 0/\a0d s 0<=90
   .exact b0H (k:=1) oM (by show a0d s 1<65\/90<a0d s 1;omega)
   .exact b0H (k:=0) oM (by show a0d s 0<65\/90<a0d s 0;omega)
  rw [e];exact Wx func73
 have e:e0c s=decide (65<=a0d s 2/\a0d s 2<=90):=by
  by_cases q:65<=a0d s 2/\a0d s 2<=90
  .rw [decide_eq_true q];unfold e0c;have c0:f0F s 0=true:=rfl;have c1:=c0C (k:=0) c0 (by show¬a0d s 0<65;omega) (by show¬90<a0d s 0;omega);have c2:=c0C (k:=1) c1 (by show¬a0d s 1<65;omega) (by show¬90<a0d s 1;omega);have c3:=c0C (k:=2) c2 (by show¬a0d s 2<65;omega) (by show¬90<a0d s 2;omega);rw [h0,c3];rfl
  .rw [decide_eq_false q];exact b0H (k:=2) oM (by show a0d s 2<65\/90<a0d s 2;omega)
 rw [e];refine fEx func73 ?_;repeat' ((conv=>whnf);first|refine a0a ?_|(apply bRx<;>intro h<;>try exact aX)|exact aX|(refine a0e ?_;rw [show decide (65<=a0d s 2/\a0d s 2<=90)=decide (a0d s 2<=90) from decide_eq_decide.2 oM];rfl)|(refine a0e ?_;rw [decide_eq_false oM];rfl))
theorem e0U (n a b:Int):a0K prog 154 [.i n,.i a,.i b] (.bool (decide (a<=n/\n<=b))):=by
 by_cases h:a<=n
 .by_cases h2:n<=b
  .rw [decide_eq_true (show a<=n/\n<=b from ⟨h,h2⟩)];refine fEx func154 ?_;repeat' (first|(apply bRx<;>intro h)|exact aX|(refine a0e ?_;rw [decide_eq_true h2];rfl))
  .rw [decide_eq_false (fun q=>h2 q.2)];refine fEx func154 ?_;repeat' (first|(apply bRx<;>intro h)|exact aX|(refine a0e ?_;rw [decide_eq_false h2];rfl))
 .rw [decide_eq_false (fun q=>h q.1)];exact Wx func154
theorem t0c (a:Au):a0K prog 155 [a.s] (.i (b0A a)):=by
 refine fEx func155 ?_;repeat' ((conv=>whnf);first|refine a0a ?_|(apply bRx<;>intro h<;>try exact aX))
 all_goals (conv=>whnf)
 all_goals refine a0e ?_
 all_goals ((try simp only [decide_eq_true_eq,decide_eq_false_iff_not] at*);simp [c0g,cv,b0A,a0t, *])
set_option maxHeartbeats 2000000 in
theorem j0g (a:Au):a0K prog 99 [a.s] (.i (b0L a)):=by
 refine fEx func99 ?_;repeat' ((conv=>whnf);first|refine cPx (q0S _) ?_|refine cPx (n0h _) ?_|refine cPx (e0U _ _ _) ?_|refine cPx (t0c a) ?_|refine a0a ?_|(apply bRx<;>intro h<;>try exact aX))
 all_goals (conv=>whnf)
 all_goals refine a0e ?_
 all_goals simp only [c0g,cv,SV.int.injEq,true_and]
 all_goals (try simp at*)
 all_goals first
  |(have e1:=g0c a (by omega) (by omega) (by omega) (by omega) (by omega) (by omega) (by omega) (by omega)
    have e2:i64.wrap (i64.wrap (a.rev+a.cle)+a.exp)=a.rev+a.cle+a.exp:=by rw [a0l (n:=a.rev+a.cle) (by omega) (by omega),a0l (by omega) (by omega)]
    unfold b0L;(repeat' split)<;>first|rfl|exact aX|(exfalso;simp_all;done))
  |(unfold b0L;(repeat' split)<;>first|rfl|exact aX|(exfalso;simp_all;done))
theorem h1j (a:Au):a0K prog 218 [a.s] (.i (b1t a)):=by
 refine fEx func218 ?_;repeat' ((conv=>whnf);first|refine cPx (j0g a) ?_|(apply bRx<;>intro h))
 all_goals refine a0e ?_
 all_goals grind [c0g,cv,b1t,a0t]
theorem h0h (a:Au):a0K prog 217 [a.s] (.i (c0Q a)):=by
 refine fEx func217 ?_;repeat' ((conv=>whnf);first|refine cPx (j0g a) ?_|(apply bRx<;>intro h))
 all_goals refine a0e ?_
 all_goals grind [c0g,cv,c0Q]
theorem z0A (id cur:BA) (app rev cle exp st att unt pa:Int):a0K prog 99 [.agg [.str id,.str cur,.i app,.i rev,.i cle,.i exp,.i st,.i att,.i unt,.i pa]] (.i (b0L ⟨id,cur,app,rev,cle,exp,st,att,unt,pa⟩)):=j0g ⟨id,cur,app,rev,cle,exp,st,att,unt,pa⟩
theorem h0i (id cur:BA) (app rev cle exp st att unt pa:Int):a0K prog 155 [.agg [.str id,.str cur,.i app,.i rev,.i cle,.i exp,.i st,.i att,.i unt,.i pa]] (.i (b0A ⟨id,cur,app,rev,cle,exp,st,att,unt,pa⟩)):=t0c ⟨id,cur,app,rev,cle,exp,st,att,unt,pa⟩
theorem j0h (id cur:BA) (app rev cle exp st att unt pa:Int):a0K prog 218 [.agg [.str id,.str cur,.i app,.i rev,.i cle,.i exp,.i st,.i att,.i unt,.i pa]] (.i (b1t ⟨id,cur,app,rev,cle,exp,st,att,unt,pa⟩)):=h1j ⟨id,cur,app,rev,cle,exp,st,att,unt,pa⟩
theorem l1H (id cur:BA) (n at_ un:Int):a0K prog 138 [.str id,.str cur,.i n,.i at_,.i un] (t2 (b1u id cur n at_ un)):=by
 refine fEx func138 ?_;repeat' ((conv=>whnf);first|refine cPx (z0A _ _ _ _ _ _ _ _ _ _) ?_|refine a0a ?_|(apply bRx<;>intro h<;>try exact aX))
 all_goals (conv=>whnf)
 all_goals refine a0e ?_
 all_goals simp only [c0g,cv] at*
 all_goals (unfold b1u;simp [*,Au.zero])
theorem d1G (a:Au) (n u:Int):a0K prog 190 [a.s,.i n,.i u] (t2 (e0k a n u)):=by
 refine fEx func190 ?_;repeat' ((conv=>whnf);first|refine cPx (h0h a) ?_|refine cPx (j0h _ _ _ _ _ _ _ _ _ _) ?_|refine cPx (h0i _ _ _ _ _ _ _ _ _ _) ?_|refine cPx (e0U _ _ _) ?_|refine a0a ?_|(apply bRx<;>intro h<;>try exact aX))
 all_goals (conv=>whnf)
 all_goals refine a0e ?_
 all_goals simp only [c0g,cv] at*
 .simp [e0k,Au.zero, *]
 all_goals
  obtain ⟨f,hs,hp,ho,hc,hx⟩:=b0M (by assumption);have f1:=f.app;have f2:=f.rev;have f3:=f.cle;have f4:=f.exp;have f5:=f.funds;have f6:=f.pa;have ew:i64.wrap (999999999999-a.app)=999999999999-a.app:=a0l oM oM;unfold e0k
 .rw [if_neg (by simp [*]),if_pos oM];simp [Au.zero]
 .rw [if_neg (by simp [*]),if_neg oM,if_pos oM];simp [Au.zero]
 .rw [if_neg (by simp [*]),if_neg oM,if_pos oM];simp [Au.zero]
 .rw [if_neg (by simp [*]),if_neg oM,if_neg oM];have e1:i64.wrap (a.app+n)=a.app+n:=a0l oM oM;rw [e1]
theorem v0p (a:Au) (n:Int):a0K prog 191 [a.s,.i n] (t3 (b0v a n)):=by
 refine fEx func191 ?_;repeat' ((conv=>whnf);first|refine cPx (h0h a) ?_|refine cPx (j0h _ _ _ _ _ _ _ _ _ _) ?_|refine cPx (h0i _ _ _ _ _ _ _ _ _ _) ?_|refine cPx (e0U _ _ _) ?_|refine a0a ?_|(apply bRx<;>intro h<;>try exact aX))
 all_goals (conv=>whnf)
 all_goals refine a0e ?_
 all_goals simp only [c0g,cv,Au.eta] at*
 .simp [b0v,Au.zero, *]
 all_goals
  obtain ⟨f,hs,hp,ho,hc,hx⟩:=b0M (by assumption);have f1:=f.app;have f2:=f.rev;have f3:=f.cle;have f4:=f.exp;have f5:=f.funds;have f6:=f.pa;try rw [ho]
  unfold b0v
 .rw [if_neg (by simp [*]),if_pos oM];simp [Au.zero]
 .rw [if_neg (by simp [*]),if_neg oM];have e1:i64.wrap (a.rev+a0t a)=a.rev+a0t a:=a0l oM oM;rw [e1];simp [h]
 .rw [if_neg (by simp [*]),if_neg oM];have e1:i64.wrap (a.rev+n)=a.rev+n:=a0l oM oM;rw [e1];simp [h]
theorem d1H (a:Au) (n:Int) (b:Bool):a0K prog 179 [a.s,.i n,.bool b] (t4 (g0d a n b)):=by
 refine fEx func179 ?_;repeat' ((conv=>whnf);first|refine cPx (h0h a) ?_|refine cPx (j0h _ _ _ _ _ _ _ _ _ _) ?_|refine cPx (h0i _ _ _ _ _ _ _ _ _ _) ?_|refine cPx (e0U _ _ _) ?_|refine a0a ?_|(apply bRx<;>intro h<;>try exact aX))
 all_goals (conv=>whnf)
 all_goals refine a0e ?_
 all_goals simp only [c0g,cv,Au.eta] at*
 .simp [g0d,Au.zero, *]
 all_goals
  obtain ⟨f,hs,hp,ho,hc,hx⟩:=b0M (by assumption);have f1:=f.app;have f2:=f.rev;have f3:=f.cle;have f4:=f.exp;have f5:=f.funds;have f6:=f.pa;try rw [ho]
  unfold g0d
 .rw [if_neg (by simp [*]),if_pos oM];simp [Au.zero]
 .rw [if_neg (by simp [*]),if_neg oM,if_pos oM];simp [Au.zero]
 .rw [if_neg (by simp [*]),if_neg oM,if_neg oM];have hm:0<min n (a0t a)/\min n (a0t a)<=a0t a:=oM
  have e1:i64.wrap (a.cle+min n (a0t a))=a.cle+min n (a0t a):=a0l oM oM;have e2:i64.wrap (a.pa+1)=a.pa+1:=a0l oM oM;have e3:i64.wrap (a0t a-min n (a0t a))=a0t a-min n (a0t a):=a0l oM oM;have e4:i64.wrap (a.rev+(a0t a-min n (a0t a)))=a.rev+(a0t a-min n (a0t a)):=a0l oM oM;rw [e1,e2,e3,e4];simp [h]
 .rw [if_neg (by simp [*]),if_neg oM,if_neg oM];have hm:0<min n (a0t a)/\min n (a0t a)<=a0t a:=oM
  have e1:i64.wrap (a.cle+min n (a0t a))=a.cle+min n (a0t a):=a0l oM oM;have e2:i64.wrap (a.pa+1)=a.pa+1:=a0l oM oM;have e3:i64.wrap (a.rev+0)=a.rev:=by rw [a0l oM oM];omega
  rw [e1,e2,e3];simp [h]
theorem z0B (a:Au) (n:Int):a0K prog 192 [a.s,.i n] (t3 (c0p a n)):=by
 refine fEx func192 ?_;repeat' ((conv=>whnf);first|refine cPx (h0h a) ?_|refine cPx (j0h _ _ _ _ _ _ _ _ _ _) ?_|refine cPx (h0i _ _ _ _ _ _ _ _ _ _) ?_|refine cPx (e0U _ _ _) ?_|refine a0a ?_|(apply bRx<;>intro h<;>try exact aX))
 all_goals (conv=>whnf)
 all_goals refine a0e ?_
 all_goals simp only [c0g,cv,Au.eta] at*
 .simp [c0p,Au.zero, *]
 all_goals
  obtain ⟨f,hs,hp,ho,hc,hx⟩:=b0M (by assumption);have f1:=f.app;have f2:=f.rev;have f3:=f.cle;have f4:=f.exp;have f5:=f.funds;have f6:=f.pa;try rw [ho]
  unfold c0p
 .rw [if_neg (by simp [*]),if_pos oM];simp [Au.zero]
 .rw [if_neg (by simp [*]),if_neg oM];have e1:i64.wrap (a.exp+a0t a)=a.exp+a0t a:=a0l oM oM;rw [e1]
end
section
attribute [local irreducible] sortI
def auN (a:Au):List Int:= [a.app,a.rev,a.cle,a.exp,a.att,a.unt,a.pa]
def auF (a:Au):List BA:= [a.id,a.cur,b0i a.app,b0i a.rev,b0i a.cle,b0i a.exp,b0i a.att,b0i a.unt,b0i a.pa]
def auT (a:Au):BA:=if b0L a=0 then c0D (auF a) ⟨#[47]⟩ else ⟨#[]⟩
theorem d1I {a:Au} (h:Facts a) {k:Nat} (hk:k<7): -9223372036854775808<=(auN a).getD k 0/\(auN a).getD k 0<=9223372036854775807:=by
 have h1:=h.app;have h2:=h.rev;have h3:=h.cle;have h4:=h.exp;have h5:=h.time;have h6:=h.pa;rcases (show k=0\/k=1\/k=2\/k=3\/k=4\/k=5\/k=6 by omega) with rfl|rfl|rfl|rfl|rfl|rfl|rfl
 .show _<=a.app/\a.app<=_;omega
 .show _<=a.rev/\a.rev<=_;omega
 .show _<=a.cle/\a.cle<=_;omega
 .show _<=a.exp/\a.exp<=_;omega
 .show _<=a.att/\a.att<=_;omega
 .show _<=a.unt/\a.unt<=_;omega
 .show _<=a.pa/\a.pa<=_;omega
theorem h1k (a:Au) {k:Nat} (hk:k<7):(auF a).take (2+k)++ [b0i ((auN a).getD k 0)]=(auF a).take (2+k+1):=by
 rcases (show k=0\/k=1\/k=2\/k=3\/k=4\/k=5\/k=6 by omega) with rfl|rfl|rfl|rfl|rfl|rfl|rfl<;>rfl
theorem x0I {a:Au} (h:Facts a):(c0D (auF a) ⟨#[47]⟩).size<=1000:=by
 have g:∀k,k<7->(b0i ((auN a).getD k 0)).size<=21:=fun k hk=>a0B _ (d1I h hk).1 (d1I h hk).2
 have h0:(b0i a.app).size<=21:=g 0 dC;have h1:(b0i a.rev).size<=21:=g 1 dC;have h2:(b0i a.cle).size<=21:=g 2 dC;have h3:(b0i a.exp).size<=21:=g 3 dC;have h4:(b0i a.att).size<=21:=g 4 dC;have h5:(b0i a.unt).size<=21:=g 5 dC;have h6:(b0i a.pa).size<=21:=g 6 dC;have h7:a.id.data.size<=16:=x0e h.id;have h8:a.cur.data.size<=3:=i0U h.cur;unfold c0D auF;show (Lib.join _ _).toArray.size<=1000;rw [t1k,n1w,u1b,s0c,Lib.joinTail_length];simp only [Lib.lens,n1w,s1Y,List.sum_cons,List.sum_nil,i1y,s1M,r1W];simp only [ByteArray.size] at h0 h1 h2 h3 h4 h5 h6;omega
theorem n0U (a:Au) (h:b0L a≠0):k0D prog glT 49 [a.s] (.str ⟨#[]⟩):=by
 have c1:=g0X a;refine fEx func49 ?_;repeat' ((conv=>whnf);first|refine cPx c1 ?_|(apply bRx<;>intro h)|exact aX|exact a0e rfl)
theorem n0V (a:Au) (h:b0L a=0):k0D prog glT 49 [a.s] (.str (c0D (auF a) ⟨#[47]⟩)):=by
 have c1:=g0X a;rw [h] at c1;have hF:=i0G h;have hz:=x0I hF;have c2:=x0g 9 (auF a) ⟨#[47]⟩ dC dC oM;refine fEx func49 ?_;repeat' ((conv=>whnf);first|refine cPx c1 ?_|refine a0a ?_|(apply bRx<;>intro h<;>try exact aX))
 all_goals (conv=>whnf)
 all_goals first
  |exact aX
  |(exfalso;exact h rfl)
  |skip
 refine a0h (fun k:Nat=>⟨[(3,.sl 2 0 0 (2+k)),(28,.sl 3 0 0 7),(29,.i ((7:Nat):Int)),(30,.i k)],[(0,some (GB glT)),(2,some (.one false (.cols (2+k) [.sc (.strs ((auF a).take (2+k)))]))),(3,some (.one false (.cols 7 [.sc (.ints .i64 (auN a))])))],4⟩) (fun k=>k<=7) (fun k=>7-k) 0 [0,1,2,3] [] wHx (b1f _) ?_;intro k hk;by_cases hk2:k<7
 .have hb:=d1I hF hk2;have c3:=b0Y ((auN a).getD k 0) hb.1 hb.2;have hT:=congrArg (fun z=>some (HB.one false (Blk.cols (2+k+1) [.sc (.strs z)]))) (h1k a hk2);generalize auN a=N at*;generalize auF a=F at*;repeat' ((conv=>whnf);first|refine cGx c3 ?_|refine a0a ?_|(apply bRx<;>intro h<;>try exact aX)|exact aX|exact ⟨k+1,[0,1,5,3],[],hk2,(show 7-(k+1)<7-k by omega),⟨rfl,⟨rfl,rfl,rfl,sI (a0j oM),trivial⟩,⟨gwk rfl,hT,rX⟩⟩⟩)
 obtain rfl:k=7:=oM
 rw [show (auF a).take (2+7)=auF a from rfl];generalize auF a=F at*;let l:=[0,2];exact Vx
theorem v0q (a:Au):k0D prog glT 49 [a.s] (.str (auT a)):=by
 unfold auT;by_cases h:b0L a=0
 all_goals simp_all [n0V,n0U]
theorem d1J (a:Au):(auT a).size<=1000:=by
 unfold auT;split
 .simp_all [x0I,i0G]
 .decide
attribute [local irreducible] ByteArray.extract seq
theorem b0T (n:Int) (h0:0<=n) (h2:n<=9223372036854775807):a0K prog 57 [.i n] (.str (b0i n)):=by
 have e:n=(n.toNat:Int):=oM
 rw [e,n0g];have hu:n.toNat<=9223372036854775807:=oM
 generalize n.toNat=u at*;have hz:=a0B (u:Nat) oM oM;rw [n0g] at hz;refine fEx func57 ?_;repeat' ((conv=>whnf);first|refine a0a ?_|(apply bRx<;>intro h<;>try exact aX))
 all_goals (conv=>whnf)
 all_goals first
  |exact aX
  |skip
 refine a0h (fun x:Nat×BA=>⟨[(0,.i (x.1:Int)),(3,.bool (decide ((u:Int)<0))),(4,.str x.2)],[],1⟩) (fun x=>x.1<=u/\dec u=dec x.1++x.2) (fun x=>x.1) (u,⟨#[]⟩) [0] [] wHx ⟨m0c _,ByteArray.append_empty.symm⟩ ?_;rintro ⟨v,t⟩ ⟨hv,hd⟩;dsimp only at hv hd⊢;have hsz:t.size<=21:=by
  have:=congrArg ByteArray.size hd;rw [k1o] at this;omega
 have t1:(v:Int).tdiv 10=((v/10:Nat):Int):=by rw [s1b oM];omega
 have t2:(v:Int).tmod 10=((v%10:Nat):Int):=by rw [s1Q oM];omega
 have w1:i64.wrap ((v/10:Nat):Int)=((v/10:Nat):Int):=a0l oM oM;have w2:i64.wrap ((v%10:Nat):Int)=((v%10:Nat):Int):=a0l oM oM;have w3:i64.wrap (((v%10:Nat):Int)+1)=((v%10+1:Nat):Int):=a0l oM oM;have hg:t0b.extract (((v%10:Nat):Int).toNat) (((v%10+1:Nat):Int).toNat)=a0m [((48+v%10:Nat):Int)]:=by
  rw [u0f,u0f,p0b oM]
 have hx:(t0b.extract (((v%10:Nat):Int).toNat) (((v%10+1:Nat):Int).toNat)).size=1:=by
  rw [hg,b0R];rfl
 by_cases hs:v<10
 .have e1:dec u=t0b.extract (((v%10:Nat):Int).toNat) (((v%10+1:Nat):Int).toNat)++t:=by rw [hd,hg,x0G hs,s1u hs]
  rw [e1];clear hg;repeat' ((conv=>whnf);first|(simp only [t1,t2,w1,w2,w3])|(refine a0f ⟨by omega,by omega,by show _<=(10:Int);omega⟩ ?_)|(refine a0f (by rw [hx];omega) ?_)|refine a0a ?_|(apply bRx<;>intro h<;>try exact aX)|exact aX|exact a0e rfl)
 .have e1:dec u=dec (v/10)++(t0b.extract (((v%10:Nat):Int).toNat) (((v%10+1:Nat):Int).toNat)++t):=by rw [hd,hg,d1F hs,t1O]
  clear hg;repeat' ((conv=>whnf);first|(simp only [t1,t2,w1,w2,w3])|(refine a0f ⟨by omega,by omega,by show _<=(10:Int);omega⟩ ?_)|(refine a0f (by rw [hx];omega) ?_)|refine a0a ?_|(apply bRx<;>intro h<;>try exact aX)|exact aX|exact ⟨(v/10,t0b.extract (((v%10:Nat):Int).toNat) (((v%10+1:Nat):Int).toNat)++t),[0],[],⟨by omega,e1⟩,by show v/10<v;omega,⟨rfl,rX,trivial⟩⟩)
theorem n0i (x p:BA):c0D [x] p=x:=by
 simp_all [c0D,Lib.join_one]
theorem g0v (x y:BA) (r:List BA) (p:BA):c0D (x::y::r) p=x++(p++c0D (y::r) p):=by
 rfl
theorem z0C (a:Au):a0K prog 54 [a.s] (.str (auT a)):=by
 have c1:=j0g a;unfold auT;by_cases h:b0L a=0
 case neg=>
  rw [if_neg h];generalize b0L a=E at*;refine fEx func54 ?_;repeat' ((conv=>whnf);first|refine cPx c1 ?_|refine a0a ?_|(apply bRx<;>intro h<;>try exact aX)|exact aX|(exfalso;exact h (by assumption))|exact a0e rfl)
 rw [if_pos h];rw [h] at c1;have hF:=i0G h;have h1:=hF.app;have h2:=hF.rev;have h3:=hF.cle;have h4:=hF.exp;have h5:=hF.time;have h6:=hF.pa;have g1:=b0T a.app oM oM;have g2:=b0T a.rev oM oM;have g3:=b0T a.cle oM oM;have g4:=b0T a.exp oM oM;have g5:=b0T a.att oM oM;have g6:=b0T a.unt oM oM;have g7:=b0T a.pa oM oM;have z1:=a0B a.app oM oM;have z2:=a0B a.rev oM oM;have z3:=a0B a.cle oM oM;have z4:=a0B a.exp oM oM;have z5:=a0B a.att oM oM;have z6:=a0B a.unt oM oM;have z7:=a0B a.pa oM oM;have z8:a.id.size<=16:=x0e hF.id;have z9:a.cur.size<=3:=i0U hF.cur;have hj:c0D (auF a) ⟨#[47]⟩=a.id++⟨#[47]⟩++a.cur++⟨#[47]⟩++b0i a.app++⟨#[47]⟩++b0i a.rev++⟨#[47]⟩++b0i a.cle++⟨#[47]⟩++b0i a.exp++⟨#[47]⟩++b0i a.att++⟨#[47]⟩++b0i a.unt++⟨#[47]⟩++b0i a.pa:=by
  unfold auF;simp only [g0v,n0i,t1O]
 rw [hj];have hs1:(⟨#[47]⟩:BA).size=1:=rfl;clear h hF hj;refine fEx func54 ?_;repeat' ((conv=>whnf);first|refine cPx c1 ?_|refine cPx g1 ?_|refine cPx g2 ?_|refine cPx g3 ?_|refine cPx g4 ?_|refine cPx g5 ?_|refine cPx g6 ?_|refine cPx g7 ?_|(refine a0f ?_ ?_;(simp only [k1o,hs1];omega))|refine a0a ?_|(apply bRx<;>intro h<;>try exact aX)|exact aX|exact a0e rfl)
end
section
attribute [local irreducible] sortI
theorem p0d (n:Int): -9223372036854775808<=i64.wrap n/\i64.wrap n<=9223372036854775807:=by
 simp only [IntKind.wrap,IntKind.signed,IntKind.bits,s1S,decide_eq_true_eq,ge_iff_le];split<;>omega
def scL (acc:Nat):List UInt8->Option Nat
 | []=>some acc
 |c::r=>if (48<=c.toNat/\c.toNat<=57)/\acc<=1000000000000000000 then scL (acc*10+(c.toNat-48)) r else none
theorem d1K:∀(n u:Nat),u<10^n->∀(acc:Nat) (rest:List UInt8),acc*10^n+u<10000000000000000000->scL acc (u8L (c0P n u)++rest)=scL (acc*10^n+u) rest
 |0,u,h,acc,rest,_=>by
  simp_all [c0P]
 |n+1,u,h,acc,rest,hb=>by
  rw [t1T] at h hb;have e:acc*(10^n*10)=acc*10^n*10:=by grind
  have ih:=d1K n (u/10) oM acc (UInt8.ofNat (((48+u%10:Nat):Int)).toNat::rest) oM;simp only [c0P,n1q,n1w,s1Y,s1T,List.singleton_append] at ih⊢;rw [ih];have hd:=c1T (u%10) oM;simp only [scL];grind
def mnB (s:BA):Nat:=if 0<s.size/\a0d s 0=45 then 1 else 0
theorem j1i {v:Int} (h1: -9223372036854775808<=v) (h2:v<=9223372036854775807):mnB (b0i v)=(if v<0 then 1 else 0)/\scL 0 ((b0i v).data.toList.drop (mnB (b0i v)))=some v.natAbs:=by
 have hlt:=g0b v.natAbs;have hsc:=d1K (b0z v.natAbs) v.natAbs hlt 0 [] oM;rw [s1s,t1e,i1z] at hsc;unfold b0i mnB a0d;by_cases hv:v<0
 .rw [if_pos hv,if_pos hv];trivial
 .rw [if_neg hv,if_neg hv];unfold dec;rw [show v.toNat=v.natAbs by omega];have e:(a0m (c0P (b0z v.natAbs) v.natAbs)).data.toList=u8L (c0P (b0z v.natAbs) v.natAbs):=c0I _;have hd:=i0X (b0z v.natAbs) v.natAbs;rw [if_neg (fun q=>by
   have q1:=q.1;rw [b0R,a0H] at q1;have hl:(u8L (c0P (b0z v.natAbs) v.natAbs)).length=b0z v.natAbs:=by rw [f1R,a0H]
   grind)]
  trivial
def rnX (s:BA) (n:Nat):Int:=if mnB s=1 then i64.wrap (0-i64.wrap (n:Int)) else i64.wrap (n:Int)
theorem o1A (s:BA) (n:Nat) (h:scL 0 (s.data.toList.drop (mnB s))=some n):decide (b0i (rnX s n)=s)=dnB s/\(dnB s=true->rnX s n=dnV s):=by
 have hb: -9223372036854775808<=rnX s n/\rnX s n<=9223372036854775807:=by
  unfold rnX;split<;>exact p0d _
 unfold dnB dnV;cases q:dnO s with
 |none=>
  grind [m0O]
 |some v=>
  obtain ⟨e,v1,v2⟩:=q0D q;obtain ⟨m1,m2⟩:=j1i v1 v2;rw [<-e] at m1 m2;have ex:rnX s v.natAbs=v:=by
   unfold rnX;rw [m1];by_cases hv:v<0
   .by_cases hm:v= -9223372036854775808
    .rw [hm];rfl
    grind [a0l]
   .rw [if_neg hv,if_neg (by simp),a0l oM oM];omega
  simp_all
theorem j1j (s:BA) (n:Nat) (h:scL 0 (s.data.toList.drop (mnB s))=some n):seq (b0i (rnX s n)) s=dnB s:=by
 simp_all [seq,o1A]
theorem d1L {s:BA} {k n:Nat} (h:k<s.size):scL n (s.data.toList.drop k)=if (48<=a0d s (k:Int)/\a0d s (k:Int)<=57)/\n<=1000000000000000000 then scL (n*10+((a0d s (k:Int)).toNat-48)) (s.data.toList.drop (k+1)) else none:=by
 have h2:k<s.data.toList.length:=by trivial
 have hb:a0d s (k:Int)=((s.data.toList[k]).toNat:Int):=by
  unfold a0d;simp_all
 rw [t1F h2,hb];simp only [scL];by_cases q:(48<=s.data.toList[k].toNat/\s.data.toList[k].toNat<=57)/\n<=1000000000000000000
 .rw [if_pos q,if_pos oM,u0f]
 .rw [if_neg q,if_neg oM]
theorem l1I (s:BA) (h:scL 0 (s.data.toList.drop (mnB s))=none):dnB s=false:=by
 unfold dnB;cases q:dnO s with
 |none=>rfl
 |some v=>
  obtain ⟨e,v1,v2⟩:=q0D q;grind [j1i]
attribute [local irreducible] ByteArray.extract seq
theorem h1l (u:Nat) (h0:0<u) (hu:u<=9223372036854775808):a0K prog 57 [.i (-(u:Int))] (.str (b0i (-(u:Int)))):=by
 rw [q0R h0];have hz:=a0B (-(u:Int)) oM oM;rw [q0R h0,k1o] at hz;have hm:(⟨#[45]⟩:BA).size=1:=rfl;refine fEx func57 ?_;repeat' ((conv=>whnf);first|refine a0a ?_|(apply bRx<;>intro h<;>try exact aX))
 all_goals (conv=>whnf)
 all_goals first
  |exact aX
  |skip
 refine a0h (fun x:Nat×BA=>⟨[(0,.i (-(x.1:Int))),(3,.bool (decide (-(u:Int)<0))),(4,.str x.2)],[],1⟩) (fun x=>x.1<=u/\dec u=dec x.1++x.2) (fun x=>x.1) (u,⟨#[]⟩) [0] [] wHx ⟨m0c _,ByteArray.append_empty.symm⟩ ?_;rintro ⟨v,t⟩ ⟨hv,hd⟩;dsimp only at hv hd⊢;have hsz:t.size<=21:=by
  have:=congrArg ByteArray.size hd;rw [k1o] at this;omega
 have t1:(-(v:Int)).tdiv 10= -((v/10:Nat):Int):=by rw [Int.neg_tdiv,s1b oM];omega
 have w1:i64.wrap (-((v/10:Nat):Int))= -((v/10:Nat):Int):=a0l oM oM;have w3:i64.wrap (((v%10:Nat):Int)+1)=((v%10+1:Nat):Int):=a0l oM oM;have hg:t0b.extract (((v%10:Nat):Int).toNat) (((v%10+1:Nat):Int).toNat)=a0m [((48+v%10:Nat):Int)]:=by
  rw [u0f,u0f,p0b oM]
 have hx:(t0b.extract (((v%10:Nat):Int).toNat) (((v%10+1:Nat):Int).toNat)).size=1:=by
  rw [hg,b0R];rfl
 have e1:v<10->dec u=t0b.extract (((v%10:Nat):Int).toNat) (((v%10+1:Nat):Int).toNat)++t:=fun hs=>by rw [hd,hg,x0G hs,s1u hs]
 have e2:¬v<10->dec u=dec (v/10)++(t0b.extract (((v%10:Nat):Int).toNat) (((v%10+1:Nat):Int).toNat)++t):=fun hs=>by rw [hd,hg,d1F hs,t1O]
 have hx2:(t0b.extract (((v%10:Nat):Int).toNat) (((v%10+1:Nat):Int).toNat)++t).size=1+t.size:=by rw [k1o,hx]
 have t0:(-(v:Int)).tmod 10= -((v%10:Nat):Int):=by rw [Int.neg_tmod,s1Q oM];omega
 clear hg;rcases m1S (v%10) with h0|h0
 .have t2:(-(v:Int)).tmod 10=((v%10:Nat):Int):=by rw [t0];omega
  have w2:i64.wrap ((v%10:Nat):Int)=((v%10:Nat):Int):=a0l oM oM;have w4:True:=trivial;clear t0;repeat' ((conv=>whnf);first|(simp only [t1,t2,w1,w2,w3,w4])|(refine a0f ⟨by omega,by omega,by show _<=(10:Int);omega⟩ ?_)|(refine a0f (by rw [hx];omega) ?_)|(refine a0f (by rw [hm,hx2];omega) ?_)|refine a0a ?_|(apply bRx<;>intro h<;>try exact aX)|exact aX|exact ⟨(v/10,t0b.extract (((v%10:Nat):Int).toNat) (((v%10+1:Nat):Int).toNat)++t),[0],[],⟨by omega,e2 oM⟩,by show v/10<v;omega,⟨rfl,rX,trivial⟩⟩|(rw [e1 oM];exact a0e rfl))
 .have t2:=t0;have w2:i64.wrap (-((v%10:Nat):Int))= -((v%10:Nat):Int):=a0l oM oM;have w4:i64.wrap (0- -((v%10:Nat):Int))=((v%10:Nat):Int):=by rw [a0l oM oM];omega
  clear t0;repeat' ((conv=>whnf);first|(simp only [t1,t2,w1,w2,w3,w4])|(refine a0f ⟨by omega,by omega,by show _<=(10:Int);omega⟩ ?_)|(refine a0f (by rw [hx];omega) ?_)|(refine a0f (by rw [hm,hx2];omega) ?_)|refine a0a ?_|(apply bRx<;>intro h<;>try exact aX)|exact aX|exact ⟨(v/10,t0b.extract (((v%10:Nat):Int).toNat) (((v%10+1:Nat):Int).toNat)++t),[0],[],⟨by omega,e2 oM⟩,by show v/10<v;omega,⟨rfl,rX,trivial⟩⟩|(rw [e1 oM];exact a0e rfl))
theorem h0j (n:Int) (h1: -9223372036854775808<=n) (h2:n<=9223372036854775807):a0K prog 57 [.i n] (.str (b0i n)):=by
 by_cases h:0<=n
 .exact b0T n h h2
 .have e:n= -(((-n).toNat:Nat):Int):=oM
  rw [e];grind [h1l]
theorem x0J (s:BA) (hs:s.size<=100000) (hm:mnB s=1) (x:Int) (hx1:∀n,scL 0 (s.data.toList.drop 1)=some n->x=rnX s n) (hx0:scL 0 (s.data.toList.drop 1)=none->x=0):a0K prog 126 [.str s] (.tup [.i x,.bool (dnB s)]):=by
 have hb0:0<s.size/\a0d s 0=45:=by
  unfold mnB at hm;split at hm
  .assumption
  .cases hm
 have hno:=l1I s;have hsq:=j1j s;rw [hm] at hno hsq;refine fEx func126 ?_;repeat' ((conv=>whnf);first|refine a0a ?_|(apply bRx<;>intro h<;>try exact aX))
 all_goals (conv=>whnf)
 all_goals first
  |exact aX
  |skip
 all_goals
  refine a0h (fun k:Nat×Nat=>⟨[(0,.str s),(4,.i 1),(5,.int .u64 k.2),(6,.i k.1)],[],1⟩) (fun k=>1<=k.1/\k.1<=s.size/\scL 0 (s.data.toList.drop 1)=scL k.2 (s.data.toList.drop k.1)/\k.2<=10000000000000000009) (fun k=>s.size-k.1) (1,0) [0] [] wHx ⟨m0c _,by omega,rfl,by decide⟩ ?_;rintro ⟨i,n⟩ ⟨hi,hi2,hsc,hn⟩;dsimp only at hi hi2 hsc hn⊢;have bb:=d0p s (i:Int);by_cases hlt:i<s.size
  .rw [d1L hlt] at hsc;have hno2:¬((48<=a0d s (i:Int)/\a0d s (i:Int)<=57)/\n<=1000000000000000000)->x=0/\dnB s=false:=fun q=>by
    rw [if_neg q] at hsc;exact ⟨hx0 hsc,hno hsc⟩
   have hu:(48<=a0d s (i:Int)/\a0d s (i:Int)<=57)/\n<=1000000000000000000->u64.wrap (u64.wrap (10*(n:Int))+u64.wrap (u8.wrap (a0d s (i:Int)-48)))=((n*10+((a0d s (i:Int)).toNat-48):Nat):Int):=fun q=>by
    rw [c0d (n:=10*(n:Int)) oM oM,m0j oM oM,c0d (n:=a0d s (i:Int)-48) oM oM,c0d oM oM];omega
   repeat' ((conv=>whnf);first|refine a0a ?_|(apply bRx<;>intro h<;>try exact aX)|exact aX|(obtain ⟨e1,e2⟩:=hno2 oM;rw [e1,e2];exact a0e rfl)|(rw [if_pos oM] at hsc;exact ⟨(i+1,n*10+((a0d s (i:Int)).toNat-48)),[0],[],⟨by omega,by omega,hsc,by omega⟩,by show s.size-(i+1)<s.size-i;omega,⟨rfl,⟨rfl,rfl,congrArg (fun z=>some (SV.int .u64 z)) (hu oM),sI (a0j oM),trivial⟩,trivial⟩⟩))
  .have ei:i=s.size:=oM
   have hd:s.data.toList.drop i= []:=t1d (by rw [r1W];show s.size<=i;omega);rw [hd] at hsc;have hsc:scL 0 (s.data.toList.drop 1)=some n:=hsc;have ex:=hx1 n hsc;have c1:=h0j (rnX s n) (by unfold rnX;split<;>exact (p0d _).1) (by unfold rnX;split<;>exact (p0d _).2);have hq:=hsq n hsc;rw [ex];have er:rnX s n=i64.wrap (0-i64.wrap (n:Int)):=by unfold rnX;rw [hm];rfl
   rw [er] at c1 hq⊢;generalize dnB s=b at*;clear hno hsq hx1 hx0;have q0:=hq;exact Vx
theorem x0K (s:BA) (hs:s.size<=100000) (hm:mnB s=0) (x:Int) (hx1:∀n,scL 0 (s.data.toList.drop 0)=some n->x=rnX s n) (hx0:scL 0 (s.data.toList.drop 0)=none->x=0):a0K prog 126 [.str s] (.tup [.i x,.bool (dnB s)]):=by
 have hb0:¬(0<s.size/\a0d s 0=45):=by
  unfold mnB at hm;split at hm
  .cases hm
  .assumption
 have hno:=l1I s;have hsq:=j1j s;rw [hm] at hno hsq;refine fEx func126 ?_;repeat' ((conv=>whnf);first|refine a0a ?_|(apply bRx<;>intro h<;>try exact aX))
 all_goals (conv=>whnf)
 all_goals first
  |exact aX
  |skip
 all_goals
  refine a0h (fun k:Nat×Nat=>⟨[(0,.str s),(4,.i 0),(5,.int .u64 k.2),(6,.i k.1)],[],1⟩) (fun k=>0<=k.1/\k.1<=s.size/\scL 0 (s.data.toList.drop 0)=scL k.2 (s.data.toList.drop k.1)/\k.2<=10000000000000000009) (fun k=>s.size-k.1) (0,0) [0] [] wHx ⟨m0c _,by exact b1f _,rfl,by decide⟩ ?_;rintro ⟨i,n⟩ ⟨hi,hi2,hsc,hn⟩;dsimp only at hi hi2 hsc hn⊢;have bb:=d0p s (i:Int);by_cases hlt:i<s.size
  .rw [d1L hlt] at hsc;have hno2:¬((48<=a0d s (i:Int)/\a0d s (i:Int)<=57)/\n<=1000000000000000000)->x=0/\dnB s=false:=fun q=>by
    rw [if_neg q] at hsc;exact ⟨hx0 hsc,hno hsc⟩
   have hu:(48<=a0d s (i:Int)/\a0d s (i:Int)<=57)/\n<=1000000000000000000->u64.wrap (u64.wrap (10*(n:Int))+u64.wrap (u8.wrap (a0d s (i:Int)-48)))=((n*10+((a0d s (i:Int)).toNat-48):Nat):Int):=fun q=>by
    rw [c0d (n:=10*(n:Int)) oM oM,m0j oM oM,c0d (n:=a0d s (i:Int)-48) oM oM,c0d oM oM];omega
   repeat' ((conv=>whnf);first|refine a0a ?_|(apply bRx<;>intro h<;>try exact aX)|exact aX|(obtain ⟨e1,e2⟩:=hno2 oM;rw [e1,e2];exact a0e rfl)|(rw [if_pos oM] at hsc;exact ⟨(i+1,n*10+((a0d s (i:Int)).toNat-48)),[0],[],⟨by omega,by omega,hsc,by omega⟩,by show s.size-(i+1)<s.size-i;omega,⟨rfl,⟨rfl,rfl,congrArg (fun z=>some (SV.int .u64 z)) (hu oM),sI (a0j oM),trivial⟩,trivial⟩⟩))
  .have ei:i=s.size:=oM
   have hd:s.data.toList.drop i= []:=t1d (by rw [r1W];show s.size<=i;omega);rw [hd] at hsc;have hsc:scL 0 (s.data.toList.drop 0)=some n:=hsc;have ex:=hx1 n hsc;have c1:=h0j (rnX s n) (by unfold rnX;split<;>exact (p0d _).1) (by unfold rnX;split<;>exact (p0d _).2);have hq:=hsq n hsc;rw [ex];have er:rnX s n=i64.wrap (n:Int):=by unfold rnX;rw [hm];rfl
   rw [er] at c1 hq⊢;generalize dnB s=b at*;clear hno hsq hx1 hx0;have q0:=hq;exact Vx
theorem h0k (s:BA) (hs:s.size<=100000):∃x,(dnB s=true->x=dnV s)/\(-9223372036854775808<=x/\x<=9223372036854775807)/\a0K prog 126 [.str s] (.tup [.i x,.bool (dnB s)]):=by
 have hm:mnB s=1\/mnB s=0:=by unfold mnB;split<;>simp
 have hb:∀n,-9223372036854775808<=rnX s n/\rnX s n<=9223372036854775807:=fun n=>by unfold rnX;split<;>exact p0d _
 cases h:scL 0 (s.data.toList.drop (mnB s)) with
 |some n=>
  refine ⟨rnX s n,(o1A s n h).2,hb n,?_⟩;rcases hm with e|e
  .exact x0J s hs e _ (fun k hk=>by simp_all) (fun hk=>by simp_all)
  .exact x0K s hs e _ (fun k hk=>by simp_all) (fun hk=>by simp_all)
 |none=>
  refine ⟨0,(fun q=>by simp_all [l1I]),by simp,?_⟩;rcases hm with e|e
  .exact x0J s hs e _ (fun k hk=>by simp_all) (fun _=>rfl)
  .exact x0K s hs e _ (fun k hk=>by simp_all) (fun _=>rfl)
end
section
theorem t0d:∀(k u:Nat),c0P (k+1) u=((48+u/10^k%10:Nat):Int)::c0P k u
 |0,u=>by simp [c0P]
 |k+1,u=>by
  have ih:=t0d k (u/10);show c0P (k+1) (u/10)++ [((48+u%10:Nat):Int)]=_::(c0P k (u/10)++ [((48+u%10:Nat):Int)]);rw [ih,t1A,show 10*10^k=10^(k+1) by omega];rfl
theorem v0r (n w:Int) (hn: -9223372036854775808<=n/\n<=9223372036854775807):a0K prog 145 [.i n,.i w] (.tup [.str (d0c n w),.i (l1q n w)]):=by
 by_cases hb:1<=w/\w<=15/\0<=n
 case neg=>
  have ho:¬g0t n w:=fun h=>hb ⟨h.1,h.2.1,h.2.2.1⟩
  rw [q0H ho,q0G ho];exact Wx func145
 obtain ⟨u,rfl⟩:=r1S hb.2.2;obtain ⟨m,rfl⟩:=r1S (show 0<=w by omega);refine fEx func145 ?_;repeat' ((conv=>whnf);first|refine a0a ?_|(apply bRx<;>intro h<;>try exact aX))
 all_goals (conv=>whnf)
 refine a0h (fun k:Nat=>⟨[(0,.i ((u/10^k:Nat):Int)),(1,.i m),(6,.str (a0m (c0P k u))),(7,.i k)],[],1⟩) (fun k=>k<=m) (fun k=>m-k) 0 [0] [] ?_ oM ?_
 .exact ⟨rfl,⟨congrArg (fun z:Nat=>some (SV.i (z:Int))) (show u=u/10^0 by simp),rX⟩,trivial⟩
 intro k hk;by_cases hkm:k<m
 .have hq:u/10^k<=u:=t1h _ _;have hqs:u/10^(k+1)=u/10^k/10:=by rw [t1T,<-t1A]
  have hdc:=t0d k u;generalize u/10^k=q at*;have r1:Int.tmod (q:Int) 10=((q%10:Nat):Int):=by rw [s1Q oM];omega
  have r2:u8.wrap (i64.wrap (48+Int.tmod (q:Int) 10))=((48+q%10:Nat):Int):=by
   rw [r1,a0l oM oM,m0j oM oM];omega
  have r3:i64.wrap (Int.tdiv (q:Int) 10)=((u/10^(k+1):Nat):Int):=by
   rw [s1b oM,a0l oM oM,hqs];omega
  have sz:(a0m (c0P k u)).size=k:=by rw [b0w,a0H]
  have es:a0m (seg 0 1 [u8.wrap (i64.wrap (48+Int.tmod (q:Int) 10))])++a0m (c0P k u)=a0m (c0P (k+1) u):=by
   rw [r2,hdc,d0j];rfl
  repeat' ((conv=>whnf);first|(refine a0f ?_ ?_;(show (a0m (seg 0 1 [_])).size+_<=_;rw [sz,b0w];show 1+k<=_;omega))|refine a0a ?_|(apply bRx<;>intro h<;>try exact aX)|exact ⟨k+1,[0],[],by omega,by omega,⟨rfl,⟨congrArg (fun z=>some (SV.i z)) r3,rfl,congrArg (fun z=>some (SV.str z)) es,sI (a0u oM),trivial⟩,trivial⟩⟩)
 .obtain rfl:k=m:=oM
  by_cases hz:u/10^k=0
  .have hlt:u<10^k:=by rcases i1B u (10^k) with h|h;exact h;exact absurd hz (by have:=Nat.div_pos h (Nat.pow_pos (n:=k) (by omega:0<10));omega)
   have ho:g0t (u:Int) (k:Int):=⟨by omega,by omega,by omega,by simpa using j0V hlt oM⟩;rw [v0d ho,d1f ho,u0f,u0f];generalize u/10^k=q at*;exact Vx
  .have ho:¬g0t (u:Int) (k:Int):=by
    intro h;have h1:b0z u<=k:=by simpa using h.2.2.2
    have h2:=g0b u;have h3:10^b0z u<=10^k:=s1V oM h1;exact hz (u1G oM)
   rw [q0H ho,q0G ho];generalize u/10^k=q at*;exact Vx
theorem z0D (s:BA) (hs:s.size<=9223372036854775000):a0K prog 100 [.str s] (.int .u64 (j0Q 14695981039346656037 s s.size)):=by
 refine fEx func100 ?_;refine a0h (fun k:Nat=>⟨[(0,.str s),(3,.int .u64 (j0Q 14695981039346656037 s k)),(4,.i k)],[],1⟩) (fun k=>k<=s.size) (fun k=>s.size-k) 0 [0] [] wHx oM ?_;intro k hk;have bb:=v0e s (k:Int);repeat' (first|refine a0a ?_|(apply bRx<;>intro h))
 .refine ⟨k+1,[0],[],by omega,by omega,⟨rfl,⟨rfl,?_,sI (a0u oM),trivial⟩,trivial⟩⟩;have e1:u64.wrap (a0d s (k:Int))=a0d s (k:Int):=c0d oM oM;rw [e1];rfl
 .have e:k=s.size:=oM
  subst e;exact a0e rfl
theorem q1J (p:Int) (k:Nat):(a0m (beL p k)).size=k:=by rw [b0w,b0m]
theorem h0Y (p:Int) (s:BA) (hs:s.size<=9223372036854700000):a0K prog 55 [.int .u64 p,.str s] (.int .u64 (chI p s)):=by
 have z8:=d0Z p;have c1:=z0D (j0R p++s) (by rw [b0B];omega);rw [b0B,z8,c1p] at c1;refine fEx func55 ?_;repeat' ((conv=>whnf);first|refine a0a ?_|(apply bRx<;>intro h<;>try exact aX))
 all_goals (conv=>whnf)
 refine a0h (fun k:Nat=>⟨[(0,.int .u64 p),(1,.str s),(5,.str (a0m (beL p k))),(6,.i (7-(k:Int)))],[],1⟩) (fun k=>k<=8) (fun k=>8-k) 0 [0] [] wHx oM ?_;intro k hk;have bz:=q1J p k;by_cases hlt:k<8
 .have es:u64.wrap (i64.wrap (8*(7-(k:Int))))=((56-8*k:Nat):Int):=by rw [a0l oM oM,c0d oM oM];omega
  have z1:∀x:Int,(a0m (seg 0 1 [x])).size=1:=fun x=>rfl
  repeat' ((conv=>whnf);first|(refine a0f ?_ ?_;(show (a0m (beL p k)).size+(a0m (seg 0 1 [_])).size<=_;rw [z1];omega))|refine a0a ?_|(apply bRx<;>intro h<;>try exact aX))
  all_goals (conv=>whnf)
  all_goals first
   |exact aX
   |skip
  refine ⟨k+1,[0],[],by omega,by omega,⟨rfl,⟨rfl,rfl,?_,?_,trivial⟩,trivial⟩⟩
  .refine congrArg (fun z=>some (SV.str z)) ?_;show a0m (beL p k)++a0m [u8.wrap (i0b .u64 p (u64.wrap (i64.wrap (8*(7-(k:Int))))))]=_;rw [es,d0j];rfl
  .refine congrArg (fun z=>some (SV.i z)) ?_;rw [a0l oM oM];omega
 .have e:k=8:=oM
  subst e;repeat' ((conv=>whnf);first|refine cPx c1 ?_|(refine a0f (show (a0m (beL p 8)).size+s.size<=9223372036854775807 from by omega) ?_)|refine a0a ?_|(apply bRx<;>intro h<;>try exact aX)|exact a0e rfl|exact aX)
def dgL (n:Nat):Nat->List Int
 |0=> []
 |k+1=>m0S ((n/16^k%16:Nat):Int)::dgL n k
theorem h0l (n:Nat):∀k,(dgL n k).length=k
 |0=>rfl
 |k+1=>by simp [dgL,h0l n k]
theorem g0w {l:List Int} {i:Nat} (hi:i<l.length) (hb:∀x∈l,0<=x/\x<=255):a0d (a0m l) (i:Int)=l[i]:=by
 unfold a0d a0m;have:=hb l[i] (k1j hi);grind [UInt8.toNat_ofNat']
theorem t0e (n:Nat) {i:Nat} (h:i<8):a0d (j0R (n:Int)) (i:Int)=((n/2^(56-8*i)%256:Nat):Int):=by
 unfold j0R;rw [g0w (by trivial) (i1Q _ 8)];have e:=c1m (n:Int) 8 i h;grind [IntKind.wrap,IntKind.bits,IntKind.signed,w0x]
theorem t0G (n p:Nat):((n/(p*16)%16:Nat):Int)=((n/p%256:Nat):Int)/16/\((n/p%16:Nat):Int)=((n/p%256:Nat):Int)%16:=by
 rw [<-t1A];omega
theorem j1k (n:Nat):dgL n 16=a1e (j0R (n:Int)) 8:=by
 have b0:a0d (j0R (n:Int)) ((0:Nat):Int)=((n/2^56%256:Nat):Int):=t0e n (i:=0) oM;have b1:a0d (j0R (n:Int)) ((1:Nat):Int)=((n/2^48%256:Nat):Int):=t0e n (i:=1) oM;have b2:a0d (j0R (n:Int)) ((2:Nat):Int)=((n/2^40%256:Nat):Int):=t0e n (i:=2) oM;have b3:a0d (j0R (n:Int)) ((3:Nat):Int)=((n/2^32%256:Nat):Int):=t0e n (i:=3) oM;have b4:a0d (j0R (n:Int)) ((4:Nat):Int)=((n/2^24%256:Nat):Int):=t0e n (i:=4) oM;have b5:a0d (j0R (n:Int)) ((5:Nat):Int)=((n/2^16%256:Nat):Int):=t0e n (i:=5) oM;have b6:a0d (j0R (n:Int)) ((6:Nat):Int)=((n/2^8%256:Nat):Int):=t0e n (i:=6) oM;have b7:a0d (j0R (n:Int)) ((7:Nat):Int)=((n/2^0%256:Nat):Int):=t0e n (i:=7) oM;have p0:(16:Nat)^0=2^0:=dC
 have p1:(16:Nat)^1=2^0*16:=dC
 have p2:(16:Nat)^2=2^8:=dC
 have p3:(16:Nat)^3=2^8*16:=dC
 have p4:(16:Nat)^4=2^16:=dC
 have p5:(16:Nat)^5=2^16*16:=dC
 have p6:(16:Nat)^6=2^24:=dC
 have p7:(16:Nat)^7=2^24*16:=dC
 have p8:(16:Nat)^8=2^32:=dC
 have p9:(16:Nat)^9=2^32*16:=dC
 have p10:(16:Nat)^10=2^40:=dC
 have p11:(16:Nat)^11=2^40*16:=dC
 have p12:(16:Nat)^12=2^48:=dC
 have p13:(16:Nat)^13=2^48*16:=dC
 have p14:(16:Nat)^14=2^56:=dC
 have p15:(16:Nat)^15=2^56*16:=dC
 simp only [dgL,a1e,s1L,k1p];rw [b0,b1,b2,b3,b4,b5,b6,b7,p15,p14,p13,p12,p11,p10,p9,p8,p7,p6,p5,p4,p3,p2,p1,p0];generalize m0S=F;rw [(t0G n (2^56)).1,(t0G n (2^56)).2];rw [(t0G n (2^48)).1,(t0G n (2^48)).2];rw [(t0G n (2^40)).1,(t0G n (2^40)).2];rw [(t0G n (2^32)).1,(t0G n (2^32)).2];rw [(t0G n (2^24)).1,(t0G n (2^24)).2];rw [(t0G n (2^16)).1,(t0G n (2^16)).2];rw [(t0G n (2^8)).1,(t0G n (2^8)).2];rw [(t0G n (2^0)).1,(t0G n (2^0)).2]
def o1B:BA:=⟨#[48,49,50,51,52,53,54,55,56,57,97,98,99,100,101,102]⟩
theorem l1J {d:Nat} (h:d<16):o1B.extract d (d+1)=a0m [m0S (d:Int)]:=by
 have:∀n:Nat,n<16->o1B.extract n (n+1)=a0m [m0S (n:Int)]:=dC
 simp_all
theorem h0m (p:Int) (hp:0<=p/\p<18446744073709551616):a0K prog 146 [.int .u64 p] (.str (hxS p)):=by
 obtain ⟨n,rfl⟩:=r1S hp.1;have hx:a0m (dgL n 16)=hxS (n:Int):=by rw [j1k n];unfold hxS;rfl
 refine fEx func146 ?_;repeat' ((conv=>whnf);first|refine a0a ?_|(apply bRx<;>intro h<;>try exact aX))
 all_goals (conv=>whnf)
 refine a0h (fun k:Nat=>⟨[(0,.int .u64 ((n/16^k:Nat):Int)),(3,.str (a0m (dgL n k))),(4,.i k)],[],1⟩) (fun k=>k<=16) (fun k=>16-k) 0 [0] [] (wEx ⟨?_,rX⟩) oM ?_
 .exact congrArg (fun z:Nat=>some (SV.int .u64 (z:Int))) (show n=n/16^0 by simp)
 intro k hk;by_cases hlt:k<16
 .have hq:n/16^k<=n:=t1h _ _;have hqs:n/16^(k+1)=n/16^k/16:=by rw [t1T,<-t1A]
  have hdc:dgL n (k+1)=m0S ((n/16^k%16:Nat):Int)::dgL n k:=rfl;have bz:(a0m (dgL n k)).size=k:=by rw [b0w,h0l]
  generalize n/16^k=q at*;have r1:Int.tmod (q:Int) 16=((q%16:Nat):Int):=by rw [s1Q oM];omega
  have r2:u64.wrap (Int.tmod (q:Int) 16+1)=((q%16+1:Nat):Int):=by rw [r1,c0d oM oM];omega
  have hl:q%16<16:=t1J _ oM;have sx:∀z:BA,z.size=1->z.size+(a0m (dgL n k)).size<=9223372036854775807:=fun z hz=>by omega
  have f1:0<=(q:Int).tmod 16/\(q:Int).tmod 16<=u64.wrap ((q:Int).tmod 16+1)/\u64.wrap ((q:Int).tmod 16+1)<=((⟨#[48,49,50,51,52,53,54,55,56,57,97,98,99,100,101,102]⟩:BA).size:Int):=by
   rw [r2,r1];show _/\_/\_<=(16:Int);omega
  have f2:(⟨#[48,49,50,51,52,53,54,55,56,57,97,98,99,100,101,102]⟩:BA).extract ((q:Int).tmod 16).toNat (u64.wrap ((q:Int).tmod 16+1)).toNat=a0m [m0S ((q%16:Nat):Int)]:=by
   rw [r2,r1,u0f,u0f];exact l1J hl
  repeat' ((conv=>whnf);first|(refine a0f f1 ?_)|(refine a0f (by rw [f2];show 1+_<=_;omega) ?_)|(refine a0f dC ?_)|((first|apply f0E|apply q0a)<;>intro h<;>try (exfalso;(try dsimp only at h);omega)))
  all_goals (conv=>whnf)
  all_goals first
   |exact aX
   |skip
  refine ⟨k+1,[0],[],by omega,by omega,⟨rfl,⟨?_,?_,sI (a0u oM),trivial⟩,trivial⟩⟩
  .refine congrArg (fun z=>some (SV.int .u64 z)) ?_;rw [s1b oM,c0d oM oM,hqs];omega
  .refine congrArg (fun z=>some (SV.str z)) ?_;rw [f2,d0j,hdc];rfl
 .obtain rfl:k=16:=oM
  rw [hx];generalize n/16^16=q at*;exact Vx
attribute [local irreducible] rsT
theorem d1M (g:List BA) (n:Nat) (hn:g.length=n) (hok:okR g) (hm:n<=256):FC prog 2 144 [.sl 1 0 0 n] [(1,grB n g)] (a0g (.str (a0x g)) [] 2):=by
 have ok:∀i,(g.getD i ⟨#[]⟩).size<=4000:=m0V hok;refine fEx func144 ?_;repeat' ((conv=>whnf);first|refine a0a ?_|(apply bRx<;>intro h<;>try exact aX))
 all_goals (conv=>whnf)
 refine a0h (fun k:Nat=>⟨[(0,.sl 1 0 0 n),(3,.str (stK g k)),(4,.i k)],[(1,grB n g)],2⟩) (fun k=>k<=n) (fun k=>n-k) 0 [0,1] [] wHx (b1f _) ?_;intro k hk;by_cases hlt:k<n
 .have hbig:=ok k;have rs:=h0e (r:=g.getD k ⟨#[]⟩) oM;have ns:=d0d (n:=(g.getD k ⟨#[]⟩).size) oM;have sz:=o0X (g:=g) (k:=k) (fun i _=>ok i);have c1:=v0r (g.getD k ⟨#[]⟩).size 4 oM;have k1:(d0c (g.getD k ⟨#[]⟩).size 4).size+(g.getD k ⟨#[]⟩).size<=9223372036854775807:=oM
  have k2:(stK g k).size+(d0c (g.getD k ⟨#[]⟩).size 4++g.getD k ⟨#[]⟩).size<=9223372036854775807:=oM
  repeat' ((conv=>whnf);first|refine cPx c1 ?_|refine a0f k1 ?_|refine a0f k2 ?_|refine a0a ?_|(apply bRx<;>intro h<;>try exact aX)|exact aX|exact ⟨k+1,[0,1],[],by omega,by omega,⟨rfl,⟨rfl,rfl,sI (a0u oM),trivial⟩,rX⟩⟩)
 .obtain rfl:k=n:=oM
  have es:stK g k=a0x g:=by rw [<-d0K g,hn]
  rw [es];let l:=[0,1];exact Vx
theorem t0f (p:Int) (g:List BA) (n:Nat) (hn:g.length=n) (he:f0G g≠0) (hm:n<=maxLen):FC prog 2 89 [.int .u64 p,.sl 1 0 0 n] [(1,grB n g)] (a0g (.tup [.nsl,.i (f0G g)]) [] 2):=by
 unfold maxLen at hm;by_cases h0:n=0
 .rw [show f0G g=8 by unfold f0G;rw [if_pos oM]];let l:=[0,1];exact Wx func89
 .by_cases h1:256<n
  .rw [show f0G g=12 by unfold f0G;rw [if_neg oM,if_pos oM]];let l:=[0,1];exact Wx func89
  .have hl:d0A g g.length=true:=by
    cases h:d0A g g.length with
    |true=>rfl
    |false=>exact absurd (show f0G g=0 by unfold f0G;rw [if_neg oM,if_neg oM,h];rfl) he
   rw [show f0G g=3 by unfold f0G;rw [if_neg oM,if_neg oM,if_pos hl]];refine fEx func89 ?_;repeat' ((conv=>whnf);first|refine a0a ?_|(apply bRx<;>intro h<;>try exact aX))
   all_goals (conv=>whnf)
   refine a0h (fun k:Nat=>⟨[(0,.int .u64 p),(1,.sl 1 0 0 n),(6,.i k)],[(1,grB n g)],2⟩) (fun k=>k<=n/\d0A g k=false) (fun k=>n-k) 0 [0,1] [] wHx ⟨by omega,rfl⟩ ?_;rintro k ⟨hk,hf⟩;have hlk:k=n->False:=fun e=>by rw [e,<-hn,hl] at hf;cases hf
   have hlt:k<n:=by
    rcases i1B k n with h|h
    .exact h
    .exact (hlk oM).elim
   by_cases hbig:4000<(g.getD k ⟨#[]⟩).size
   .repeat' ((conv=>whnf);first|refine a0a ?_|(apply bRx<;>intro h<;>try exact aX)|exact rOx [0,1] a0c|(exfalso;rename_i h;have h':¬((4000:Int)<((g.getD k ⟨#[]⟩).size:Int)):=h;omega)|exact aX)
   .have fs:d0A g (k+1)=false:=by simp only [d0A];rw [hf,u1N,decide_eq_false_iff_not];exact hbig
    repeat' ((conv=>whnf);first|refine a0a ?_|(apply bRx<;>intro h<;>try exact aX)|(exfalso;rename_i h;have h':(4000:Int)<((g.getD k ⟨#[]⟩).size:Int):=h;omega)|exact ⟨k+1,[0,1],[],⟨by omega,fs⟩,by omega,⟨rfl,⟨rfl,rfl,sI (a0u oM),trivial⟩,rX⟩⟩|exact aX)
theorem t0g (p:Int) (g:List BA) (n:Nat) (hn:g.length=n) (he:f0G g=0):FC prog 2 89 [.int .u64 p,.sl 1 0 0 n] [(1,grB n g)] (a0g (.tup [.sl 2 0 0 (d0k (a0x g)),.i 0]) [(2,grW (d0k (a0x g)) (bkL p (a0x g) (d0k (a0x g))))] 3):=by
 have hc:n≠0/\¬256<n/\d0A g g.length=false:=by
  unfold f0G at he;by_cases h0:g.length=0
  .rw [if_pos h0] at he;omega
  .rw [if_neg h0] at he;by_cases h1:256<g.length
   .rw [if_pos h1] at he;omega
   .rw [if_neg h1] at he;refine ⟨by omega,by omega,?_⟩;cases h:d0A g g.length with
    |false=>rfl
    |true=>rw [if_pos h] at he;omega
 obtain ⟨h0,h1,hlf⟩:=hc;have hok:=x0w hlf;have ok:∀i,(g.getD i ⟨#[]⟩).size<=4000:=m0V hok;have sz:=o0X (g:=g) (k:=n) (fun i _=>ok i);have c3:=d1M g n hn hok oM;have es:stK g n=a0x g:=by rw [<-d0K g,hn]
 rw [es] at sz;have hsz:(a0x g).size<=1100000:=oM
 refine fEx func89 ?_;repeat' ((conv=>whnf);first|refine a0a ?_|(apply bRx<;>intro h<;>try exact aX))
 all_goals (conv=>whnf)
 refine a0h (fun k:Nat=>⟨[(0,.int .u64 p),(1,.sl 1 0 0 n),(6,.i k)],[(1,grB n g)],2⟩) (fun k=>k<=n) (fun k=>n-k) 0 [0,1] [] wHx oM ?_;intro k hk;by_cases hlt:k<n
 .have hbig:=ok k;repeat' ((conv=>whnf);first|refine a0a ?_|(apply bRx<;>intro h<;>try exact aX)|(exfalso;rename_i h;have h':(4000:Int)<((g.getD k ⟨#[]⟩).size:Int):=h;omega)|exact ⟨k+1,[0,1],[],by omega,by omega,⟨rfl,⟨rfl,rfl,sI (a0u oM),trivial⟩,rX⟩⟩|exact aX)
 .repeat' ((conv=>whnf);first|refine cOx (l:= [0,1]) c3 ?_|refine a0a ?_|(apply bRx<;>intro h<;>try exact aX))
  all_goals (conv=>whnf)
  all_goals first
   |exact aX
   |skip
  refine a0h (fun k:Nat=>⟨[(0,.int .u64 (hK p (a0x g) k)),(7,.sl 2 0 0 k),(8,.str (rsT (a0x g) k))],[(1,grB n g),(2,grW k (bkL p (a0x g) k))],3⟩) (fun k=>k<=d0k (a0x g)) (fun k=>d0k (a0x g)-k) 0 [0,1,2] [.slot 7 [.sc (.strs [])]] (wEx ⟨rfl,rfl,?_,trivial⟩) (b1f _) ?_
  .rw [x0v];rfl
  intro k hk;have hrz:=k0W (a0x g) k;by_cases hlt:k<d0k (a0x g)
  .have hpos:0<(rsT (a0x g) k).size:=by unfold d0k at hlt;omega
   have hne:rsT (a0x g) k≠⟨#[]⟩:=by intro e;rw [e] at hpos;exact absurd hpos dC
   by_cases h45:(rsT (a0x g) k).size<=45
   .have emn:min (rsT (a0x g) k).size 45=(rsT (a0x g) k).size:=oM
    have eb:((⟨#[46]⟩:BA)++d0c (((rsT (a0x g) k).size:Nat)) 2)++(rsT (a0x g) k).extract 0 ((rsT (a0x g) k).size)=k0I (rsT (a0x g) k):=by
     unfold k0I;rw [emn,if_pos h45];rfl
    have n2:(d0c (((rsT (a0x g) k).size:Nat)) 2).size=2:=e0Q (n:=(rsT (a0x g) k).size) oM;have bz:=e0R (r:=rsT (a0x g) k);have xz:((rsT (a0x g) k).extract 0 ((rsT (a0x g) k).size)).size=(rsT (a0x g) k).size:=h0b oM;have e2:chI (hK p (a0x g) k) (((⟨#[46]⟩:BA)++d0c (((rsT (a0x g) k).size:Nat)) 2)++(rsT (a0x g) k).extract 0 ((rsT (a0x g) k).size))=hK p (a0x g) (k+1):=by rw [eb];rfl
    have c1:=v0r (((rsT (a0x g) k).size:Nat)) 2 oM;have c2:=h0Y (hK p (a0x g) k) (((⟨#[46]⟩:BA)++d0c (((rsT (a0x g) k).size:Nat)) 2)++(rsT (a0x g) k).extract 0 ((rsT (a0x g) k).size)) (by rw [eb];omega);rw [e2] at c2;have c4:=h0m (hK p (a0x g) (k+1)) (m0H _ _);have m1:(⟨#[46]⟩:BA).size=1:=rfl;have k1:(⟨#[46]⟩:BA).size+(d0c (((rsT (a0x g) k).size:Nat)) 2).size<=9223372036854775807:=oM
    have k2:((⟨#[46]⟩:BA)++d0c (((rsT (a0x g) k).size:Nat)) 2).size+((rsT (a0x g) k).extract 0 ((rsT (a0x g) k).size)).size<=9223372036854775807:=by rw [b0B];omega
    have k3:(hxS (hK p (a0x g) (k+1))).size+(((⟨#[46]⟩:BA)++d0c (((rsT (a0x g) k).size:Nat)) 2)++(rsT (a0x g) k).extract 0 ((rsT (a0x g) k).size)).size<=9223372036854775807:=by rw [eb,f0r];omega
    repeat' ((conv=>whnf);first|refine cPx c1 ?_|refine cPx c2 ?_|refine cPx c4 ?_|refine a0f k1 ?_|refine a0f k2 ?_|refine a0f k3 ?_|refine a0a ?_|(apply bRx<;>intro h<;>try exact aX))
    all_goals (conv=>whnf)
    all_goals first
     |(exfalso;exact hne h)
     |(exfalso;rename_i h;exact hne h)
     |exact aX
     |skip
    have er:some (SV.str ((rsT (a0x g) k).extract (rsT (a0x g) k).size (rsT (a0x g) k).size))=some (SV.str (rsT (a0x g) (k+1))):=by
     have:=k0X (a0x g) k;rw [emn] at this;rw [this]
    refine ⟨k+1,[0,1,4],[],by omega,by omega,⟨rfl,⟨rfl,rfl,er,trivial⟩,⟨rfl,?_,trivial⟩⟩⟩;rw [k0V];unfold bK;rw [<-eb];rfl
   .have emn:min (rsT (a0x g) k).size 45=45:=oM
    have eb:((⟨#[43]⟩:BA)++d0c (45) 2)++(rsT (a0x g) k).extract 0 (45)=k0I (rsT (a0x g) k):=by
     unfold k0I;rw [emn,if_neg h45];rfl
    have n2:(d0c (45) 2).size=2:=e0Q (n:=45) oM;have bz:=e0R (r:=rsT (a0x g) k);have xz:((rsT (a0x g) k).extract 0 (45)).size=45:=h0b oM;have e2:chI (hK p (a0x g) k) (((⟨#[43]⟩:BA)++d0c (45) 2)++(rsT (a0x g) k).extract 0 (45))=hK p (a0x g) (k+1):=by rw [eb];rfl
    have c1:=v0r (45) 2 oM;have c2:=h0Y (hK p (a0x g) k) (((⟨#[43]⟩:BA)++d0c (45) 2)++(rsT (a0x g) k).extract 0 (45)) (by rw [eb];omega);rw [e2] at c2;have c4:=h0m (hK p (a0x g) (k+1)) (m0H _ _);have m1:(⟨#[43]⟩:BA).size=1:=rfl;have k1:(⟨#[43]⟩:BA).size+(d0c (45) 2).size<=9223372036854775807:=oM
    have k2:((⟨#[43]⟩:BA)++d0c (45) 2).size+((rsT (a0x g) k).extract 0 (45)).size<=9223372036854775807:=by rw [b0B];omega
    have k3:(hxS (hK p (a0x g) (k+1))).size+(((⟨#[43]⟩:BA)++d0c (45) 2)++(rsT (a0x g) k).extract 0 (45)).size<=9223372036854775807:=by rw [eb,f0r];omega
    repeat' ((conv=>whnf);first|refine cPx c1 ?_|refine cPx c2 ?_|refine cPx c4 ?_|refine a0f k1 ?_|refine a0f k2 ?_|refine a0f k3 ?_|refine a0a ?_|(apply bRx<;>intro h<;>try exact aX))
    all_goals (conv=>whnf)
    all_goals first
     |(exfalso;exact hne h)
     |(exfalso;rename_i h;exact hne h)
     |exact aX
     |skip
    have er:some (SV.str ((rsT (a0x g) k).extract 45 (rsT (a0x g) k).size))=some (SV.str (rsT (a0x g) (k+1))):=by
     have:=k0X (a0x g) k;rw [emn] at this;rw [this]
    refine ⟨k+1,[0,1,4],[],by omega,by omega,⟨rfl,⟨rfl,rfl,er,trivial⟩,⟨rfl,?_,trivial⟩⟩⟩;rw [k0V];unfold bK;rw [<-eb];rfl
  .have ek:k=d0k (a0x g):=oM
   have hz:(rsT (a0x g) k).size=0:=by rw [hrz];unfold d0k at ek;omega
   have he0:rsT (a0x g) k=⟨#[]⟩:=by
    apply g0r;have:(rsT (a0x g) k).data.toList.length=0:=by simpa using hz
    rw [s1D this]
   rw [he0];subst ek;let l:=[0,1,2];exact Vx
end
section
theorem v0s (c:Int):a0K prog 214 [.int .u8 c] (.bool (decide (48<=c/\c<=57))):=by
 refine fEx func214 ?_;repeat' (first|(apply bRx<;>intro h))
 all_goals refine a0e (congrArg SV.bool ?_)
 all_goals grind
theorem k0z (s:BA) (hs:s.size<=9223372036854775000):a0K prog 174 [.str s] (.bool (a0R s s.size)):=by
 refine fEx func174 ?_
 refine a0h (fun k:Nat=>⟨[(0,.str s),(3,.i k)],[],1⟩) (fun k=>k<=s.size/\a0R s k=true) (fun k=>s.size-k) 0 [0] [] wHx ⟨by omega,rfl⟩ ?_;rintro k ⟨hk,hc⟩;have c:=v0s (a0d s (k:Int));repeat' ((conv=>whnf);first|refine cPx c ?_|refine a0a ?_|(apply bRx<;>intro h))
 .have hf:a0R s s.size=false:=g0s (k:=k) oM (fun h=>by trivial);refine a0e ?_;rw [hf];rfl
 .exact ⟨k+1,[0],[],⟨by omega,m0T hc oM oM⟩,by omega,⟨rfl,⟨rfl,sI (a0u oM),trivial⟩,trivial⟩⟩
 .have e:k=s.size:=oM
  subst e;refine a0e ?_;rw [hc];rfl
attribute [local irreducible] seq ByteArray.extract
theorem d0e {b:BA} {i j k:Nat} (h:i+k<j) (hj:j<=b.size):a0d (b.extract i j) (k:Int)=a0d b ((i+k:Nat):Int):=by
 unfold a0d;simp only [s1U];grind
theorem f0v {b:BA} {i j:Nat} (hi:i<=j) (hj:j<=b.size):(b.extract i j).size=j-i:=by simp_all
theorem j1l {x:BA} (h:x.size=1) (c:UInt8):x=⟨#[c]⟩↔a0d x 0=(c.toNat:Int):=by
 constructor
 .intro e;rw [e];rfl
 .intro e;apply g0r;have hl:x.data.toList.length=1:=by trivial
  match hx:x.data.toList,hl with
  | [y],_=>
    unfold a0d at e;rw [hx] at e;have e2:(y.toNat:Int)=(c.toNat:Int):=e;have:y.toNat=c.toNat:=oM
    rw [UInt8.toNat_inj.1 this]
theorem l1K {b:BA} (h:19<b.size):(unM b=j1b↔a0d b 16=46)/\(unM b=v0g↔a0d b 16=43):=by
 have hz:(unM b).size=1:=by grind [unM,f0v,e0p]
 have hb:a0d (unM b) 0=a0d b 16:=by
  have:=d0e (b:=unR b) (i:=0) (j:=1) (k:=0) oM (by rw [e0p h];omega);refine Eq.trans this ?_;exact d0e (b:=b) (i:=16) (j:=b.size) (k:=0) oM (m0c _)
 exact ⟨by rw [j1b,j1l hz,hb];rfl,by rw [v0g,j1l hz,hb];rfl⟩
theorem j1m {b:BA} (h:19<b.size) {k:Nat} (hk:k<2):a0d (unD b) (k:Int)=a0d b ((17+k:Nat):Int):=by
 have z:=e0p h;refine Eq.trans (d0e (b:=unR b) (i:=1) (j:=(unR b).size) (k:=k) oM (m0c _)) ?_;refine Eq.trans (d0e (b:=b) (i:=16) (j:=b.size) (k:=1+k) oM (m0c _)) ?_;grind
theorem j1n {D:BA} {c0 c1:Int} (d0:a0d D ((0:Nat):Int)=c0) (d1:a0d D ((1:Nat):Int)=c1):a0R D 2=(decide (48<=c0/\c0<=57)&&decide (48<=c1/\c1<=57))/\d0z D 2=(c0-48)*10+(c1-48):=by
 subst d0 d1;refine ⟨by rfl,?_⟩;simp only [d0z];omega
theorem o1C {D:BA} (hz:2<=D.size):(nuE D 2=0↔a0R D 2=true)/\(nuE D 2=0->nuV D 2=d0z D 2):=by
 grind [j0a]
theorem o1D {b:BA} (h:19<b.size):(nuE (unD b) 2=0↔a0R (b.extract 17 19) 2=true)/\(nuE (unD b) 2=0->nuV (unD b) 2=(a0d b 17-48)*10+(a0d b 18-48)/\48<=a0d b 17/\a0d b 17<=57/\48<=a0d b 18/\a0d b 18<=57):=by
 have d0:a0d (unD b) ((0:Nat):Int)=a0d b 17:=j1m h (k:=0) oM;have d1:a0d (unD b) ((1:Nat):Int)=a0d b 18:=j1m h (k:=1) oM;have x0:a0d (b.extract 17 19) ((0:Nat):Int)=a0d b 17:=d0e (b:=b) (i:=17) (j:=19) (k:=0) oM oM;have x1:a0d (b.extract 17 19) ((1:Nat):Int)=a0d b 18:=d0e (b:=b) (i:=17) (j:=19) (k:=1) oM oM;obtain ⟨g1,g2⟩:=j1n d0 d1;obtain ⟨f1,_⟩:=j1n x0 x1;have zd:(unD b).size=b.size-17:=by unfold unD;rw [f0v (by rw [e0p h];omega) (m0c _),e0p h];rfl
 obtain ⟨n1,n2⟩:=o1C (D:=unD b) oM;simp_all
theorem q1K {b:BA} (h:19<b.size):(b.extract 17 19).size=2:=by grind [f0v]
theorem d0l {x:Int} (h:0<=x/\x<=100000):i64.wrap x=x:=a0l oM oM
theorem p0e {c:Int} (h:48<=c/\c<=57):i64.wrap (u8.wrap (c-48))=c-48:=by grind [m0j,a0l]
theorem z0E (p:Int) (b:BA) (hs:b.size<=1000000):a0K prog 123 [.int .u64 p,.str b] (if m0X p b then unV p b else unN):=by
 by_cases h20:b.size<=19
 .rw [if_neg (fun h=>by have:=h.1;omega)];exact Wx func123
 .have h19:19<b.size:=oM
  obtain ⟨m1,m2⟩:=l1K h19;obtain ⟨n1,n2⟩:=o1D h19;have zP:=j0c h19;have zR:=e0p h19;have z2:=q1K h19;have c1:=k0z (b.extract 17 19) (by rw [z2];decide);rw [z2] at c1;have c2:=h0Y p (b.extract 16 b.size) (by rw [f0v oM (m0c _)];omega);have c3:=h0m (chI p (b.extract 16 b.size)) (m0H _ _);have k1:(0:Int)<=16/\(16:Int)<(b.size:Int):=oM
  have k2:(0:Int)<=17/\(17:Int)<=19/\(19:Int)<=(b.size:Int):=oM
  have hl:j0b b=decide (a0d b 16=46):=by
   unfold j0b;by_cases e:a0d b 16=46
   .rw [m1.2 e,g1Z];simp [e]
   .rw [o1u (fun k=>e (m1.1 k))];simp [e]
  cases hd:a0R (b.extract 17 19) 2 with
  |false=>
   have hno:¬m0X p b:=fun ho=>by
    have:=n1.1 ho.2.2.1;rw [hd] at this;cases this
   rw [hd] at c1;rw [if_neg hno];exact Wx func123
  |true=>
   have hE:=n1.2 hd;obtain ⟨hv,v1,v2,v3,v4⟩:=n2 hE;rw [hd] at c1;obtain ⟨X,hX⟩:∃X,(a0d b 17-48)*10+(a0d b 18-48)=X:=⟨_,rfl⟩;have hX2:0<=X/\X<=99:=oM
   have en:i64.wrap (i64.wrap (i64.wrap (u8.wrap (a0d b 17-48))*10)+i64.wrap (u8.wrap (a0d b 18-48)))=X:=by
    rw [p0e ⟨v1,v2⟩,p0e ⟨v3,v4⟩,d0l (x:=(a0d b 17-48)*10) oM,d0l oM,hX]
   have e19:i64.wrap (19+i64.wrap (i64.wrap (i64.wrap (u8.wrap (a0d b 17-48))*10)+i64.wrap (u8.wrap (a0d b 18-48))))=19+X:=by rw [en,d0l oM]
   have hu:m0X p b↔(hxS (chI p (b.extract 16 b.size))=b.extract 0 16/\(b.size:Int)=19+X/\X<=45/\(a0d b 16=46\/(a0d b 16=43/\X=45))):=by
    unfold m0X;rw [m1,m2,hv,hX,zP];constructor
    .rintro ⟨o1,o2,o3,o4,o5,o6⟩;exact ⟨o2.symm,by omega,by omega,by omega⟩
    .rintro ⟨o1,o2,o3,o4⟩;exact ⟨h19,o1.symm,hE,by omega,by omega,by omega⟩
   by_cases hm6:a0d b 16=46
   .skip
    refine fEx func123 ?_;repeat' ((conv=>whnf);first|refine cPx c1 ?_|refine cPx c2 ?_|refine cPx c3 ?_|refine a0a ?_|(apply bRx<;>intro h<;>try exact aX))
    all_goals (conv=>whnf)
    all_goals first
     |exact aX
     |(exfalso;exact h hm6)
     |(have h':¬(b.size:Int)=i64.wrap (19+i64.wrap (i64.wrap (i64.wrap (u8.wrap (a0d b 17-48))*10)+i64.wrap (u8.wrap (a0d b 18-48)))):=h
       rw [e19] at h';rw [if_neg (fun ho=>h' (hu.1 ho).2.1)];exact a0e rfl)
     |(have h':(45:Int)<i64.wrap (i64.wrap (i64.wrap (u8.wrap (a0d b 17-48))*10)+i64.wrap (u8.wrap (a0d b 18-48))):=h
       rw [en] at h';rw [if_neg (fun ho=>by have:=(hu.1 ho).2.2.1;omega)];exact a0e rfl)
     |(have h':hxS (chI p (b.extract 16 b.size))≠b.extract 0 16:=h
       rw [if_neg (fun ho=>h' (hu.1 ho).1)];exact a0e rfl)
     |(rename_i k2 k1 _
       have k2':(b.size:Int)=i64.wrap (19+i64.wrap (i64.wrap (i64.wrap (u8.wrap (a0d b 17-48))*10)+i64.wrap (u8.wrap (a0d b 18-48)))):=k2;have k1':¬(45:Int)<i64.wrap (i64.wrap (i64.wrap (u8.wrap (a0d b 17-48))*10)+i64.wrap (u8.wrap (a0d b 18-48))):=k1;rw [e19] at k2';rw [en] at k1';have h':hxS (chI p (b.extract 16 b.size))=b.extract 0 16:=h;rw [if_pos (hu.2 ⟨h',k2',by omega,.inl hm6⟩)];unfold unV;rw [hl];exact a0e rfl)
   .by_cases hm3:a0d b 16=43
    .rw [decide_eq_false hm6] at hl;have hd6:decide (a0d b 16=46)=false:=decide_eq_false hm6;refine fEx func123 ?_;repeat' ((conv=>whnf);first|refine cPx c1 ?_|refine cPx c2 ?_|refine cPx c3 ?_|refine a0a ?_|(apply bRx<;>intro h<;>try exact aX))
     all_goals (conv=>whnf)
     all_goals first
      |exact aX
      |(exfalso;exact h hm3)
      |(have h':¬(b.size:Int)=i64.wrap (19+i64.wrap (i64.wrap (i64.wrap (u8.wrap (a0d b 17-48))*10)+i64.wrap (u8.wrap (a0d b 18-48)))):=h
        rw [e19] at h';rw [if_neg (fun ho=>h' (hu.1 ho).2.1)];exact a0e rfl)
      |(have h':(45:Int)<i64.wrap (i64.wrap (i64.wrap (u8.wrap (a0d b 17-48))*10)+i64.wrap (u8.wrap (a0d b 18-48))):=h
        rw [en] at h';rw [if_neg (fun ho=>by have:=(hu.1 ho).2.2.1;omega)];exact a0e rfl)
      |(have h':¬i64.wrap (i64.wrap (i64.wrap (u8.wrap (a0d b 17-48))*10)+i64.wrap (u8.wrap (a0d b 18-48)))=45:=h
        rw [en] at h';rw [if_neg (fun ho=>by have:=(hu.1 ho).2.2.2;omega)];exact a0e rfl)
      |(have h':hxS (chI p (b.extract 16 b.size))≠b.extract 0 16:=h
        rw [if_neg (fun ho=>h' (hu.1 ho).1)];exact a0e rfl)
      |(rename_i k2 k1 _ k3
        have k2':(b.size:Int)=i64.wrap (19+i64.wrap (i64.wrap (i64.wrap (u8.wrap (a0d b 17-48))*10)+i64.wrap (u8.wrap (a0d b 18-48)))):=k2;have k1':¬(45:Int)<i64.wrap (i64.wrap (i64.wrap (u8.wrap (a0d b 17-48))*10)+i64.wrap (u8.wrap (a0d b 18-48))):=k1;have k3':i64.wrap (i64.wrap (i64.wrap (u8.wrap (a0d b 17-48))*10)+i64.wrap (u8.wrap (a0d b 18-48)))=45:=k3;rw [e19] at k2';rw [en] at k1' k3';have h':hxS (chI p (b.extract 16 b.size))=b.extract 0 16:=h;rw [if_pos (hu.2 ⟨h',k2',by omega,.inr ⟨hm3,k3'⟩⟩)];unfold unV;rw [hl];exact a0e (by rw [hd6];rfl))
    .have hno:¬m0X p b:=fun ho=>by have:=(hu.1 ho).2.2.2;omega
     rw [if_neg hno];exact Wx func123
end
section
theorem p0f (b:Int):a0K prog 177 [.int .u8 b] (.bool (decide (97<=b/\b<=122\/65<=b/\b<=90))):=by
 refine fEx func177 ?_;repeat' (first|(apply bRx<;>intro h)|exact a0e (congrArg SV.bool (by grind)))
theorem d1N (b:Int):a0K prog 216 [.int .u8 b] (.bool (decide (48<=b/\b<=57))):=by
 refine fEx func216 ?_;repeat' (first|(apply bRx<;>intro h)|exact a0e (congrArg SV.bool (by grind)))
theorem x0L (s:BA) (e:Nat) (he:e<=s.size) (ht:o0F s e=true) (hx:e=s.size\/¬wdP (a0d s (e:Int))) (hs:s.size<=1000000):a0K prog 178 [.str s,.i 0] (.i e):=by
 refine fEx func178 ?_;repeat' ((conv=>whnf);first|refine a0a ?_|(apply bRx<;>intro h<;>try exact aX))
 all_goals (conv=>whnf)
 refine a0h (fun k:Nat=>⟨[(0,.str s),(1,.i k)],[],1⟩) (fun k=>k<=e) (fun k=>e-k) 0 [0] [] wHx oM ?_;intro k hk;have c1:=p0f (a0d s (k:Int));have c2:=d1N (a0d s (k:Int));by_cases hk2:k<e
 .have hw:=u0s hk2 ht;unfold wdP ltP at hw;repeat' ((conv=>whnf);first|refine cPx c1 ?_|refine cPx c2 ?_|refine a0a ?_|(apply bRx<;>intro h<;>try exact aX)|exact ⟨k+1,[0],[],by omega,by omega,⟨rfl,⟨rfl,sI (a0j oM),trivial⟩,trivial⟩⟩|exact aX)
 .have e1:k=e:=oM
  subst e1;by_cases hsz:k<s.size
  .have hw:=hx.resolve_left oM;unfold wdP ltP at hw;exact Vx
  .exact Vx
theorem p0g (s:BA):a0K prog 135 [.str s] (.bool (nmB s)):=by
 have c1:=p0f (a0d s 0);unfold nmB;by_cases h0:s=⟨#[]⟩
 .subst h0;exact Wx func135
 have hz:=i1F h0;by_cases h16:s.size<=16
 case neg=>
  rw [decide_eq_false h16];refine fEx func135 ?_;repeat' ((conv=>whnf);first|refine a0a ?_|(apply bRx<;>intro h<;>try exact aX)|(exfalso;exact h0 (by assumption))|exact aX|exact a0e (by rw [t1c];rfl))
 by_cases hl:ltP (a0d s 0)
 case neg=>
  rw [decide_eq_false hl];rw [decide_eq_false (show¬(97<=a0d s 0/\a0d s 0<=122\/65<=a0d s 0/\a0d s 0<=90) from hl)] at c1;refine fEx func135 ?_;repeat' ((conv=>whnf);first|refine cPx c1 ?_|refine a0a ?_|(apply bRx<;>intro h<;>try exact aX)|(exfalso;exact h0 (by assumption))|exact aX|exact a0e (by rw [t1c];rfl))
 rw [decide_eq_true (show (97<=a0d s 0/\a0d s 0<=122\/65<=a0d s 0/\a0d s 0<=90) from hl)] at c1;rw [decide_eq_true hz,decide_eq_true h16,decide_eq_true hl];cases hw:o0F s s.size with
 |true=>
  have c2:=x0L s s.size (m0c _) hw (.inl rfl) oM;refine fEx func135 ?_;repeat' ((conv=>whnf);first|refine cPx c1 ?_|refine cPx c2 ?_|refine a0a ?_|(apply bRx<;>intro h<;>try exact aX)|(exfalso;exact h0 (by assumption))|exact aX|exact a0e (congrArg SV.bool (decide_eq_true rfl)))
 |false=>
  obtain ⟨k,k1,k2,k3⟩:=g0V _ hw;have c2:=x0L s k oM k2 (.inr k3) oM;refine fEx func135 ?_;repeat' ((conv=>whnf);first|refine cPx c1 ?_|refine cPx c2 ?_|refine a0a ?_|(apply bRx<;>intro h<;>try exact aX)|(exfalso;exact h0 (by assumption))|exact aX|exact a0e (congrArg SV.bool (decide_eq_false oM)))
theorem h1m (k:Int) (hk:¬(k<1\/8<k)):a0K prog 132 [.i k] (.tup [.bool (g0W k),.bool (b1y k),.bool (g0W k)]):=by
 rcases f0j hk with rfl|rfl|rfl|rfl|rfl|rfl|rfl|rfl
 all_goals
  exact Wx func132
theorem j0i (u ok:Bool) (s:BA):a0K prog 133 [.bool u,.bool ok,.str s] (.bool (match u with|true=>ok|false=>seq s ⟨#[]⟩)):=by
 cases u<;>cases ok;all_goals
  exact Wx func133
theorem v0t (k t:Int) (id au is ac:BA) (am fe:Int) (fi:Bool) (hk:¬(k<1\/8<k)):a0K prog 136 [.agg [.i k,.i t,.str id,.str au,.str is,.str ac,.i am,.i fe,.bool fi]] (.bool (pmB k am)):=by
 rcases f0j hk with rfl|rfl|rfl|rfl|rfl|rfl|rfl|rfl
 all_goals
  unfold pmB;simp only [Int.reduceEq,if_true,if_false];refine fEx func136 ?_;repeat' ((conv=>whnf);first|refine a0a ?_|(apply bRx<;>intro h<;>try exact aX))
  all_goals (conv=>whnf)
  all_goals refine a0e ?_
  all_goals
   show SV.bool _=SV.bool _;first
    |rfl
    |congr 1
   all_goals first
    |exact decide_eq_decide.2 oM
    |exact (decide_eq_false oM).symm
    |(rw [<-decide_not];exact decide_eq_decide.2 oM)
set_option maxHeartbeats 4000000 in
theorem z0F (k t:Int) (id au is ac:BA) (am fe:Int) (fi:Bool):a0K prog 87 [.agg [.i k,.i t,.str id,.str au,.str is,.str ac,.i am,.i fe,.bool fi]] (.i (ckE ⟨k,t,id,au,is,ac,am,fe,fi⟩)):=by
 by_cases h1:k<1\/8<k
 .have e:ckE ⟨k,t,id,au,is,ac,am,fe,fi⟩=4:=by unfold ckE;rw [if_pos h1]
  rw [e];exact Wx func87
 by_cases h2:t<0\/1099511627776<t
 .have e:ckE ⟨k,t,id,au,is,ac,am,fe,fi⟩=14:=by unfold ckE;rw [if_neg h1,if_pos h2]
  rw [e];exact Wx func87
 have c0:=h1m k h1;have i1:=q0S id;have i2:=q0S au;have i3:=p0g is;have i4:=p0g ac;have c1:=j0i (g0W k) (auI id) id;have c2:=j0i (b1y k) (auI au) au;have c3:=j0i (g0W k) (nmB is) is;have c4:=j0i (g0W k) (nmB ac) ac;have c5:=v0t k t id au is ac am fe fi h1;have e:ckE ⟨k,t,id,au,is,ac,am,fe,fi⟩=if (fiB id (g0W k) auI&&(fiB au (b1y k) auI&&(fiB is (g0W k) nmB&&fiB ac (g0W k) nmB)))=false then 5 else if pmB k am=false then 4 else if fe<0\/(if k=4\/k=5 then am else 0)<fe then 4 else if fi=true/\k≠4 then 2 else if g0W k=true/\is=ac then 7 else 0:=by
  unfold ckE bkN;rw [if_neg h1,if_neg h2]
 have hp:pmB k am=true->k=4\/k=5->1<=am:=by
  intro hp hk;unfold pmB at hp;rcases hk with rfl|rfl<;>simp at hp<;>omega
 change a0K _ _ _ (.bool (fiB id (g0W k) auI)) at c1;change a0K _ _ _ (.bool (fiB au (b1y k) auI)) at c2;change a0K _ _ _ (.bool (fiB is (g0W k) nmB)) at c3;change a0K _ _ _ (.bool (fiB ac (g0W k) nmB)) at c4;generalize ckE ⟨k,t,id,au,is,ac,am,fe,fi⟩=E at*;generalize fiB id (g0W k) auI=b1 at*;generalize fiB au (b1y k) auI=b2 at*;generalize fiB is (g0W k) nmB=b3 at*;generalize fiB ac (g0W k) nmB=b4 at*;generalize pmB k am=b5 at*;generalize auI id=z1 at*;generalize auI au=z2 at*;generalize nmB is=z3 at*;generalize nmB ac=z4 at*;rcases f0j h1 with rfl|rfl|rfl|rfl|rfl|rfl|rfl|rfl
 all_goals
  simp only [Int.reduceEq,g0W,b1y,or_true,true_or,or_false,false_or,if_true,if_false,decide_true,decide_false,true_and,false_and,s1X,ne_eq,not_true_eq_false,not_false_eq_true,and_true,and_false,true_implies,false_implies] at*;refine fEx func87 ?_;repeat' ((conv=>whnf);first|refine cPx c0 ?_|refine cPx i1 ?_|refine cPx i2 ?_|refine cPx i3 ?_|refine cPx i4 ?_|refine cPx c1 ?_|refine cPx c2 ?_|refine cPx c3 ?_|refine cPx c4 ?_|refine cPx c5 ?_|refine a0a ?_|(apply bRx<;>intro h<;>try exact aX))
  all_goals (conv=>whnf)
  all_goals first
   |exact aX
   |(refine a0e (congrArg (SV.int .i64) (a₁:=_) ?_)
     rw [e]
     (repeat' split)<;>first|rfl|exact aX|(exfalso;simp_all;done)|(exfalso;simp_all;omega))
theorem n0j (o:Bop):a0K prog 87 [o.s] (.i (ckE o)):=z0F o.k o.t o.id o.au o.is o.ac o.am o.fe o.fi
end
section
attribute [local irreducible] sortI
theorem j1o (c:UInt8) (p q:BA):∀O:List BA,c0D (O++ [p,q]) ⟨#[c]⟩=c0D (O++ [p++(⟨#[c]⟩++q)]) ⟨#[c]⟩
 | []=>by rw [s1L,s1L,g0v,n0i,n0i]
 | [x]=>by
   grind [g0v,n0i]
 |x::y::O=>by
  have:=j1o c p q (y::O);simp_all [g0v]
theorem l1L {s:BA} {a i:Nat} (ha:a<=i) (hi:i<s.size) (c:UInt8) (hc:a0d s (i:Int)=(c.toNat:Int)):s.extract a s.size=s.extract a i++(⟨#[c]⟩++s.extract (i+1) s.size):=by
 apply o1f;have h2:i<s.data.toList.length:=by trivial
 have hb:s.data.toList[i]=c:=by
  have e:a0d s (i:Int)=((s.data.toList[i]).toNat:Int):=by
   unfold a0d;simp_all
  exact UInt8.toNat_inj.1 oM
 have hX:∀u v,(s.extract u v).data.toList=(s.data.toList.take v).drop u:=fun u v=>by
  simp [List.drop_take]
 rw [t1G,t1G,s1R,s1R,hX,hX,hX];have hs:s.data.toList.take s.size=s.data.toList:=s1A (by simp);rw [hs];have e1:s.data.toList.drop a=(s.data.toList.take i).drop a++s.data.toList.drop i:=by
  conv=>lhs;rw [<-t1g i s.data.toList]
  grind
 rw [e1,t1F h2,hb];rfl
theorem l1M {L:List BA} {s:BA} {k:Nat} (hk:L.length=k+1) (hf:∀y∈L,(124:UInt8)∉y.data.toList) (hj:c0D L ⟨#[124]⟩=s):Lib.countB s ⟨#[124]⟩=k/\ptL s=L:=by
 cases L with
 |nil=>trivial
 |cons x L=>
  obtain ⟨a,b⟩:=o0R 124 x L (hf x (t1H ..)) (fun y hy=>hf y (s1n _ hy));simp_all [ptL]
theorem x0M {s:BA} {a i:Nat} (hi:i<=s.size) (h:∀j,a<=j->j<i->¬a0d s (j:Int)=124):(124:UInt8)∉(s.extract a i).data.toList:=by
 refine c1U fun k hk=> ?_
 rw [r1V] at hk;rw [d0e oM hi];exact h (a+k) oM oM
attribute [local irreducible] ByteArray.extract seq
theorem d1O (s:BA) (hs:s.size<=100000):FC prog 1 125 [.str s,.int .u8 124] [] (a0g (.sl 1 0 0 (Lib.countB s ⟨#[124]⟩+1)) [(1,some (.one false (.cols (Lib.countB s ⟨#[124]⟩+1) [.sc (.strs (ptL s))])))] 2):=by
 refine fEx func125 ?_;repeat' ((conv=>whnf);first|refine a0a ?_|(apply bRx<;>intro h<;>try exact aX))
 all_goals (conv=>whnf)
 refine a0h (fun x:List BA×Nat×Nat×Nat=>⟨[(0,.str s),(1,.int .u8 124),(5,.sl 1 0 0 x.2.1),(6,.i x.2.2.1),(7,.i x.2.2.2)],[(1,some (.one false (.cols x.2.1 [.sc (.strs x.1)])))],2⟩)
  (fun x=>x.1.length=x.2.1/\x.2.1<=x.2.2.1/\x.2.2.1<=x.2.2.2/\x.2.2.2<=s.size/\(∀y∈x.1,(124:UInt8)∉y.data.toList)/\c0D (x.1++ [s.extract x.2.2.1 s.size]) ⟨#[124]⟩=s/\∀j,x.2.2.1<=j->j<x.2.2.2->¬a0d s (j:Int)=124) (fun x=>s.size-x.2.2.2) ([],0,0,0) [0,1] [.slot 5 [.sc (.strs [])]] wHx
  ⟨rfl,m0c _,m0c _,b1f _,fun y h=>absurd h s1O,by rw [s1L,n0i];exact l1t,fun j _ h=>absurd h (p1R _)⟩ ?_
 rintro ⟨O,k,a,i⟩ ⟨hO,hka,hai,hi,hf,hj,hn⟩;dsimp only at hO hka hai hi hf hj hn⊢;by_cases hlt:i<s.size
 .by_cases hc:a0d s (i:Int)=124
  .have hj2:c0D ((O++ [s.extract a i])++ [s.extract (i+1) s.size]) ⟨#[124]⟩=s:=by
    rw [l1L hai hlt 124 hc,<-j1o] at hj;rw [s1T];exact hj
   have hf2:∀y∈O++ [s.extract a i],(124:UInt8)∉y.data.toList:=fun y hy=>by
    rcases k1q.1 hy with q|q
    .exact hf y q
    .rw [b1h.1 q];exact x0M hi hn
   repeat' ((conv=>whnf);first|(refine a0f ⟨by omega,by omega,by omega⟩ ?_)|refine a0a ?_|(apply bRx<;>intro h<;>try exact aX)|exact aX|exact ⟨(O++ [s.extract a i],k+1,i+1,i+1),[0,3],[],⟨by simp [hO],by dsimp only;omega,m0c _,hlt,hf2,hj2,fun j h1 h2=>absurd h1 (by dsimp only at*;omega)⟩,by show s.size-(i+1)<s.size-i;omega,⟨rfl,⟨rfl,rfl,rfl,sI (a0j oM),sI (a0j oM),trivial⟩,rX⟩⟩)
  .repeat' ((conv=>whnf);first|refine a0a ?_|(apply bRx<;>intro h<;>try exact aX))
   all_goals (conv=>whnf)
   all_goals first
    |exact aX
    |exact ⟨(O,k,a,i+1),[0,1],[],⟨hO,hka,by dsimp only;omega,hlt,hf,hj,fun j h1 h2=>by
      by_cases q:j=i
      .rw [q];exact hc
      .exact hn j h1 (by dsimp only at*;omega)⟩,by show s.size-(i+1)<s.size-i;omega,⟨rfl,⟨rfl,rfl,rfl,rfl,sI (a0j oM),trivial⟩,rX⟩⟩
 have ei:i=s.size:=oM
 subst ei;have hf2:∀y∈O++ [s.extract a s.size],(124:UInt8)∉y.data.toList:=fun y hy=>by
  rcases k1q.1 hy with q|q
  .exact hf y q
  .rw [b1h.1 q];exact x0M (m0c _) hn
 obtain ⟨e1,e2⟩:=l1M (k:=k) (by simp [hO]) hf2 hj;rw [e1,e2];clear e1 e2 hf2 hj;repeat' ((conv=>whnf);first|(refine a0f ⟨by omega,by omega,by omega⟩ ?_)|refine a0a ?_|(apply bRx<;>intro h<;>try exact aX)|exact aX|exact rOx [0,3] (a0b a0c))
end
section
attribute [local irreducible] sortI
attribute [local irreducible] seq ByteArray.extract
theorem h1o (X:List BA) (tx:BA) (k t am fe:Int) (b1 b2 b3 b4 z0 z1:Bool) (E:Int) (hw1:i64.wrap k=k) (hw2:i64.wrap t=t)
  (c1:FC prog 1 125 [.str tx,.int .u8 124] [] (a0g (.sl 1 0 0 (8+1)) [(1,some (.one false (.cols (8+1) [.sc (.strs X)])))] 2))
  (g1:a0K prog 126 [.str (X.getD 0 ⟨#[]⟩)] (.tup [.i k,.bool b1])) (g2:a0K prog 126 [.str (X.getD 1 ⟨#[]⟩)] (.tup [.i t,.bool b2]))
  (g3:a0K prog 126 [.str (X.getD 6 ⟨#[]⟩)] (.tup [.i am,.bool b3])) (g4:a0K prog 126 [.str (X.getD 7 ⟨#[]⟩)] (.tup [.i fe,.bool b4]))
  (p0:seq (X.getD 8 ⟨#[]⟩) ⟨#[48]⟩=z0) (p1:seq (X.getD 8 ⟨#[]⟩) ⟨#[49]⟩=z1)
  (c2:a0K prog 87 [.agg [.i k,.i t,.str (X.getD 2 ⟨#[]⟩),.str (X.getD 3 ⟨#[]⟩),.str (X.getD 4 ⟨#[]⟩),.str (X.getD 5 ⟨#[]⟩),.i am,.i fe,.bool z1]] (.i E)):
  a0K prog 79 [.str tx] (.tup (if (b1&&(b2&&(b3&&(b4&&(z0||z1)))))=false then [x0i.s,.i 2] else if E=0 then [.agg [.i k,.i t,.str (X.getD 2 ⟨#[]⟩),.str (X.getD 3 ⟨#[]⟩),.str (X.getD 4 ⟨#[]⟩),.str (X.getD 5 ⟨#[]⟩),.i am,.i fe,.bool z1],.i 0] else [x0i.s,.i E])):=by
 have q0:seq (X.getD (Int.toNat 8+0) ⟨#[]⟩) ⟨#[48]⟩=z0:=p0;have q1:seq (X.getD (Int.toNat 8+0) ⟨#[]⟩) ⟨#[49]⟩=z1:=p1;refine fEx func79 ?_;repeat' ((conv=>whnf);first|(rw [q0])|(rw [q1])|(rw [hw1])|(rw [hw2])|refine cOx (l:= [0]) c1 ?_|refine cPx g1 ?_|refine cPx g2 ?_|refine cPx g3 ?_|refine cPx g4 ?_|refine cPx c2 ?_|refine a0a ?_|(apply bRx<;>intro h<;>try exact aX))
 all_goals (conv=>whnf)
 all_goals clear p0 p1 q0 q1 c1 g1 g2 g3 g4 c2 hw1 hw2
 all_goals subst_vars
 all_goals first
  |exact a0e rfl
  |(cases z1<;>(rw [if_neg dC,if_neg (by assumption)];exact a0e rfl))
  |(rw [if_neg dC,if_neg (by assumption)];exact a0e rfl)
theorem o1E (s:BA) (hs:s.size<=100000) (k:Nat) (hk:Lib.countB s ⟨#[124]⟩=k) (h8:k≠8):a0K prog 79 [.str s] (.tup [x0i.s,.i 2]):=by
 have c1:=d1O s hs;let l:=[0];exact Wx func79
theorem z0G (s:BA) (hs:s.size<=100000):a0K prog 79 [.str s] (.tup [(deO s).s,.i (deE s)]):=by
 by_cases h8:Lib.countB s ⟨#[124]⟩=8
 case neg=>
  have e:deE s=2:=by simp_all [deE]
  have e2:deO s=x0i:=by simp_all [deO]
  rw [e,e2];exact o1E s hs _ rfl h8
 have c1:=d1O s hs;rw [h8] at c1;have hz:=c1X s;obtain ⟨k,k1,k2,g1⟩:=h0k _ (n1r (hz 0) hs);obtain ⟨t,t1,t2,g2⟩:=h0k _ (n1r (hz 1) hs);obtain ⟨am,a1,a2,g3⟩:=h0k _ (n1r (hz 6) hs);obtain ⟨fe,f1,f2,g4⟩:=h0k _ (n1r (hz 7) hs);have key:=h1o (ptL s) s k t am fe _ _ _ _ _ _ _ (a0l k2.1 k2.2) (a0l t2.1 t2.2) c1 g1 g2 g3 g4 rfl rfl (n0j ⟨k,t,(ptL s).getD 2 ⟨#[]⟩,(ptL s).getD 3 ⟨#[]⟩,(ptL s).getD 4 ⟨#[]⟩,(ptL s).getD 5 ⟨#[]⟩,am,fe,seq ((ptL s).getD 8 ⟨#[]⟩) ⟨#[49]⟩⟩);have eD:deE s=(if deF (ptL s)=false then 2 else ckE (deP (ptL s))):=by simp_all [deE]
 unfold deO;by_cases q:deF (ptL s)=false
 .rw [if_pos (show (_&&_)=false from q)] at key;simp_all
 have q2:deF (ptL s)=true:=by simp_all
 unfold deF at q2;grind [k1,a1,a0K,ckE,deP]
theorem q0T (o:Bop) (hc:ckE o=0):a0K prog 44 [o.s] (.tup [.str (b0Z o),.i 0]):=by
 have c1:=n0j o;rw [hc] at c1;obtain ⟨z1,z2,z3,z4,z5,z6,z7,z8⟩:=c1Q (u0u hc);have w1:i64.wrap o.k=o.k:=a0l z1.1 z1.2;have w2:i64.wrap o.t=o.t:=a0l z2.1 z2.2;have g1:=h0j o.k z1.1 z1.2;have g2:=h0j o.t z2.1 z2.2;have g3:=h0j o.am z3.1 z3.2;have g4:=h0j o.fe z4.1 z4.2;have y1:=a0B o.k z1.1 z1.2;have y2:=a0B o.t z2.1 z2.2;have y3:=a0B o.am z3.1 z3.2;have y4:=a0B o.fe z4.1 z4.2;have h1:(⟨#[124]⟩:BA).size=1:=rfl;have hj:b0Z o=b0i o.k++⟨#[124]⟩++b0i o.t++⟨#[124]⟩++o.id++⟨#[124]⟩++o.au++⟨#[124]⟩++o.is++⟨#[124]⟩++o.ac++⟨#[124]⟩++b0i o.am++⟨#[124]⟩++b0i o.fe++⟨#[124]⟩++(if o.fi=true then ⟨#[49]⟩ else ⟨#[48]⟩):=by
  unfold b0Z c1P;simp only [g0v,n0i,t1O]
 rw [hj];by_cases hf:o.fi=true
 .rw [if_pos hf];have h9:(⟨#[49]⟩:BA).size=1:=rfl;clear hc hj;refine fEx func44 ?_;repeat' ((conv=>whnf);first|refine cPx c1 ?_|(rw [w1])|(rw [w2])|refine cPx g1 ?_|refine cPx g2 ?_|refine cPx g3 ?_|refine cPx g4 ?_|(refine a0f ?_ ?_;(simp only [k1o,h1,h9];omega))|refine a0a ?_|(apply bRx<;>intro h<;>try exact aX)|exact aX|(exfalso;exact h rfl)|(exfalso;first|contradiction|(simp_all;done))|exact a0e rfl)
 .rw [if_neg hf];have h9:(⟨#[48]⟩:BA).size=1:=rfl;clear hc hj;refine fEx func44 ?_;repeat' ((conv=>whnf);first|refine cPx c1 ?_|(rw [w1])|(rw [w2])|refine cPx g1 ?_|refine cPx g2 ?_|refine cPx g3 ?_|refine cPx g4 ?_|(refine a0f ?_ ?_;(simp only [k1o,h1,h9];omega))|refine a0a ?_|(apply bRx<;>intro h<;>try exact aX)|exact aX|(exfalso;exact h rfl)|(exfalso;first|contradiction|(simp_all;done))|exact a0e rfl)
end
section
attribute [local irreducible] sortI
abbrev rlA (ro:Bool) (s:Lg):Option HB:=some (.one ro (.cols s.na [.sc (.strs s.acc)]))
attribute [local irreducible] seq ByteArray.extract
section
variable (s:Lg) (hs:LgOk s) (h1:∀e∈s.ent,poM e.ps) (id:BA) (d:Int) (L:List Lp) (n:Nat) (hn:L.length=n) (h0:lgE s ⟨id,d,L,n⟩=0) (hM:poM L)
include hs h1 hn h0 hM
theorem v0u:FC prog 6 222 [.ptr 1 0 0 0,.sl 5 0 0 n] [(1,rlC true 2 3 s),(2,rlA true s),(3,rlE true 4 s),(4,d0b true s),(5,some (.one true (poB n L)))] (a0g (.i 0) [] 6):=by
 obtain ⟨⟨k1,k2,k3,k4,k5,k6,k7⟩,hni,hrg,h5⟩:=k0S hn h0;dsimp only at k1 k2 k3 k4 k5 k6 k7 hni hrg;have hna:=hs.na;have hn5:=hs.n512;have hpo:∀k,k<n->(L.map Lp.a).getD k ⟨#[]⟩∈s.acc/\f0k ((L.map Lp.n).getD k 0) ((L.map Lp.c).getD k ⟨#[]⟩)=0:=fun k hk=>by
  rw [p1U,g1m,k1O];exact e0m.1 k6 _ (by rw [List.getD,m0b oM];exact k1j _)
 have hbal:=i0O.1 k7;have hr:=c1r hrg hs.rng;refine fEx func222 ?_;repeat' ((conv=>whnf);first|refine a0a ?_|(apply bRx<;>intro h<;>try exact aX))
 all_goals (conv=>whnf)
 all_goals first
  |exact aX
  |skip
 refine a0h (fun k:Nat=>⟨[(0,.ptr 1 0 0 0),(1,.sl 5 0 0 n),(5,.i k)],[(1,rlC true 2 3 s),(2,rlA true s),(3,rlE true 4 s),(4,d0b true s),(5,some (.one true (poB n L)))],6⟩) (fun k=>k<=n) (fun k=>n-k) 0 [0,1,2,3,4,5] [] wHx (b1f _) ?_;intro k hk;by_cases hk2:k<n
 .obtain ⟨a1,a2⟩:=hpo k hk2;have c1:=j1g s.acc s.na s.na hna (m0c _) oM ((L.map Lp.a).getD k ⟨#[]⟩);rw [decide_eq_true (by rw [<-hna];exact h0z.2 a1)] at c1;have c2:=m0r ((L.map Lp.n).getD k 0) ((L.map Lp.c).getD k ⟨#[]⟩);rw [a2] at c2;repeat' ((conv=>whnf);first|refine cOx (l:= [0,2]) c1 ?_|refine cPx c2 ?_|refine a0a ?_|(apply bRx<;>intro h<;>try exact aX)|exact aX|exact ⟨k+1,xAh,[],hk2,(show n-(k+1)<n-k by omega),⟨rfl,⟨rfl,rfl,sI (a0j oM),trivial⟩,rX⟩⟩)
 repeat' ((conv=>whnf);first|refine a0a ?_|(apply bRx<;>intro h<;>try exact aX))
 all_goals (conv=>whnf)
 all_goals first
  |exact aX
  |skip
 refine a0h (fun k:Nat=>⟨[(0,.ptr 1 0 0 0),(1,.sl 5 0 0 n),(7,.i k)],[(1,rlC true 2 3 s),(2,rlA true s),(3,rlE true 4 s),(4,d0b true s),(5,some (.one true (poB n L)))],6⟩) (fun k=>k<=n) (fun k=>n-k) 0 [0,1,2,3,4,5] [] wHx (b1f _) ?_;intro j hj;by_cases hj2:j<n
 .have c1:=h1g L n hn oM hM ((L.map Lp.c).getD j ⟨#[]⟩);rw [hbal] at c1;repeat' ((conv=>whnf);first|refine cOx (l:= [0,5]) c1 ?_|refine a0a ?_|(apply bRx<;>intro h<;>try exact aX)|exact aX|exact ⟨j+1,xAh,[],hj2,(show n-(j+1)<n-j by omega),⟨rfl,⟨rfl,rfl,sI (a0j oM),trivial⟩,rX⟩⟩)
 repeat' ((conv=>whnf);first|refine a0a ?_|(apply bRx<;>intro h<;>try exact aX))
 all_goals (conv=>whnf)
 all_goals first
  |exact aX
  |skip
 refine a0h (fun k:Nat=>⟨[(0,.ptr 1 0 0 0),(1,.sl 5 0 0 n),(8,.i k)],[(1,rlC true 2 3 s),(2,rlA true s),(3,rlE true 4 s),(4,d0b true s),(5,some (.one true (poB n L)))],6⟩) (fun k=>k<=n) (fun k=>n-k) 0 [0,1,2,3,4,5] [] wHx (b1f _) ?_;intro i hi;by_cases hi2:i<n
 .obtain ⟨a1,a2⟩:=hpo i hi2;have hne:(L.map Lp.a).getD i ⟨#[]⟩≠⟨#[]⟩:=fun q=>by
   have:=(d0i (hs.lab _ a1)).1;rw [q] at this;exact absurd this dC
  have c1:=v0o s hs h1 ((L.map Lp.a).getD i ⟨#[]⟩) ((L.map Lp.c).getD i ⟨#[]⟩);have c2:=d1D L n hn oM hM ((L.map Lp.c).getD i ⟨#[]⟩) ((L.map Lp.a).getD i ⟨#[]⟩) hne;have b1:=hs.rng ((L.map Lp.a).getD i ⟨#[]⟩) ((L.map Lp.c).getD i ⟨#[]⟩);have b2:=hr ((L.map Lp.a).getD i ⟨#[]⟩) ((L.map Lp.c).getD i ⟨#[]⟩);have w1:i64.wrap (s.bal ((L.map Lp.a).getD i ⟨#[]⟩) ((L.map Lp.c).getD i ⟨#[]⟩)+lgS L ((L.map Lp.a).getD i ⟨#[]⟩) ((L.map Lp.c).getD i ⟨#[]⟩))=s.bal ((L.map Lp.a).getD i ⟨#[]⟩) ((L.map Lp.c).getD i ⟨#[]⟩)+lgS L ((L.map Lp.a).getD i ⟨#[]⟩) ((L.map Lp.c).getD i ⟨#[]⟩):=a0l oM oM;generalize s.bal ((L.map Lp.a).getD i ⟨#[]⟩) ((L.map Lp.c).getD i ⟨#[]⟩)=X at*;generalize lgS L ((L.map Lp.a).getD i ⟨#[]⟩) ((L.map Lp.c).getD i ⟨#[]⟩)=Y at*;repeat' ((conv=>whnf);first|(simp only [w1])|refine cOx (l:= [0,1,2,3,4]) c1 ?_|refine cOx (l:= [0,5]) c2 ?_|refine a0a ?_|(apply bRx<;>intro h<;>try exact aX)|exact aX|exact ⟨i+1,xAh,[],hi2,(show n-(i+1)<n-i by omega),⟨rfl,⟨rfl,rfl,sI (a0j oM),trivial⟩,rX⟩⟩)
 let l:=xAh;exact Vx
theorem h1p:FC prog 6 184 [.ptr 1 0 0 0,.agg [.str id,.i d,.sl 5 0 0 n]] [(1,rlC false 2 3 s),(2,rlA true s),(3,rlE false 4 s),(4,d0b false s),(5,some (.one false (poB n L)))]
  (a0g (.i 0) [(1,rlC false 2 6 (lgP s ⟨id,d,L,n⟩)),(6,rlE false 7 (lgP s ⟨id,d,L,n⟩)),(7,d0b false (lgP s ⟨id,d,L,n⟩))] 8):=by
 obtain ⟨⟨k1,k2,k3,k4,k5,k6,k7⟩,hni,hrg,h5⟩:=k0S hn h0;dsimp only at k1 k2 k3 k4 k5 k6 k7 hni hrg;have hne:=hs.ne;have c1:=n0f id;rw [k1] at c1;have c2:=t0a s hs id;have hin:¬inL id s.ids:=fun q=>hni (h0z.1 q)
 rw [if_neg hin,decide_eq_false hin] at c2;have c3:=v0u s hs h1 id d L n hn h0 hM;unfold rlE;rw [s0G];refine fEx func184 ?_;repeat' ((conv=>whnf);first|refine cPx c1 ?_|refine cOx (l:= [0,1,2,3,4]) c2 ?_|refine cOx (l:= xAh) c3 ?_|refine a0a ?_|(apply bRx<;>intro h<;>try exact aX))
 all_goals (conv=>whnf)
 all_goals first
  |exact aX
  |skip
 have e1:seg 0 s.ne (s.ent.map Le.id)=s.ent.map Le.id:=d0J (by rw [f1R,hne]);have e2:seg 0 s.ne (s.ent.map Le.date)=s.ent.map Le.date:=d0J (by rw [f1R,hne]);have e3:seg 0 s.ne (k0h 4 (s.ent.map Le.np))=k0h 4 (s.ent.map Le.np):=d0J (by rw [b0O,f1R,hne]);simp only [e1,e2,e3,i1z];refine b0K (l:= [0,1,2,3,4,5,11,12]) [.relab (gdR 12 s.ne [⟨4,5,enF (s.ent++ [⟨id,d,L,n⟩])⟩]) (fun _=>0) [(11,some (.one false (.cols (s.ne+1) [.sc (.strs (s.ent.map Le.id++ [id])),.sc (.ints .i64 (s.ent.map Le.date++ [d])),.own 12 (s.ent.map Le.np++ [n])]))),(12+0,some (.fam false (fun x=>x<s.ne+1) (enF (s.ent++ [⟨id,d,L,n⟩]))))] [4,5] 1] ?_ (a0b (a0b (a0r a0c)));exact ⟨i0T (by rw [f1R];exact hs.ne) (by show (s.ent.map Le.id++ [id]).length=s.ne+1;simp [hs.ne]) (by show (s.ent.map Le.date++ [d]).length=s.ne+1;simp [hs.ne]) oM rfl rfl (fun q hq=>hq) rfl dC dC dC (fun q hq=>c1I q (by rw [hs.ne];exact hq)) (by rw [<-hs.ne];exact c1J),rX⟩
end
end
section
attribute [local irreducible] sortI
theorem h1q (s:BA) (hs:s.size<=9223372036854775000):a0K prog 100 [.str s] (.int .u64 (j0Q 14695981039346656037 s s.size)):=by
 refine fEx func100 ?_;refine a0h (fun k:Nat=>⟨[(0,.str s),(3,.int .u64 (j0Q 14695981039346656037 s k)),(4,.i k)],[],1⟩) (fun k=>k<=s.size) (fun k=>s.size-k) 0 [0] [] wHx oM ?_;intro k hk;have bb:=d0p s (k:Int);repeat' (first|refine a0a ?_|(apply bRx<;>intro h))
 .refine ⟨k+1,[0],[],by omega,by omega,⟨rfl,⟨rfl,?_,sI (a0j oM),trivial⟩,trivial⟩⟩;have e1:u64.wrap (a0d s (k:Int))=a0d s (k:Int):=u0L oM oM;rw [e1];rfl
 .have e:k=s.size:=oM
  subst e;exact a0e rfl
theorem t0h (p:Int) (s:BA) (hs:s.size<=9223372036854700000):a0K prog 55 [.int .u64 p,.str s] (.int .u64 (chI p s)):=by
 have z8:=d0Z p;have c1:=h1q (j0R p++s) (by rw [k1o];omega);rw [k1o,z8,c1p] at c1;refine fEx func55 ?_;repeat' ((conv=>whnf);first|refine a0a ?_|(apply bRx<;>intro h<;>try exact aX))
 all_goals (conv=>whnf)
 refine a0h (fun k:Nat=>⟨[(0,.int .u64 p),(1,.str s),(5,.str (a0m (beL p k))),(6,.i (7-(k:Int)))],[],1⟩) (fun k=>k<=8) (fun k=>8-k) 0 [0] [] wHx oM ?_;intro k hk;have bz:(a0m (beL p k)).size=k:=by rw [b0R,b0m]
 by_cases hlt:k<8
 .have es:u64.wrap (i64.wrap (8*(7-(k:Int))))=((56-8*k:Nat):Int):=by rw [a0l oM oM,u0L oM oM];omega
  have z1:∀x:Int,(a0m (seg 0 1 [x])).size=1:=fun x=>rfl
  repeat' ((conv=>whnf);first|(refine a0f ?_ ?_;(show (a0m (beL p k)).size+(a0m (seg 0 1 [_])).size<=_;rw [z1];omega))|refine a0a ?_|(apply bRx<;>intro h<;>try exact aX))
  all_goals (conv=>whnf)
  all_goals first
   |exact aX
   |skip
  refine ⟨k+1,[0],[],by omega,by omega,⟨rfl,⟨rfl,rfl,?_,?_,trivial⟩,trivial⟩⟩
  .refine congrArg (fun z=>some (SV.str z)) ?_;show a0m (beL p k)++a0m [u8.wrap (i0b .u64 p (u64.wrap (i64.wrap (8*(7-(k:Int))))))]=_;rw [es,<-h0X];rfl
  .refine congrArg (fun z=>some (SV.i z)) ?_;rw [a0l oM oM];omega
 .have e:k=8:=oM
  subst e;repeat' ((conv=>whnf);first|refine cPx c1 ?_|(refine a0f (show (a0m (beL p 8)).size+s.size<=9223372036854775807 from by omega) ?_)|refine a0a ?_|(apply bRx<;>intro h<;>try exact aX)|exact a0e rfl|exact aX)
attribute [local irreducible] seq ByteArray.extract
def a1f (E:List Le):Int:=E.foldl (fun h e=>chI h (leT e e.np)) 0
theorem x0N (E:List Le) (e:Le):a1f (E++ [e])=chI (a1f E) (leT e e.np):=by unfold a1f;simp
section
variable (s:Lg) (hs:LgOk s)
include hs
theorem d1P (i:Nat) (hi:i<s.ne):FC prog 2 101 [.agg [.str (s.ent.getD i le0).id,.i (s.ent.getD i le0).date,.sl 1 i 0 (s.ent.getD i le0).np]] [(1,d0b true s)] (a0g (.str (leT (s.ent.getD i le0) (s.ent.getD i le0).np)) [] 2):=by
 have hne:=hs.ne;have hmem:s.ent.getD i le0∈s.ent:=by simp_all
 have e1:=hs.ent _ hmem;have hsz:l1d (s.ent.getD i le0).ps:=fun x hx=>by
  obtain ⟨h1,h2⟩:=e0m.1 e1.ps x hx;exact ⟨(d0i (hs.lab _ h1)).2,(i0U (g0k h2).1)⟩
 have c:=h1i (s.ent.getD i le0).id (s.ent.getD i le0).date (s.ent.getD i le0).ps (s.ent.getD i le0).np e1.n e1.n16 (d0i e1.id).2 e1.d hsz (w0P e1.ps);have c0:=k0s [(1,⟨i,fun x=>x<s.ne,enF s.ent⟩)] (by exact ⟨⟨by simp,by simp,_,_,rfl,hi,rfl,.inl rfl⟩,trivial⟩) (by trivial) (by trivial) a0c c;have e:SV.mems (fmu [(1,⟨i,fun x=>x<s.ne,enF s.ent⟩)]) [.agg [.str (s.ent.getD i le0).id,.i (s.ent.getD i le0).date,.sl 1 0 0 (s.ent.getD i le0).np]]= [.agg [.str (s.ent.getD i le0).id,.i (s.ent.getD i le0).date,.sl 1 i 0 (s.ent.getD i le0).np]]:=by
  show [SV.agg [_,_,.sl 1 (0+i) 0 _]]=_;rw [i1z];rfl
 rw [e] at c0;exact c0
theorem z0H (hd:s.dig=a1f s.ent):FC prog 5 56 [.ptr 1 0 0 0] [(1,rlC true 2 3 s),(3,rlE true 4 s),(4,d0b true s)] (a0g (.int .u64 s.dig) [] 5):=by
 have hne:=hs.ne;have h512:=hs.e512;rw [hd];refine fEx func56 ?_;repeat' ((conv=>whnf);first|refine a0a ?_|(apply bRx<;>intro h<;>try exact aX))
 all_goals (conv=>whnf)
 refine a0h (fun k:Nat=>⟨[(0,.ptr 1 0 0 0),(3,.int .u64 (a1f (s.ent.take k))),(4,.i k)],[(1,rlC true 2 3 s),(3,rlE true 4 s),(4,d0b true s)],5⟩) (fun k=>k<=s.ne) (fun k=>s.ne-k) 0 [0,1,2,3,4] [] wHx (b1f _) ?_;intro k hk;by_cases hk2:k<s.ne
 .have c1:=d1P s hs k hk2;have hmem:s.ent.getD k le0∈s.ent:=by rw [List.getD,m0b oM];exact k1j _
  have e1:=hs.ent _ hmem;have hsz:l1d (s.ent.getD k le0).ps:=fun x hx=>by
   obtain ⟨h1,h2⟩:=e0m.1 e1.ps x hx;exact ⟨(d0i (hs.lab _ h1)).2,(i0U (g0k h2).1)⟩
  have hT:=(i0S (e:=s.ent.getD k le0) (d0i e1.id).2 e1.d hsz (w0P e1.ps) (s.ent.getD k le0).np).1;have h16:=e1.n16;have c2:=t0h (a1f (s.ent.take k)) (leT (s.ent.getD k le0) (s.ent.getD k le0).np) oM;have hA:chI (a1f (s.ent.take k)) (leT (s.ent.getD k le0) (s.ent.getD k le0).np)=a1f (s.ent.take (k+1)):=by
   rw [s1c,m0b (show k<s.ent.length by omega),List.getD,m0b (show k<s.ent.length by omega)];exact (x0N _ _).symm
  rw [hA] at c2;generalize leT (s.ent.getD k le0) (s.ent.getD k le0).np=T at*;have q1:=n1R s.ent k;have q2:=k1R s.ent k;have q3:=k1T s.ent k;rw [<-q1,<-q2,<-q3] at c1;repeat' ((conv=>whnf);first|refine cOx (l:= [0,4]) c1 ?_|refine cPx c2 ?_|refine a0a ?_|(apply bRx<;>intro h<;>try exact aX)|exact aX|exact ⟨k+1,[0,1,2,3,4],[],hk2,(show s.ne-(k+1)<s.ne-k by omega),⟨rfl,⟨rfl,rfl,sI (a0j oM),trivial⟩,rX⟩⟩)
 .have e:k=s.ne:=oM
  have eL:s.ent.take k=s.ent:=by rw [e,<-hne,n1v]
  rw [eL];let l:=[0,1,2,3,4];exact Vx
end
end
section
attribute [local irreducible] sortI
theorem e0V (d:Int):a0K prog 117 [.i d] (.bool (isD d)):=by
 unfold isD;by_cases h1:0<=d<;>by_cases h2:d<=99999;all_goals refine fEx func117 ?_
 all_goals repeat' (first|(apply bRx<;>intro h)|exact a0e (congrArg SV.bool (by simp_all)))
theorem v0v (d:Int):a0K prog 223 [.i d] (.i (wkI d)):=by
 have c:=e0V d;unfold wkI;cases h:isD d with
 |true=>
  have hd:=g0e.1 h;rw [h] at c;refine fEx func223 ?_;repeat' ((conv=>whnf);first|refine cPx c ?_|refine a0a ?_|exact a0e (congrArg (SV.int .i64) (by grind [a0l])))
 |false=>
  rw [h] at c;have c0:=c;exact Wx func223
theorem d1Q (t:Int):a0K prog 183 [.i t] (.tup [.i (h0R t),.i (b1B t)]):=by
 have c:=e0V (t/86400);unfold h0R b1B;by_cases h1:0<=t
 .by_cases h2:t<=1099511627776
  .have e1:i64.wrap (t.tdiv 86400)=t/86400:=by rw [w0B h1,a0l oM oM]
   have e2:t.tmod 86400=t%86400:=k0P h1;cases h3:isD (t/86400) with
   |true=>
    have hk:okT t=true:=f0l.2 ⟨h1,h2,h3⟩;rw [h3] at c;rw [if_pos hk,if_pos hk];refine fEx func183 ?_;repeat' ((conv=>whnf);first|(simp only [e1])|refine cPx c ?_|refine a0a ?_|(apply bRx<;>intro h<;>try exact aX))
    all_goals (conv=>whnf)
    all_goals (try simp only [e2])
    all_goals first
     |exact a0e rfl
     |exact aX
   |false=>
    have hk:¬okT t=true:=fun q=>by have:=(f0l.1 q).2.2;rw [h3] at this;cases this
    rw [h3] at c;rw [if_neg hk,if_neg hk];have c0:=c;have q0:=e1;exact Wx func183
  .have hk:¬okT t=true:=fun q=>h2 (f0l.1 q).2.1
   rw [if_neg hk,if_neg hk];exact Wx func183
 .have hk:¬okT t=true:=fun q=>h1 (f0l.1 q).1
  rw [if_neg hk,if_neg hk];exact Wx func183
abbrev rcC (ro:Bool) (h n:Nat):Option HB:=some (.one ro (.cells [.sl h 0 0 n]))
abbrev inB (n:Nat) (l:List Int):Option HB:=some (.one true (.cols n [.sc (.ints .i64 l)]))
def r3O (l:List Int) (n:Nat):SV->a0k->Nat->Prop:=if s0s l n=0 then a0g (.tup [.ptr 2 0 0 0,.i 0]) [(2,rcC false 1 n)] 3 else a0g (.tup [.nptr,.i (s0s l n)]) [] 2
theorem d1R (l:List Int) (n:Nat) (hn:n<=maxLen):FC prog 2 74 [.sl 1 0 0 n] [(1,inB n l)] (r3O l n):=by
 have eM:maxLen=9223372036854775807:=rfl;unfold r3O s0s;by_cases h4:400<n
 .rw [if_pos h4,if_neg dC];let l:=[0,1];exact Wx func74
 rw [if_neg h4];refine fEx func74 ?_;repeat' ((conv=>whnf);first|refine a0a ?_|(apply bRx<;>intro h<;>try exact aX))
 all_goals (conv=>whnf)
 all_goals first
  |exact aX
  |skip
 refine b0g (fun k:Nat=>⟨[(0,.sl 1 0 0 n),(4,.i k)],[(1,inB n l)],2⟩) (fun k=>k<=n/\e1T l k=true) (fun k=>n-k) 0 [0,1] [] wHx ⟨b1f _,rfl⟩ ?_;rintro k ⟨hk,hh⟩;by_cases hk2:k<n
 .have c:=e0V (l.getD k 0);cases hb:isD (l.getD k 0) with
  |false=>
   rw [hb] at c;rw [if_neg (by rw [if_neg (by rw [g0g hb n hk2];simp)];decide),if_neg (by rw [g0g hb n hk2];simp)];have c0:=c;let l:=[0,1];exact Vx
  |true=>
   rw [hb] at c;have hh2:e1T l (k+1)=true:=by simp only [e1T,hh,hb,t1t]
   repeat' ((conv=>whnf);first|refine cPx c ?_|refine a0a ?_|(apply bRx<;>intro h<;>try exact aX)|exact ⟨k+1,[0,1],[],⟨hk2,hh2⟩,(show n-(k+1)<n-k by omega),⟨rfl,⟨rfl,sI (a0j oM),trivial⟩,rX⟩⟩|exact aX)
 .have e:k=n:=oM
  subst e;rw [if_pos (by rw [if_pos hh])];let l:=[0,1,2];exact Vx
theorem h1r {l:List Int} {x:Int}:∀{k:Nat},k<=l.length->(¬∃i,i<k/\l.getD i 0=x)->¬x∈l.take k
 |k,hk,h,hx=>by
  obtain ⟨i,hi,e⟩:=s1B hx;rw [p1O] at hi;exact h ⟨i,by omega,by grind⟩
theorem g0x (l:List Int) (n:Nat) (hl:l.length=n) (hn:n<=100000) (d:Int):FC prog 3 185 [.ptr 1 0 0 0,.i d] [(1,rcC true 2 n),(2,inB n l)] (a0g (.bool (k0Q l d)) [] 3):=by
 have c1:=e0V d;have c2:=v0v d;unfold k0Q;cases h:isD d with
 |false=>
  rw [h] at c1;rw [t1L];let l:=[0,1,2];exact Wx func185
 |true=>
  have hd:=g0e.1 h;unfold wkI at c2;rw [if_pos h] at c2;rw [h] at c1;rw [s1S];by_cases q:(d+3)%7<5
  .rw [decide_eq_true q,s1S];refine fEx func185 ?_;repeat' ((conv=>whnf);first|refine cPx c1 ?_|refine cPx c2 ?_|refine a0a ?_|(apply bRx<;>intro h<;>try exact aX))
   all_goals (conv=>whnf)
   all_goals first
    |exact aX
    |skip
   refine b0g (fun k:Nat=>⟨[(0,.ptr 1 0 0 0),(1,.i d),(5,.i k)],[(1,rcC true 2 n),(2,inB n l)],3⟩) (fun k=>k<=n/\∀i,i<k->l.getD i 0≠d) (fun k=>n-k) 0 [0,1,2] [] wHx ⟨b1f _,fun i hi=>by omega⟩ ?_;rintro k ⟨hk,hi⟩;by_cases hk2:k<n
   .by_cases e:l.getD k 0=d
    .have hm:d∈l:=by
      rw [<-e,List.getD,m0b oM];exact k1j _
     rw [decide_eq_true hm];repeat' ((conv=>whnf);first|refine a0a ?_|(apply bRx<;>intro h<;>try exact aX)|exact rOx [0,1,2] a0c|(exfalso;first|omega|contradiction))
    .have hi2:∀i,i<k+1->l.getD i 0≠d:=fun i hx=>by
      by_cases w:i=k
      .rw [w];exact e
      .exact hi i oM
     repeat' ((conv=>whnf);first|refine a0a ?_|(apply bRx<;>intro h<;>try exact aX)|exact ⟨k+1,[0,1,2],[],⟨hk2,hi2⟩,(show n-(k+1)<n-k by omega),⟨rfl,⟨rfl,rfl,sI (a0j oM),trivial⟩,rX⟩⟩|(exfalso;first|omega|contradiction))
   .have hm:¬d∈l:=by
     have:=h1r (l:=l) (x:=d) (k:=k) oM (fun ⟨i,h1,h2⟩=>hi i h1 h2)
     rwa [s1A oM] at this
    rw [decide_eq_false hm];let l:=[0,1,2];exact Vx
  .rw [decide_eq_false q,t1L];let l:=[0,1,2];exact Wx func185
theorem o1F (l:List Int) (cut t:Int):ofI (ddS l) cut t=ofI l cut t:=by
 unfold ofI;rw [i1J,u0y]
end
section
def plt (x y:Px):Bool:=b0V x.c y.c||(seq x.c y.c&&b0V x.p y.p)
theorem h1s {a b:BA}:seq a b=true↔a=b:=by simp [seq]
theorem f0w {x y:Px}:plt x y=true↔b0V x.c y.c=true\/(x.c=y.c/\b0V x.p y.p=true):=by
 unfold plt;rw [s1G,n0M,h1s]
theorem p0h (x:Px):plt x x=false:=by
 cases h:plt x x with
 |false=>rfl
 |true=>
  rcases f0w.1 h with h|⟨_,h⟩
  all_goals simp_all [b0N]
theorem g0y {x y z:Px} (h:plt x y=true) (k:plt y z=true):plt x z=true:=by
 grind [f0w,m0s]
theorem n0k {x y:Px} (h:plt x y=true):plt y x=false:=by
 cases k:plt y x with
 |false=>rfl
 |true=>
  grind [g0y,p0h]
def t0i (x y:Px):Prop:=x.p=y.p/\x.c=y.c
theorem j0j {x y:Px} (h:plt x y=false) (hne:¬t0i x y):plt y x=true:=by
 rw [f0w];by_cases hc:x.c=y.c
 .by_cases hp:x.p=y.p
  .exact absurd ⟨hp,hc⟩ hne
  .right;refine ⟨hc.symm,?_⟩;cases k:b0V x.p y.p with
   |true=>rw [f0w.2 (.inr ⟨hc,k⟩)] at h;grind
   |false=>exact m0t k hp
 .left;cases k:b0V x.c y.c with
  |true=>rw [f0w.2 (.inl k)] at h;grind
  |false=>exact m0t k hc
theorem z0I {l m:List Px} (hp:l.Perm m) (hl:l.Pairwise (fun a b=>plt a b=true)) (hm:m.Pairwise (fun a b=>plt a b=true)):l=m:=
 u1T (le:=fun a b=>plt a b=true) (fun a b _ _ h1 h2=>by simp_all [n0k]) hl hm hp
def q0U (l:List Px):Prop:=l.Pairwise (fun a b=>¬t0i a b)
theorem h0n {a b:Px} (h:t0i a b):t0i b a:=⟨h.1.symm,h.2.symm⟩
theorem t0j {l m:List Px} (h:l.Perm m) (hl:q0U l):q0U m:=List.Perm.pairwise h hl (fun {a b} h k=>h (h0n k))
theorem h1t {l:List Px} (h:l.Pairwise (fun a b=>plt a b=true)):q0U l:=by
 refine h.imp fun {a b} hab e=> ?_
 rcases f0w.1 hab with k|⟨_,k⟩
 .rw [e.2,b0N] at k;grind
 .rw [e.1,b0N] at k;grind
def srt (l:List Px):List Px:=l.mergeSort (fun x y=> !plt y x)
theorem q0V (l:List Px):(srt l).Perm l:=u1m l _
theorem z0J {x y z:Px} (h:plt y x=false) (k:plt z y=false):plt z x=false:=by
 cases e:plt z x with
 |false=>rfl
 |true=>
  grind [t0i,f0w,g0y,j0j]
theorem l1N {l:List Px} (hd:q0U l):(srt l).Pairwise (fun a b=>plt a b=true):=by
 have h1:=u1X (le:=fun x y:Px=> !plt y x) (fun a b c h k=>by
  simp only [n1s] at*;exact z0J h k) (fun a b=>by
  cases h:plt b a with
  |false=>rfl
  |true=>simp [n0k h]) l
 have h2:q0U (srt l):=t0j (q0V l).symm hd;refine (h1.and h2).imp ?_;grind [j0j]
theorem j1p {l m:List Px} (hp:m.Perm l) (hm:m.Pairwise (fun a b=>plt a b=true)):srt l=m:=
 z0I ((q0V l).trans hp.symm) (l1N (t0j hp (h1t hm))) hm
theorem atP (L:List Px) (j:Nat):(b0C L).p.getD j ⟨#[]⟩=(L.getD j px0).p/\(b0C L).a.getD j 0=(L.getD j px0).a/\(b0C L).c.getD j ⟨#[]⟩=(L.getD j px0).c:=by
 unfold b0C;simp only [List.getD,f1Q];cases L[j]?<;>exact rX
theorem j0k {L:List Px} {k:Nat} (hk:k<L.length):L.take (k+1)=L.take k++ [L.getD k px0]:=by
 simp_all
def nz (R:List Px):List Px:=R.filter (fun x=>decide (x.a≠0))
abbrev Asc (l:List Px):Prop:=l.Pairwise (fun a b=>plt a b=true)
theorem t0k (A B:List Px):nz (A++B)=nz A++nz B:=t1v _ _
theorem l1O {O:List Px} {x:Px} {k:Nat} (hk:k<=O.length) (ha:Asc O) (hlt:∀j,j<k->plt (O.getD j px0) x=true) (hge:k<O.length->plt (O.getD k px0) x=false) (hx:∀y∈O,¬t0i y x):Asc (O.take k++x::O.drop k):=by
 have h1:∀y∈O.take k,plt y x=true:=by
  intro y hy;obtain ⟨j,hj,rfl⟩:=s1B hy;grind
 have hd:Asc (O.drop k):=ha.sublist (List.drop_sublist k O);have h2:∀y∈O.drop k,plt x y=true:=by
  intro y hy;have hkl:k<O.length:=by
   grind
  have hxk:plt x (O.getD k px0)=true:=by
   simp_all [j0j]
  rw [t1F hkl] at hy hd;rcases f1I.1 hy with rfl|hy
  .simp_all
  .rw [List.getD,m0b hkl] at hxk;exact g0y hxk ((s1o.1 hd).1 y hy)
 refine t1l.2 ⟨ha.sublist (List.take_sublist k O),s1o.2 ⟨h2,hd⟩,?_⟩;all_goals grind [g0y]
theorem h1u {α:Type} (O:List α) (x:α) (k:Nat):(O.take k++x::O.drop k).Perm (O++ [x]):=by
 have h1:(O.take k++x::O.drop k).Perm (x::(O.take k++O.drop k)):=List.perm_middle;rw [t1g] at h1;exact h1.trans (List.perm_append_comm (l₁:= [x]))
theorem x0O {R:List Px} (hd:q0U R) {i:Nat} (hi:i<R.length):∀y∈R.take i,¬t0i y (R.getD i px0):=by
 intro y hy;obtain ⟨j,hj,rfl⟩:=s1B hy;rw [p1O] at hj;rw [t1z,List.getD,m0b hi];exact t1E.1 hd j i oM hi oM
theorem l1P (L:List Px) (k:Nat):(⟨(b0C L).p.getD k ⟨#[]⟩,(b0C L).a.getD k 0,(b0C L).c.getD k ⟨#[]⟩⟩:Px)=L.getD k px0:=by
 obtain ⟨a1,a2,a3⟩:=atP L k;simp_all
structure SoI (R:List Px) (i m:Nat) (O:List Px):Prop where
 le:i<=R.length
 m:O.length=m
 asc:Asc O
 perm:O.Perm (nz (R.take i))
theorem h1v {R:List Px} {i m:Nat} {O:List Px} (h:SoI R i m O) (hi:i<R.length) (hz:(R.getD i px0).a=0):SoI R (i+1) m O:=by
 refine ⟨hi,h.m,h.asc,?_⟩;rw [j0k hi,t0k,show nz [R.getD i px0]= [] from by unfold nz;simp_all,s1s];exact h.perm
theorem l1Q {R:List Px} {i m k:Nat} {O:List Px} (h:SoI R i m O) (hd:q0U R) (hi:i<R.length) (hz:(R.getD i px0).a≠0) (hk:k<=m) (hlt:∀j,j<k->plt (O.getD j px0) (R.getD i px0)=true) (hge:k<m->plt (O.getD k px0) (R.getD i px0)=false):SoI R (i+1) (m+1) (O.take k++R.getD i px0::O.drop k):=by
 have hm:=h.m;refine ⟨hi,by grind,l1O oM h.asc hlt (fun q=>hge oM) ?_,?_⟩
 .intro y hy;exact x0O hd hi y (t1W.1 (h.perm.subset hy)).1
 .rw [j0k hi,t0k,show nz [R.getD i px0]= [R.getD i px0] from by unfold nz;simp_all];exact (h1u O _ k).trans (h.perm.append_right _)
theorem x0P {α:Type} (l:List α) (k:Nat):seg 0 k l=l.take k:=rfl
theorem l0a {α:Type} {l:List α} {k m:Nat} (h:l.length=m):seg (k+0) (m-k) l=l.drop k:=by
 simp_all [seg,s1A]
def idC (c:Int):Prop:=(97<=c/\c<=122)\/(65<=c/\c<=90)\/(48<=c/\c<=57)\/c=95\/c=45
instance (c:Int):Decidable (idC c):=by unfold idC;infer_instance
def idB (s:BA):Bool:=decide (∀k,k<s.size->idC (a0d s (k:Int)))&&decide (1<=s.size)&&decide (s.size<=16)
theorem o1G {s:BA} {k:Nat} (h:k<s.size) (hc:¬idC (a0d s (k:Int))):idB s=false:=by
 unfold idB;grind
theorem d1S {s:BA} (h:∀k,k<s.size->idC (a0d s (k:Int))):idB s=(decide (1<=s.size)&&decide (s.size<=16)):=by
 unfold idB;simp_all
theorem o1H {s:BA} (h:idB s=true):(∀k,k<s.size->idC (a0d s (k:Int)))/\1<=s.size/\s.size<=16:=by
 simp_all [idB]
theorem l1R {s:BA} {k:Nat} (h:∀i,i<k->idC (a0d s (i:Int))) (hk:idC (a0d s (k:Int))):∀i,i<k+1->idC (a0d s (i:Int)):=by
 grind
theorem z0K (s:BA) (hs:s.size<=9223372036854775807):a0K prog 213 [.str s] (.bool (idB s)):=by
 refine fEx func213 ?_
 (conv=>whnf)
 refine b0g (fun k:Nat=>⟨[(0,.str s),(3,.i k)],[],1⟩) (fun k=>k<=s.size/\∀i,i<k->idC (a0d s (i:Int))) (fun k=>s.size-k) 0 [0] [] wHx ⟨by omega,fun i hi=>by omega⟩ ?_;rintro k ⟨hk,hc⟩;by_cases hk2:k<s.size
 .by_cases hi:idC (a0d s (k:Int))
  .have hn:=l1R hc hi;unfold idC at hi;repeat' ((conv=>whnf);first|refine a0a ?_|(apply bRx<;>intro h<;>try exact aX)|exact ⟨k+1,[0],[],⟨hk2,hn⟩,(show s.size-(k+1)<s.size-k by omega),⟨rfl,⟨rfl,sI (s0u oM),trivial⟩,trivial⟩⟩|(exfalso;first|omega|(simp at*;omega)))
  .rw [o1G hk2 hi];unfold idC at hi;repeat' ((conv=>whnf);first|refine a0a ?_|(apply bRx<;>intro h<;>try exact aX)|exact a0e rfl|(exfalso;first|omega|(simp at*;omega)))
 .have e:k=s.size:=oM
  subst e;rw [d1S hc];by_cases w1:1<=s.size<;>by_cases w2:s.size<=16;all_goals simp only [w1,w2,decide_true,decide_false,t1t,t1c,s1S,t1L]
  all_goals repeat' ((conv=>whnf);first|refine a0a ?_|(apply bRx<;>intro h<;>try exact aX)|exact a0e rfl|exact a0e (congrArg SV.bool (decide_eq_true oM))|exact a0e (congrArg SV.bool (decide_eq_false oM))|exact aX)
theorem o1I {s:BA}:nmB s=true↔idB s=true/\ltP (a0d s 0)/\∀k,k<s.size->a0d s (k:Int)≠45:=by
 constructor
 .intro h;unfold nmB at h;simp only [n0M,decide_eq_true_eq] at h;have hw:=fun k (hk:k<s.size)=>u0s hk h.2
  refine ⟨?_,h.1.2,fun k hk=> ?_⟩
  .rw [d1S (fun k hk=>by grind [wdP,ltP,idC]),decide_eq_true h.1.1.1,decide_eq_true h.1.1.2];rfl
  grind [wdP,ltP]
 .rintro ⟨h1,h2,h3⟩;obtain ⟨g1,g2,g3⟩:=o1H h1;unfold nmB;have hw:o0F s s.size=true:=by
   cases e:o0F s s.size with
   |true=>rfl
   |false=>
    grind [idC,wdP,ltP,g0V]
  simp_all
theorem l1S {s:BA} (h:¬(idB s=true/\ltP (a0d s 0)/\∀k,k<s.size->a0d s (k:Int)≠45)):nmB s=false:=by
 cases e:nmB s with
 |false=>rfl
 |true=>exact absurd (o1I.1 e) h
theorem t0l (s:BA) (hs:s.size<=9223372036854775807):a0K prog 172 [.str s] (.bool (nmB s)):=by
 have c:=z0K s hs;cases hid:idB s with
 |false=>
  rw [hid] at c;rw [l1S (fun h=>by rw [hid] at h;exact absurd h.1 dC)];have c0:=c;exact Wx func172
 |true=>
 rw [hid] at c;obtain ⟨g1,g2,g3⟩:=o1H hid;by_cases hl:ltP (a0d s 0)
 case neg=>
  rw [l1S (fun h=>hl h.2.1)];unfold ltP at hl;refine fEx func172 ?_;repeat' ((conv=>whnf);first|refine cPx c ?_|refine a0a ?_|(apply bRx<;>intro h<;>try exact aX)|exact a0e rfl|(exfalso;first|omega|(simp at*;omega)))
 have hl2:=hl;unfold ltP at hl2;refine fEx func172 ?_;repeat' ((conv=>whnf);first|refine cPx c ?_|refine a0a ?_|(apply bRx<;>intro h<;>try exact aX))
 all_goals (conv=>whnf)
 all_goals first
  |(exfalso;first|omega|(simp at*;omega))
  |skip
 all_goals refine b0g (fun k:Nat=>⟨[(0,.str s),(3,.i k)],[],1⟩) (fun k=>k<=s.size/\∀i,i<k->a0d s (i:Int)≠45) (fun k=>s.size-k) 0 [0] [] wHx ⟨by omega,fun i hi=>by omega⟩ ?_
 all_goals rintro k ⟨hk,hc⟩
 all_goals by_cases hk2:k<s.size
 all_goals first
  |(by_cases h45:a0d s (k:Int)=45
    .rw [l1S (fun h=>h.2.2 k hk2 h45)];exact Vx
    .have hn:∀i,i<k+1->a0d s (i:Int)≠45:=fun i hi=>by
      by_cases e:i=k
      .subst e;exact h45
      .exact hc i oM
     repeat' ((conv=>whnf);first|refine a0a ?_|(apply bRx<;>intro h<;>try exact aX)|exact ⟨k+1,[0],[],⟨hk2,hn⟩,(show s.size-(k+1)<s.size-k by omega),⟨rfl,⟨rfl,sI (s0u oM),trivial⟩,trivial⟩⟩|exact aX))
  |(have e:k=s.size:=oM
    subst e;rw [o1I.2 ⟨hid,hl,hc⟩];repeat' ((conv=>whnf);first|refine a0a ?_|(apply bRx<;>intro h<;>try exact aX)|exact a0e rfl|exact aX))
def inK (ps:List BA) (s:BA):Nat->Bool
 |0=>false
 |k+1=>inK ps s k||seq (ps.getD k ⟨#[]⟩) s
theorem d1T {ps:List BA} {s:BA}:∀{k:Nat},inK ps s k=true↔∃j,j<k/\ps.getD j ⟨#[]⟩=s
 |0=>by simp [inK]
 |k+1=>by
  simp only [inK,s1G,d1T (k:=k),w0A];grind
theorem q0W (n:Nat) (ps:List BA) (s:BA) (m:Nat) (hm:m<=n) (hn:n<=1000000):FC prog 2 173 [.sl 1 0 0 m,.str s] [(1,some (.one true (.cols n [.sc (.strs ps)])))] (a0g (.bool (inK ps s m)) [] 2):=by
 refine fEx func173 ?_;repeat' ((conv=>whnf);first|refine a0a ?_|(apply bRx<;>intro h<;>try exact aX))
 all_goals (conv=>whnf)
 refine b0g (fun k:Nat=>⟨[(0,.sl 1 0 0 m),(1,.str s),(5,.i k)],[(1,some (.one true (.cols n [.sc (.strs ps)])))],2⟩) (fun k=>k<=m/\inK ps s k=false) (fun k=>m-k) 0 [0,1] [] wHx ⟨b1f _,rfl⟩ ?_;rintro k ⟨hk,hin⟩;by_cases hk2:k<m
 .by_cases q:ps.getD k ⟨#[]⟩=s
  .have e:inK ps s m=true:=d1T.2 ⟨k,hk2,q⟩;rw [e];repeat' ((conv=>whnf);first|refine a0a ?_|(apply bRx<;>intro h<;>try exact aX))
   all_goals (conv=>whnf)
   all_goals (try simp only [c0T] at*)
   all_goals first
    |exact rOx [0,1] a0c
    |(exfalso;first|omega|contradiction|exact absurd q.symm (by assumption))
  .have e:inK ps s (k+1)=false:=by simp only [inK];rw [hin,u1N];unfold seq;exact decide_eq_false q
   repeat' ((conv=>whnf);first|refine a0a ?_|(apply bRx<;>intro h<;>try exact aX))
   all_goals (conv=>whnf)
   all_goals (try simp only [c0T] at*)
   all_goals first
    |exact ⟨k+1,[0,1],[],⟨hk2,e⟩,(show m-(k+1)<m-k by omega),⟨rfl,⟨rfl,rfl,sI (a0j oM),trivial⟩,rX⟩⟩
    |(exfalso;first|omega|contradiction)
 .have e:k=m:=oM
  subst e;rw [hin];let l:=[0,1];exact Vx
theorem p0i (x:Int):a0K prog 256 [.i x] (.bool (m0v x)):=by
 by_cases h: -4503599627370496<=x/\x<=4503599627370496
 .rw [s0r.2 h];refine fEx func256 ?_;repeat' ((conv=>whnf);first|exact a0e rfl|(simp_all))
 .rw [i1G.2 h];refine fEx func256 ?_;repeat' (first|(apply bRx<;>intro h)|(refine a0e (congrArg SV.bool ?_);simp_all))
theorem z0L (p1:BA) (a1:Int) (c1:BA) (p2:BA) (a2:Int) (c2:BA):a0K prog 287 [.agg [.str p1,.i a1,.str c1],.agg [.str p2,.i a2,.str c2]] (.bool (plt ⟨p1,a1,c1⟩ ⟨p2,a2,c2⟩)):=by
 unfold plt;dsimp only;by_cases h1:c1=c2
 .have e:seq c1 c2=true:=w0A.2 h1;subst h1;rw [e,b0N,u1N,s1S];have hi:=b0N c1;refine fEx func287 ?_;repeat' ((conv=>whnf);first|(simp only [hi])|refine a0a ?_|(apply bRx<;>intro h<;>try exact aX)|exact a0e rfl|(exfalso;first|contradiction|(simp [hi] at*;done)))
 .have e:seq c1 c2=false:=by unfold seq;exact decide_eq_false h1
  rw [e,t1L,Bool.or_false];cases hs:b0V c1 c2 with
  |true=>
   refine fEx func287 ?_;repeat' ((conv=>whnf);first|(simp only [hs])|refine a0a ?_|(apply bRx<;>intro h<;>try exact aX)|exact a0e rfl|(exfalso;first|contradiction|(simp [hs] at*;done)))
  |false=>
   refine fEx func287 ?_;repeat' ((conv=>whnf);first|(simp only [hs])|refine a0a ?_|(apply bRx<;>intro h<;>try exact aX)|exact a0e rfl|(exfalso;first|contradiction|(simp [hs] at*;done)))
def h1w (ps:List BA) (n:Nat):SV->a0k->Nat->Prop:=if c0u ps≠0 then a0g (.tup [.nptr,.i (c0u ps)]) [] 2 else a0g (.tup [.ptr 2 0 0 0,.i 0]) [(2,some (.one false (.cells [.sl 1 0 0 n,.nsl])))] 3
theorem t0m (ps:List BA) (n:Nat) (hl:ps.length=n) (hsz:∀k,(ps.getD k ⟨#[]⟩).size<=9223372036854775807):FC prog 2 118 [.sl 1 0 0 n] [(1,some (.one true (.cols n [.sc (.strs ps)])))] (h1w ps n):=by
 unfold h1w c0u;by_cases h16:16<n
 .rw [hl,if_pos h16,if_pos dC];let l:=[0,1];exact Wx func118
 rw [hl,if_neg h16];refine fEx func118 ?_;repeat' ((conv=>whnf);first|refine a0a ?_|(apply bRx<;>intro h<;>try exact aX))
 all_goals (conv=>whnf)
 all_goals first
  |exact aX
  |skip
 refine b0g (fun k:Nat=>⟨[(0,.sl 1 0 0 n),(4,.i k)],[(1,some (.one true (.cols n [.sc (.strs ps)])))],2⟩) (fun k=>k<=n/\nwK ps k=0) (fun k=>n-k) 0 [0,1] [] wHx ⟨b1f _,rfl⟩ ?_;rintro k ⟨hk,h0⟩;by_cases hk2:k<n
 .have c1:=t0l (ps.getD k ⟨#[]⟩) (hsz k);have c2:=q0W n ps (ps.getD k ⟨#[]⟩) k oM oM;have hE:nwE ps k=if nmB (ps.getD k ⟨#[]⟩)=false then 5 else if 0<=idI (ps.take k) (ps.getD k ⟨#[]⟩) k then 7 else 0:=rfl
  have hst:=fun h=>q0s h0 h n hk2
  have hs0:nwE ps k=0->nwK ps (k+1)=0:=fun h=>by simp only [nwK];rw [if_neg oM];exact h
  have hII:inK ps (ps.getD k ⟨#[]⟩) k=decide (0<=idI (ps.take k) (ps.getD k ⟨#[]⟩) k):=by
   have htl:(ps.take k).length=k:=by rw [p1O];omega
   by_cases g:0<=idI (ps.take k) (ps.getD k ⟨#[]⟩) k
   .rw [decide_eq_true g];have hlt:a0q (ps.take k) (ps.getD k ⟨#[]⟩)<k:=by
     unfold idI at g;by_cases w:a0q (ps.take k) (ps.getD k ⟨#[]⟩)<k
     .exact w
     .rw [if_neg w] at g;omega
    have a0w:=Go.Sy.sidx_get (l:=ps.take k) (s:=ps.getD k ⟨#[]⟩) (by rw [htl];exact hlt);rw [r1T,if_pos hlt] at a0w;exact d1T.2 ⟨_,hlt,by rw [List.getD,a0w];rfl⟩
   .rw [decide_eq_false g];cases w:inK ps (ps.getD k ⟨#[]⟩) k with
    |false=>rfl
    |true=>
     exfalso;obtain ⟨j,hj,hje⟩:=d1T.1 w;apply g;have hmem:ps.getD k ⟨#[]⟩∈ps.take k:=by
      rw [<-hje];refine s1g.2 ⟨j,?_⟩;rw [r1T,if_pos hj,List.getD,m0b oM];rfl
     have:=Go.Sy.sidx_lt.2 hmem;rw [htl] at this;unfold idI;rw [if_pos this];omega
  cases hnm:nmB (ps.getD k ⟨#[]⟩) with
  |false=>
   rw [hnm] at c1;rw [hnm,if_pos rfl] at hE;rw [hst oM,hE,if_pos dC];let l:=[0,1];exact Vx
  |true=>
   rw [hnm] at c1;rw [hnm,if_neg (by simp)] at hE;by_cases hin:0<=idI (ps.take k) (ps.getD k ⟨#[]⟩) k
   .rw [if_pos hin] at hE;rw [hII,decide_eq_true hin] at c2;rw [hst oM,hE,if_pos dC];let l:=[0,1];exact Vx
   .rw [if_neg hin] at hE;rw [hII,decide_eq_false hin] at c2;repeat' ((conv=>whnf);first|refine cPx c1 ?_|refine cOx (l:= [0,1]) c2 ?_|refine a0a ?_|(apply bRx<;>intro h<;>try exact aX)|exact ⟨k+1,[0,1],[],⟨hk2,hs0 hE⟩,(show n-(k+1)<n-k by omega),⟨rfl,⟨rfl,sI (a0j oM),trivial⟩,rX⟩⟩|exact aX)
 .have e:k=n:=oM
  subst e;rw [if_neg oM];let l:=[0,1,2];exact Vx
def h1x (R:List Px) (p c:BA):Nat->Nat->Int
 |0,_=>0
 |m+1,k=>if (R.getD k px0).p=p/\(R.getD k px0).c=c then (R.getD k px0).a else h1x R p c m (k+1)
def e0a (R:List Px) (p c:BA):Int:=h1x R p c R.length 0
abbrev rbH (ro:Bool) (np:Nat) (ps:List BA) (m:Nat) (R:List Px):a0k:= [(1,some (.one ro (.cells [.sl 2 0 0 np,.sl 3 0 0 m]))),(2,some (.one true (.cols np [.sc (.strs ps)]))),(3,some (.one true (pxB m (b0C R))))]
theorem t0n (np:Nat) (ps:List BA) (R:List Px) (m:Nat) (hm:R.length=m) (hl:m<=100000) (p c:BA):FC prog 4 255 [.ptr 1 0 0 0,.str p,.str c] (rbH true np ps m R) (a0g (.i (e0a R p c)) [] 4):=by
 refine fEx func255 ?_;repeat' ((conv=>whnf);first|refine a0a ?_|(apply bRx<;>intro h<;>try exact aX))
 all_goals (conv=>whnf)
 refine b0g (fun k:Nat=>⟨[(0,.ptr 1 0 0 0),(1,.str p),(2,.str c),(7,.i k)],rbH true np ps m R,4⟩) (fun k=>k<=m/\h1x R p c (m-k) k=e0a R p c) (fun k=>m-k) 0 [0,1,2,3] [] wHx ⟨b1f _,by rw [t1n,<-hm];rfl⟩ ?_;rintro k ⟨hk,hc⟩;by_cases hk2:k<m
 .obtain ⟨b1,b2,b3⟩:=atP R k;rw [show m-k=(m-(k+1))+1 by omega,h1x] at hc;by_cases g:(R.getD k px0).p=p/\(R.getD k px0).c=c
  .rw [if_pos g] at hc;rw [<-hc];have g1:=g.1;have g2:=g.2;have bb:(SV.i ((b0C R).a.getD k 0))= .i (R.getD k px0).a:=by rw [b2]
   rw [<-b1] at g1;rw [<-b3] at g2;rw [<-b2];repeat' ((conv=>whnf);first|refine a0a ?_|(apply bRx<;>intro h<;>try exact aX))
   all_goals (conv=>whnf)
   all_goals (try simp only [c0T,u0f,q1j] at*)
   all_goals first
    |exact rOx [0,1,2,3] a0c
    |(exfalso;first|omega|contradiction|exact absurd g1.symm (by assumption)|exact absurd g2.symm (by assumption))
  .rw [if_neg g] at hc;rw [<-b1,<-b3] at g;repeat' ((conv=>whnf);first|refine a0a ?_|(apply bRx<;>intro h<;>try exact aX))
   all_goals (conv=>whnf)
   all_goals (try simp only [c0T,u0f,q1j] at*)
   all_goals first
    |exact ⟨k+1,[0,1,2,3],[],⟨hk2,hc⟩,(show m-(k+1)<m-k by omega),⟨rfl,⟨rfl,rfl,rfl,sI (a0j oM),trivial⟩,rX⟩⟩
    |(exfalso;first|omega|contradiction|exact g ⟨by assumption,by assumption⟩)
 .have e:k=m:=oM
  subst e;rw [s1N,h1x] at hc;rw [<-hc];let l:=[0,1,2,3];exact Vx
def ptX (p c:BA) (n:Int) (x:Px):Px:=if x.p=p/\x.c=c then ⟨x.p,n,x.c⟩ else x
def ptK (R:List Px) (p c:BA) (n:Int):Nat->List Px
 |0=> []
 |k+1=>ptK R p c n k++ [ptX p c n (R.getD k px0)]
def ptD (R:List Px) (p c:BA):Nat->Bool
 |0=>false
 |k+1=>ptD R p c k||decide ((R.getD k px0).p=p/\(R.getD k px0).c=c)
theorem n0l (R:List Px) (p c:BA) (n:Int):∀k,(ptK R p c n k).length=k
 |0=>rfl
 |k+1=>by simp only [ptK,s0c,n0l R p c n k];rfl
def p0j (R:List Px) (p c:BA) (n:Int):List Px:=if ptD R p c R.length=true then ptK R p c n R.length else ptK R p c n R.length++ [⟨p,n,c⟩]
theorem q0X (R:List Px) (p c:BA) (n:Int):(p0j R p c n).length<=R.length+1:=by
 unfold p0j;split
 all_goals simp_all [n0l]
theorem t0o (R:List Px) (m:Nat) (hm:R.length=m) (hl:m<=100000) (p c:BA) (n:Int) (r:Nat) (hr:(p0j R p c n).length=r):FC prog 2 257 [.sl 1 0 0 m,.str p,.str c,.i n] [(1,some (.one true (pxB m (b0C R))))] (a0g (.sl 2 0 0 r) [(2,some (.one false (pxB r (b0C (p0j R p c n)))))] 3):=by
 refine fEx func257 ?_;repeat' ((conv=>whnf);first|refine a0a ?_|(apply bRx<;>intro h<;>try exact aX))
 all_goals (conv=>whnf)
 refine b0g (fun k:Nat=>⟨[(0,.sl 1 0 0 m),(1,.str p),(2,.str c),(3,.i n),(10,.bool (ptD R p c k)),(11,.i k),(9,.sl 2 0 0 k)],[(1,some (.one true (pxB m (b0C R)))),(2,some (.one false (pxB k (b0C (ptK R p c n k)))))],3⟩) (fun k=>k<=m) (fun k=>m-k) 0 [0,1,2] [.slot 9 [.sc (.strs []),.sc (.ints .i64 []),.sc (.strs [])]] wHx (b1f _) ?_;intro k hk;by_cases hk2:k<m
 .obtain ⟨b1,b2,b3⟩:=atP R k;have hs:=m0w (ptK R p c n k) (ptX p c n (R.getD k px0));have hst:ptK R p c n (k+1)=ptK R p c n k++ [ptX p c n (R.getD k px0)]:=rfl;have hd:ptD R p c (k+1)=(ptD R p c k||decide ((R.getD k px0).p=p/\(R.getD k px0).c=c)):=rfl;rw [<-hst] at hs;unfold ptX at hs;by_cases g:(R.getD k px0).p=p/\(R.getD k px0).c=c
  .rw [decide_eq_true g,Bool.or_true] at hd;rw [if_pos g] at hs;rw [<-b1,<-b3] at g;dsimp only at hs;rw [<-b1,<-b3] at hs;have g1:=g.1;have g2:=g.2;have bb:(some (HB.one false (pxB (k+1) ⟨(b0C (ptK R p c n k)).p++ [(b0C R).p.getD k ⟨#[]⟩],(b0C (ptK R p c n k)).a++ [n],(b0C (ptK R p c n k)).c++ [(b0C R).c.getD k ⟨#[]⟩]⟩)):Option HB)=some (.one false (pxB (k+1) (b0C (ptK R p c n (k+1))))):=by rw [hs]
   have bd:some (SV.bool true)=some (SV.bool (ptD R p c (k+1))):=by rw [hd]
   repeat' ((conv=>whnf);first|refine a0a ?_|(apply bRx<;>intro h<;>try exact aX))
   all_goals (conv=>whnf)
   all_goals (try simp only [c0T,u0f,q1j] at*)
   all_goals first
    |exact ⟨k+1,[0,1,5],[],hk2,(show m-(k+1)<m-k by omega),⟨rfl,⟨rfl,rfl,rfl,rfl,bd,sI (a0j oM),rX⟩,⟨rfl,bb,trivial⟩⟩⟩
    |(exfalso;first|omega|contradiction|exact absurd g1.symm (by assumption)|exact absurd g2.symm (by assumption))
  .rw [decide_eq_false g,Bool.or_false] at hd;rw [if_neg g] at hs;rw [<-b1,<-b3] at g;rw [<-b1,<-b2,<-b3] at hs;have bb:(some (HB.one false (pxB (k+1) ⟨(b0C (ptK R p c n k)).p++ [(b0C R).p.getD k ⟨#[]⟩],(b0C (ptK R p c n k)).a++ [(b0C R).a.getD k 0],(b0C (ptK R p c n k)).c++ [(b0C R).c.getD k ⟨#[]⟩]⟩)):Option HB)=some (.one false (pxB (k+1) (b0C (ptK R p c n (k+1))))):=by rw [hs]
   have bd:some (SV.bool (ptD R p c k))=some (SV.bool (ptD R p c (k+1))):=by rw [hd]
   repeat' ((conv=>whnf);first|refine a0a ?_|(apply bRx<;>intro h<;>try exact aX))
   all_goals (conv=>whnf)
   all_goals (try simp only [c0T,u0f,q1j] at*)
   all_goals first
    |exact ⟨k+1,[0,1,5],[],hk2,(show m-(k+1)<m-k by omega),⟨rfl,⟨rfl,rfl,rfl,rfl,bd,sI (a0j oM),rX⟩,⟨rfl,bb,trivial⟩⟩⟩
    |(exfalso;first|omega|contradiction|exact g ⟨by assumption,by assumption⟩)
 .have e:k=m:=oM
  subst e;unfold p0j at hr⊢;rw [hm] at hr⊢;have hs:=m0w (ptK R p c n k) ⟨p,n,c⟩;cases hd:ptD R p c k with
  |true=>
   rw [hd,if_pos rfl,n0l] at hr;rw [if_pos rfl];subst hr;repeat' ((conv=>whnf);first|refine a0a ?_|(apply bRx<;>intro h<;>try exact aX)|exact rOx [0,1,2] (a0b a0c)|(exfalso;first|omega|contradiction))
  |false=>
   rw [hd,if_neg (by simp),s0c,n0l] at hr;rw [if_neg (by simp)];have bb:(some (HB.one false (pxB (k+1) ⟨(b0C (ptK R p c n k)).p++ [p],(b0C (ptK R p c n k)).a++ [n],(b0C (ptK R p c n k)).c++ [c]⟩)):Option HB)=some (.one false (pxB (k+1) (b0C (ptK R p c n k++ [⟨p,n,c⟩])))):=by rw [hs]
   have er:r=k+1:=hr.symm;subst er;repeat' ((conv=>whnf);first|refine a0a ?_|(apply bRx<;>intro h<;>try exact aX)|exact a0A (l:= [0,1,4]) rfl rfl ⟨bb,trivial⟩ (a0b a0c)|(exfalso;first|omega|contradiction))
def rmE (np:Nat) (ps:List BA) (R:List Px) (f t c:BA) (a:Int):Int:=
 if inK ps f np=false\/inK ps t np=false then 6
 else if f=t then 4
 else if f0k a c≠0 then f0k a c
 else if a<0 then 4
 else if m0v (e0a R f c-a)=true/\m0v (e0a R t c+a)=true then 0 else 4
def rmR (R:List Px) (f t c:BA) (a:Int):List Px:=p0j (p0j R f c (e0a R f c-a)) t c (e0a R t c+a)
def h1y (np:Nat) (ps:List BA) (m:Nat) (R:List Px) (f t c:BA) (a:Int):SV->a0k->Nat->Prop:=
 if rmE np ps R f t c a=0 then a0g (.i 0) [(1,some (.one false (.cells [.sl 2 0 0 np,.sl 4 0 0 (rmR R f t c a).length]))),(4,some (.one false (pxB (rmR R f t c a).length (b0C (rmR R f t c a)))))] 5
 else a0g (.i (rmE np ps R f t c a)) [(1,some (.one false (.cells [.sl 2 0 0 np,.sl 3 0 0 m])))] 4
theorem p0k (np:Nat) (ps:List BA) (hnp:np<=1000000) (R:List Px) (m:Nat) (hm:R.length=m) (hl:m<=10000) (f t c:BA) (a:Int) (hb:∀p c,-4503599627370496<=e0a R p c/\e0a R p c<=4503599627370496):FC prog 4 221 [.ptr 1 0 0 0,.str f,.str t,.agg [.i a,.str c]] (rbH false np ps m R) (h1y np ps m R f t c a):=by
 have c1:=q0W np ps f np (m0c _) hnp;have c2:=q0W np ps t np (m0c _) hnp;have c3:=m0r a c;unfold h1y;cases h1:inK ps f np with
 |false=>
  rw [h1] at c1;have e:rmE np ps R f t c a=6:=by unfold rmE;rw [if_pos (.inl h1)]
  rw [e,if_neg dC];let l:=[0,2];let R:=[0,1,2,3];exact Wx func221
 |true=>
 rw [h1] at c1;cases h2:inK ps t np with
 |false=>
  rw [h2] at c2;have e:rmE np ps R f t c a=6:=by unfold rmE;rw [if_pos (.inr h2)]
  rw [e,if_neg dC];let l:=[0,2];let R:=[0,1,2,3];exact Wx func221
 |true=>
 rw [h2] at c2;have e0:rmE np ps R f t c a=if f=t then 4 else if f0k a c≠0 then f0k a c else if a<0 then 4 else if m0v (e0a R f c-a)=true/\m0v (e0a R t c+a)=true then 0 else 4:=by
  unfold rmE;rw [if_neg (by rw [h1,h2];simp)]
 by_cases h3:f=t
 .rw [if_pos h3] at e0;rw [e0,if_neg dC];refine fEx func221 ?_;repeat' ((conv=>whnf);first|refine cOx (l:= [0,2]) c1 ?_|refine cOx (l:= [0,2]) c2 ?_|refine a0a ?_|(apply bRx<;>intro h<;>try exact aX)|exact rOx [0,1,2,3] (a0b a0c)|(exfalso;first|omega|contradiction))
 rw [if_neg h3] at e0;by_cases h4:f0k a c=0
 case neg=>
  rw [if_pos h4] at e0;rw [e0,if_neg h4];refine fEx func221 ?_;repeat' ((conv=>whnf);first|refine cOx (l:= [0,2]) c1 ?_|refine cOx (l:= [0,2]) c2 ?_|refine cPx c3 ?_|refine a0a ?_|(apply bRx<;>intro h<;>try exact aX)|exact rOx [0,1,2,3] (a0b a0c)|(exfalso;first|omega|contradiction))
 rw [if_neg (by simpa using h4)] at e0;rw [h4] at c3;have ham:=q0r a c;rw [h4] at ham;have hF:=hb f c;have hT:=hb t c;have n1:=t0n np ps R m hm oM f c;have n2:=t0n np ps R m hm oM t c;have g1:i64.wrap (e0a R f c-a)=e0a R f c-a:=a0l oM oM;have g2:i64.wrap (e0a R t c+a)=e0a R t c+a:=a0l oM oM;have f1:=p0i (i64.wrap (e0a R f c-a));have f2:=p0i (i64.wrap (e0a R t c+a));have q1:m0v (i64.wrap (e0a R f c-a))=m0v (e0a R f c-a):=by rw [g1]
 have q2:m0v (i64.wrap (e0a R t c+a))=m0v (e0a R t c+a):=by rw [g2]
 rw [q1] at f1;rw [q2] at f2;by_cases h6:¬a<0/\m0v (e0a R f c-a)=true/\m0v (e0a R t c+a)=true
 case neg=>
  have e:rmE np ps R f t c a=4:=by
   rw [e0];by_cases w:a<0
   .rw [if_pos w]
   .rw [if_neg w,if_neg (fun q=>h6 ⟨w,q⟩)]
  rw [e,if_neg dC];clear e0 e;refine fEx func221 ?_;repeat' ((conv=>whnf);first|refine cOx (l:= [0,2]) c1 ?_|refine cOx (l:= [0,2]) c2 ?_|refine cPx c3 ?_|refine cOx (l:= [0,1,2,3]) n1 ?_|refine cOx (l:= [0,1,2,3]) n2 ?_|refine cPx f1 ?_|refine cPx f2 ?_|refine a0a ?_|(apply bRx<;>intro h<;>try exact aX)|exact rOx [0,1,2,3] (a0b a0c)|(exfalso;first|omega|contradiction)|(exfalso;exact h6 ⟨by assumption,by assumption,by assumption⟩))
 rw [if_neg h6.1,if_pos h6.2] at e0;have h61:=h6.1;rw [h6.2.1] at f1;rw [h6.2.2] at f2;rw [e0,if_pos rfl];have p1:=t0o R m hm oM f c (e0a R f c-a) _ rfl;have hl1:=q0X R f c (e0a R f c-a);have p2:=t0o (p0j R f c (e0a R f c-a)) _ rfl oM t c (e0a R t c+a) _ rfl;have eR:rmR R f t c a=p0j (p0j R f c (e0a R f c-a)) t c (e0a R t c+a):=rfl;rw [<-eR] at p2;clear e0 eR hl1;generalize rmR R f t c a=R2 at*;generalize p0j R f c (e0a R f c-a)=R1 at*;rw [<-g1] at p1;rw [<-g2] at p2;refine fEx func221 ?_;repeat' ((conv=>whnf);first|refine cOx (l:= [0,2]) c1 ?_|refine cOx (l:= [0,2]) c2 ?_|refine cPx c3 ?_|refine cOx (l:= [0,1,2,3]) n1 ?_|refine cOx (l:= [0,1,2,3]) n2 ?_|refine cPx f1 ?_|refine cPx f2 ?_|refine cOx (l:= [0,3]) p1 ?_|refine cOx (l:= [0,5]) p2 ?_|refine a0a ?_|(apply bRx<;>intro h<;>try exact aX)|exact rOx [0,1,2,3,6] (a0b (a0b a0c))|(exfalso;first|omega|contradiction))
theorem l1T {O:List Px} {m k:Nat} (hm:O.length=m) (hk:k<=m) {p c:BA} {a:Int} {x:Px} (hx:(⟨p,a,c⟩:Px)=x):
  (some (HB.one false (.cols (k+1+(m-k)) [.sc (.strs (seg 0 k (b0C O).p++ [p]++seg (k+0) (m-k) (b0C O).p)),.sc (.ints .i64 (seg 0 k (b0C O).a++ [a]++seg (k+0) (m-k) (b0C O).a)),.sc (.strs (seg 0 k (b0C O).c++ [c]++seg (k+0) (m-k) (b0C O).c))])):Option HB)=some (.one false (pxB (k+1+(m-k)) (b0C (O.take k++x::O.drop k)))):=by
 grind [b0C,l0a,x0P,List.map_take,List.map_drop]
theorem o1J {O:List Px} (ha:Asc O) {i j:Nat} (hij:i<j) (hj:j<O.length):plt (O.getD i px0) (O.getD j px0)=true:=by
 have:=t1E.1 ha i j oM hj hij;grind
theorem o1K {R O:List Px} {i m k:Nat} (h:SoI R i m O) (hd:q0U R) (hi:i<R.length) (hk:k<=m) (hl:0<k->plt (R.getD i px0) (O.getD (k-1) px0)=false):∀j,j<k->plt (O.getD j px0) (R.getD i px0)=true:=by
 intro j hj;have hm:=h.m;have hlast:plt (O.getD (k-1) px0) (R.getD i px0)=true:=by
  refine j0j (hl oM) fun e=> ?_
  have hmem:O.getD (k-1) px0∈O:=by
   grind
  exact x0O hd hi _ (t1W.1 (h.perm.subset hmem)).1 (h0n e)
 by_cases e:j=k-1
 .simp_all
 .exact g0y (o1J h.asc (show j<k-1 by omega) oM) hlast
abbrev soS (n:Nat) (R:List Px) (x:Nat×Nat×List Px):VS:=⟨[(0,.sl 1 0 0 n),(3,.sl 2 0 0 x.2.1),(4,.i x.1)],[(1,some (.one true (pxB n (b0C R)))),(2,some (.one false (pxB x.2.1 (b0C x.2.2))))],3⟩
theorem t0p (R:List Px) (n:Nat) (hn:R.length=n) (hl:n<=100000) (hd:q0U R):FC prog 2 260 [.sl 1 0 0 n] [(1,some (.one true (pxB n (b0C R))))] (a0g (.sl 2 0 0 (nz R).length) [(2,some (.one false (pxB (nz R).length (b0C (srt (nz R))))))] 3):=by
 have hnz:∀{i:Nat},i<=n->(nz (R.take i)).length<=n:=fun {i} hi=>by
  have:=t1i (fun x:Px=>decide (x.a≠0)) (R.take i);rw [p1O] at this;unfold nz;omega
 refine fEx func260 ?_;repeat' ((conv=>whnf);first|refine a0a ?_|(apply bRx<;>intro h<;>try exact aX))
 all_goals (conv=>whnf)
 refine b0g (soS n R) (fun x=>SoI R x.1 x.2.1 x.2.2) (fun x=>n-x.1) (0,0,[]) [0,1,2] [.slot 3 [.sc (.strs []),.sc (.ints .i64 []),.sc (.strs [])]] wHx ⟨b1f _,rfl,List.Pairwise.nil,List.Perm.refl _⟩ ?_;rintro ⟨i,m,O⟩ hI;dsimp only at hI;unfold soS;dsimp only;have hi:=hI.le;have hmn:m<=n:=by rw [<-hI.m,hI.perm.length_eq];exact hnz oM
 rw [hn] at hi;by_cases hi2:i<n
 .obtain ⟨b1,b2,b3⟩:=atP R i;by_cases hz:(b0C R).a.getD i 0=0
  .have hs:=h1v hI oM (by rw [<-b2];exact hz);repeat' ((conv=>whnf);first|refine a0a ?_|(apply bRx<;>intro h<;>try exact aX)|exact ⟨(i+1,m,O),[0,1,2],[],hs,(show n-(i+1)<n-i by omega),⟨rfl,⟨rfl,rfl,sI (a0j oM),trivial⟩,rX⟩⟩|(exfalso;first|omega|contradiction))
  .repeat' ((conv=>whnf);first|refine a0a ?_|(apply bRx<;>intro h<;>try exact aX))
   all_goals (conv=>whnf)
   all_goals first
    |(exfalso;first|omega|contradiction)
    |skip
   refine b0g (fun k:Nat=>⟨[(0,.sl 1 0 0 n),(3,.sl 2 0 0 m),(4,.i i),(5,.i k)],[(1,some (.one true (pxB n (b0C R)))),(2,some (.one false (pxB m (b0C O))))],3⟩) (fun k=>k<=m/\(k<m->plt (R.getD i px0) (O.getD k px0)=true)) (fun k=>k) m [0,1,2] [] wHx ⟨m0c _,fun h=>absurd h (s1w _)⟩ ?_;rintro k ⟨hk,hge⟩;have hge2:k<m->plt (O.getD k px0) (R.getD i px0)=false:=fun h=>n0k (hge h)
   have e1:i64.wrap ((k:Int)-1)=(k:Int)-1:=a0l oM oM;have e2:((k:Int)-1).toNat=k-1:=oM
   have c1:a0K prog 287 [.agg [.str ((b0C R).p.getD i ⟨#[]⟩),.i ((b0C R).a.getD i 0),.str ((b0C R).c.getD i ⟨#[]⟩)],.agg [.str ((b0C O).p.getD (k-1) ⟨#[]⟩),.i ((b0C O).a.getD (k-1) 0),.str ((b0C O).c.getD (k-1) ⟨#[]⟩)]] (.bool (plt (R.getD i px0) (O.getD (k-1) px0))):=by
    obtain ⟨a1,a2,a3⟩:=atP O (k-1);rw [a1,a2,a3,b1,b2,b3];exact z0L _ _ _ _ _ _
   have hput:=fun (hl:0<k->plt (R.getD i px0) (O.getD (k-1) px0)=false)=>(show k+1+(m-k)=m+1 by omega)▸l1Q hI hd oM (by rw [<-b2];exact hz) hk (o1K hI hd oM hk hl) hge2
   have hrow:=l1T hI.m hk (l1P R i);by_cases hk2:0<k
   .cases hlt:plt (R.getD i px0) (O.getD (k-1) px0) with
    |true=>
     rw [hlt] at c1;have hn2:k-1<=m/\(k-1<m->plt (R.getD i px0) (O.getD (k-1) px0)=true):=⟨by omega,fun _=>hlt⟩;have e3:(k:Int)-1=((k-1:Nat):Int):=oM
     repeat' ((conv=>whnf);first|refine cPx c1 ?_|(simp only [e1,e2])|refine a0a ?_|(apply bRx<;>intro h<;>try exact aX)|exact ⟨k-1,[0,1,2],[],hn2,(show k-1<k by omega),⟨rfl,⟨rfl,rfl,rfl,sI (e1.trans e3),trivial⟩,rX⟩⟩|exact ⟨k-1,[0,1,2],[],hn2,(show k-1<k by omega),⟨rfl,⟨rfl,rfl,rfl,congrArg (fun z=>some (SV.i z)) e3,trivial⟩,rX⟩⟩|(exfalso;first|omega|contradiction))
    |false=>
     rw [hlt] at c1;have hp:=hput (fun _=>hlt);repeat' ((conv=>whnf);first|refine cPx c1 ?_|(simp only [e1,e2])|refine a0a ?_|(apply bRx<;>intro h<;>try exact aX)|(exfalso;first|omega|contradiction)|exact ⟨(i+1,k+1+(m-k),O.take k++R.getD i px0::O.drop k),[0,1,6],[],hp,(show n-(i+1)<n-i by omega),⟨rfl,⟨rfl,rfl,sI (a0j oM),trivial⟩,⟨rfl,hrow,trivial⟩⟩⟩)
   .have hp:=hput (fun h=>absurd h hk2);repeat' ((conv=>whnf);first|refine cPx c1 ?_|(simp only [e1,e2])|refine a0a ?_|(apply bRx<;>intro h<;>try exact aX)|(exfalso;first|omega|contradiction)|exact ⟨(i+1,k+1+(m-k),O.take k++R.getD i px0::O.drop k),[0,1,6],[],hp,(show n-(i+1)<n-i by omega),⟨rfl,⟨rfl,rfl,sI (a0j oM),trivial⟩,⟨rfl,hrow,trivial⟩⟩⟩)
 .have e:i=n:=oM
  subst e;have e1:srt (nz R)=O:=j1p (by have:=hI.perm;rwa [<-hn,n1v] at this) hI.asc;have e2:(nz R).length=m:=by have:=hI.perm.length_eq;rw [<-hn,n1v] at this;rw [<-this];exact hI.m
  rw [e1,e2];let l:=[0,1,2];exact Vx
theorem z0M (np:Nat) (ps:List BA) (R:List Px) (m:Nat) (hm:R.length=m) (hl:m<=100000) (hd:q0U R):FC prog 4 225 [.ptr 1 0 0 0] (rbH true np ps m R) (a0g (.sl 4 0 0 (nz R).length) [(4,some (.one false (pxB (nz R).length (b0C (srt (nz R))))))] 5):=by
 have c1:=t0p R m hm hl hd;let l:=[0,3];let R:=[0,1,2,3,4];exact Wx func225
theorem l1U {l:List BA} {s:BA} {n:Nat} (hn:l.length=n):inK l s n=true↔s∈l:=by
 rw [d1T];constructor
 .grind
 .intro h;obtain ⟨j,hj,e⟩:=s1B h;exact ⟨j,by omega,by grind⟩
theorem g0z {r:List Int} {ps:List BA} {c:BA}:∀i x,x∈liR r ps c i->x.c=c/\x.a≠0/\∃j,j<i/\x.p=ps.getD j ⟨#[]⟩/\x.a=r.getD j 0
 |0,x,h=>by trivial
 |i+1,x,h=>by
  simp only [liR] at h;by_cases z:r.getD i 0=0
  .rw [if_pos z] at h;obtain ⟨h1,h2,j,h3,h4⟩:=g0z i x h;grind
  .rw [if_neg z] at h;rcases k1q.1 h with h|h
   .obtain ⟨h1,h2,j,h3,h4⟩:=g0z i x h;grind
   grind
theorem d1U {r:List Int} {ps:List BA} {c:BA} {n:Nat} (h:∀i j,i<j->j<n->b0V (ps.getD i ⟨#[]⟩) (ps.getD j ⟨#[]⟩)=true):∀i,i<=n->(liR r ps c i).Pairwise (fun x y=>b0V x.p y.p=true)
 |0,_=>List.Pairwise.nil
 |i+1,hi=>by
  have ih:=d1U (r:=r) (c:=c) h i oM;simp only [liR];split
  .omega
  .refine t1l.2 ⟨ih,t1s _ _,fun x hx y hy=> ?_⟩;obtain ⟨_,_,j,hj,e,_⟩:=g0z i x hx;grind
end
end Go.Proofs.YtmnjebhdclmcfaaGreatDoor
