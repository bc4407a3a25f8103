/- Several texts in one: Kk5. -/
import Derived.Test.YtmnjebhdclmcfaaGreatDoorP8
set_option linter.unusedVariables false
set_option linter.unusedSimpArgs false
set_option maxRecDepth 100000
open Go.Proofs.Tryz hiding sortI
open Go.IntKind (i64 u8 u64)
attribute [local irreducible] Go.Sy.a0n Go.Sy.a0o Go.Sy.a0i Go.Sy.a0E
namespace Go.Sy
abbrev u1e:=@List.mem_append_right
abbrev u1o:=@List.filter_sublist
end Go.Sy
namespace Go.Proofs.YtmnjebhdclmcfaaGreatDoor
open Go.RowKit Go.Sy
section
theorem l1X (R:List Px) (p c:BA):∀m k,h1x R p c m k=match (seg k m R).find? (fun x=>decide (x.p=p/\x.c=c)) with|some x=>x.a|none=>0:=by
 intro m;induction m with
 |zero=>intro k;rfl
 |succ m ih=>
  intro k;by_cases hk:k<R.length
  .have e:seg k (m+1) R=R.getD k px0::seg (k+1) m R:=by
    unfold seg;rw [t1F hk,u1Q,List.getD,m0b hk];rfl
   grind [h1x]
  .have e1:seg k (m+1) R= []:=by unfold seg;simp_all
   have e2:seg (k+1) m R= []:=by unfold seg;rw [u1a oM];simp
   have e3:R.getD k px0=px0:=by simp_all
   rw [e1,h1x,ih (k+1),e2,e3];split<;>rfl
theorem e1c (R:List Px) (p c:BA):e0a R p c=match R.find? (fun x=>decide (x.p=p/\x.c=c)) with|some x=>x.a|none=>0:=by
 simp_all [e0a,seg,l1X]
theorem f0x {R:List Px} (hd:q0U R) {x:Px} (hx:x∈R):e0a R x.p x.c=x.a:=by
 rw [e1c];induction R with
 |nil=>grind
 |cons y R ih=>
  rw [List.find?_cons];by_cases g:y.p=x.p/\y.c=x.c
  .rw [decide_eq_true g];rcases f1I.1 hx with e|e
   .rw [e]
   .exact absurd g ((s1o.1 hd).1 x e)
  .rw [decide_eq_false g];rcases f1I.1 hx with e|e
   .simp_all
   .exact ih (s1o.1 hd).2 e
theorem n0o {R:List Px} {p c:BA} (h:∀x∈R,¬(x.p=p/\x.c=c)):e0a R p c=0:=by
 grind [e1c]
theorem k0b (R:List Px) (p c:BA):(∃x∈R,x.p=p/\x.c=c)\/(∀x∈R,¬(x.p=p/\x.c=c)):=by
 grind
theorem x0S (R:List Px) (p c:BA) (n:Int):∀k,k<=R.length->ptK R p c n k=(R.take k).map (ptX p c n)
 |0,_=>rfl
 |k+1,h=>by
  simp only [ptK];rw [x0S R p c n k oM,j0k h,n1q];rfl
theorem o1P (R:List Px) (p c:BA):∀k,k<=R.length->(ptD R p c k=true↔∃x∈R.take k,x.p=p/\x.c=c)
 |0,_=>by simp [ptD]
 |k+1,h=>by
  simp only [ptD];rw [s1G,o1P R p c k oM,j0k h,decide_eq_true_eq];simp
theorem e1d (R:List Px) (p c:BA) (n:Int):(p0j R p c n=R.map (ptX p c n)/\∃x∈R,x.p=p/\x.c=c)\/(p0j R p c n=R++ [⟨p,n,c⟩]/\∀x∈R,¬(x.p=p/\x.c=c)):=by
 have h1:=x0S R p c n R.length (m0c _);have h2:=o1P R p c R.length (m0c _);rw [n1v] at h1 h2;unfold p0j;cases hd:ptD R p c R.length with
 |true=>simp_all
 |false=>
  have hn:∀x∈R,¬(x.p=p/\x.c=c):=fun x hx hh=>by
   grind
  refine .inr ⟨?_,hn⟩;rw [if_neg (by simp),h1];congr 1;refine (u1n fun x hx=> ?_).trans (List.map_id R);unfold ptX;simp_all
theorem e0r (p c:BA) (n:Int) (x:Px):(ptX p c n x).p=x.p/\(ptX p c n x).c=x.c:=by unfold ptX;all_goals grind
theorem l0d {R:List Px} (hd:q0U R) (p c:BA) (n:Int):q0U (p0j R p c n):=by
 rcases e1d R p c n with ⟨e,_⟩|⟨e,hn⟩
 .simp_all [q0U,t0i,List.pairwise_map,e0r]
 .rw [e];refine t1l.2 ⟨hd,t1s _ _,fun a ha b hb=> ?_⟩;rw [b1h] at hb;subst hb;exact hn a ha
theorem e1e {R:List Px} (hd:q0U R) (p c:BA) (n:Int) (p' c':BA):e0a (p0j R p c n) p' c'=if p'=p/\c'=c then n else e0a R p' c':=by
 have hd2:=l0d hd p c n;rcases e1d R p c n with ⟨e,x,hx,hx1,hx2⟩|⟨e,hn⟩
 .rcases k0b R p' c' with ⟨y,hy,hy1,hy2⟩|h
  .have hm:ptX p c n y∈p0j R p c n:=by grind
   have h1:=f0x hd2 hm;rw [(e0r p c n y).1,(e0r p c n y).2,hy1,hy2] at h1;have h2:=f0x hd hy;rw [hy1,hy2] at h2;rw [h1,h2];unfold ptX;grind
  .rw [n0o h,n0o,if_neg]
   .grind
   .intro z hz;rw [e] at hz;obtain ⟨y,hy,rfl⟩:=r1U.1 hz;simp_all [e0r]
 .by_cases g:p'=p/\c'=c
  .have hm:(⟨p,n,c⟩:Px)∈p0j R p c n:=by simp_all
   have:=f0x hd2 hm;simp_all
  .rw [if_neg g];rcases k0b R p' c' with ⟨y,hy,hy1,hy2⟩|h
   .grind [f0x]
   .rw [n0o h,n0o];grind
structure RlB (b:Bk) (R:List Px):Prop where
 d:q0U R
 net:∀p c,e0a R p c=w0E b p c
theorem l1Y {b:Bk} {B:Int} (h:BkI b B) (hB:0<=B) (p c:BA): -B<=w0E b p c/\w0E b p c<=B:=by
 unfold w0E;split
 .exact h.rb _ _
 .omega
theorem h1B {b:Bk} {B:Int} (h:BkI b B) (hnd:b.ps.Nodup) (x:Px):x∈b.list↔x.a≠0/\w0E b x.p x.c=x.a:=by
 have hA:∀cs k,x∈liA b cs k↔∃j,j<k/\x∈liR (b.row (cs.getD j ⟨#[]⟩)) b.ps (cs.getD j ⟨#[]⟩) b.n:=by
  intro cs k;induction k with
  |zero=>simp [liA]
  |succ k ih=>
   simp only [liA];grind
 have hR:∀(r:List Int) (c:BA) (n:Nat),x∈liR r b.ps c n↔x.c=c/\x.a≠0/\∃j,j<n/\x.p=b.ps.getD j ⟨#[]⟩/\x.a=r.getD j 0:=by
  intro r c n;refine ⟨g0z n x,?_⟩;rintro ⟨h1,h2,j,hj,h3,h4⟩;induction n with
  |zero=>omega
  |succ n ih=>
   simp only [liR];by_cases e:j=n
   .subst e;rw [if_neg oM];refine u1e _ (b1h.2 ?_);rw [<-h3,<-h4,<-h1]
   grind
 have hsl:(sortS b.cs).length=b.m:=by rw [c0o,h.C.cl]
 unfold Bk.list;rw [hA];constructor
 .rintro ⟨j,hj,q⟩;obtain ⟨h1,h2,i,hi,h3,h4⟩:=(hR _ _ _).1 q;have hps:b.ps[i]? =some x.p:=by
   rw [h3,List.getD,m0b (by rw [h.psl];omega)];rfl
  have e:=Go.Sy.sidx_of_get hnd hps;grind [w0E]
 .rintro ⟨h1,h2⟩;unfold w0E at h2;by_cases hp:a0q b.ps x.p<b.n
  .rw [if_pos hp] at h2;have hc:x.c∈b.cs:=by
    grind [k1E]
   have hc2:x.c∈sortS b.cs:=(d0M b.cs).mem_iff.2 hc;obtain ⟨j,hj,e⟩:=s1B hc2;have e2:(sortS b.cs).getD j ⟨#[]⟩=x.c:=by grind
   refine ⟨j,by omega,?_⟩;rw [e2,hR];exact ⟨rfl,h1,_,hp,(d0Y b.ps (by rw [h.psl];omega)).symm,h2.symm⟩
  omega
theorem h1C {b:Bk} {B:Int} (h:BkI b B) (hps:b.ps.Pairwise (fun a b=>b0V a b=true)):Asc b.list:=by
 have hpl:∀i j,i<j->j<b.n->b0V (b.ps.getD i ⟨#[]⟩) (b.ps.getD j ⟨#[]⟩)=true:=by
  intro i j hij hj;have:=t1E.1 hps i j (by rw [h.psl];omega) (by rw [h.psl];omega) hij;grind
 have hm:∀k x,x∈liA b (sortS b.cs) k->∃j,j<k/\x.c=(sortS b.cs).getD j ⟨#[]⟩:=by
  intro k;induction k with
  |zero=>simp [liA]
  |succ k ih=>
   grind [liA,g0z]
 have:∀k,k<=b.m->Asc (liA b (sortS b.cs) k):=by
  intro k;induction k with
  |zero=>intro _;exact List.Pairwise.nil
  |succ k ih=>
   intro hk;refine t1l.2 ⟨ih oM,?_,fun x hx y hy=> ?_⟩
   .have ha:=d1U (r:=b.row ((sortS b.cs).getD k ⟨#[]⟩)) (c:=(sortS b.cs).getD k ⟨#[]⟩) hpl b.n (m0c _);refine ha.imp_of_mem fun {x y} hx hy q=>f0w.2 (.inr ⟨?_,q⟩)
    grind [g0z]
   .obtain ⟨j,hj,e⟩:=hm k x hx;refine f0w.2 (.inl ?_);rw [e,(g0z _ _ hy).1];exact f1Y h.C.nd hj (by rw [h.C.cl];omega)
 exact this b.m (m0c _)
theorem l1Z {b:Bk} {R:List Px} {B:Int} (h:BkI b B) (hps:b.ps.Pairwise (fun a b=>b0V a b=true)) (hr:RlB b R):srt (nz R)=b.list/\(nz R).length=b.list.length:=by
 have hnd:b.ps.Nodup:=hps.imp (fun {a b} h e=>by simp_all [b0N]);have ha:=h1C h hps;have nd1:b.list.Nodup:=ha.imp (fun {a b} h e=>by simp_all [p0h]);have nd2:(nz R).Nodup:=(hr.d.imp (fun {a b} h e=>h (by subst e;trivial))).sublist u1o;have hp:b.list.Perm (nz R):=(u1M nd1 nd2).2 fun x=>by
  rw [h1B h hnd];unfold nz;rw [t1W,decide_eq_true_eq];constructor
  .rintro ⟨h1,h2⟩;rw [<-hr.net] at h2;rcases k0b R x.p x.c with ⟨y,hy,hy1,hy2⟩|q
   .have:=f0x hr.d hy;have e:x=y:=by cases x;cases y;grind
    simp_all
   simp_all [n0o]
  .rintro ⟨h1,h2⟩;refine ⟨h2,?_⟩;rw [<-hr.net];exact f0x hr.d h1
 exact ⟨j1p hp ha,hp.length_eq.symm⟩
theorem e1f {ps sp:List BA} {n:Nat} (hp:sp.Perm ps) (hn:ps.length=n) (s:BA):inK ps s n=false↔idI sp s n<0:=by
 have hl:sp.length=n:=hp.length_eq.trans hn;rw [<-Bool.not_eq_true,l1U hn,<-hp.mem_iff,<-Go.Sy.sidx_lt,hl];grind [idI]
theorem e1g {b:Bk} {R:List Px} (h:BkI b 4503599627370496) {ps:List BA} (hp:b.ps.Perm ps) (hr:RlB b R) (f t c:BA) (a:Int):rmE b.n ps R f t c a=mvE b f t c a/\(mvE b f t c a=0->RlB (b.mv f t c a) (rmR R f t c a)):=by
 have hpl:ps.length=b.n:=by rw [<-hp.length_eq];exact h.psl
 have i1:=e1f hp hpl f;have i2:=e1f hp hpl t;have e0:rmE b.n ps R f t c a=mvE b f t c a:=by
  unfold rmE mvE;by_cases q:idI b.ps f b.n<0\/idI b.ps t b.n<0
  .simp_all
  .have q1:a0q b.ps f<b.n:=by
    rcases i1B (a0q b.ps f) b.n with w|w
    all_goals simp_all [absurd,decide,i0J]
   have q2:a0q b.ps t<b.n:=by
    rcases i1B (a0q b.ps t) b.n with w|w
    all_goals simp_all [absurd,decide,i0J]
   have e3:f=t↔idI b.ps f b.n=idI b.ps t b.n:=by
    constructor
    .simp_all
    .intro e;rw [k0v q1,k0v q2] at e;have g1:=d0Y (s:=f) b.ps (by rw [h.psl];omega);have g2:=d0Y (s:=t) b.ps (by rw [h.psl];omega);grind
   rw [hr.net,hr.net];simp_all [w0E]
 refine ⟨e0,fun he=> ?_⟩;have s:stE b f t c a=0:=by
  rw [i1L] at he;omega
 obtain ⟨hF,hT,hne,_⟩:=b1P s;have hrow:=n1E h (by rw [he,s]);have hmp:=g1f b f t c a;refine ⟨l0d (l0d hr.d _ _ _) _ _ _,fun p' c'=> ?_⟩;unfold rmR;rw [e1e (l0d hr.d _ _ _),e1e hr.d];have hN:w0E (b.mv f t c a) p' c'=if a0q b.ps p'<b.n then (b.row c').getD (a0q b.ps p') 0+dM b f t c a c' (a0q b.ps p') else 0:=by
  simp_all [w0E]
 have hd:dM b f t c a c' (a0q b.ps p')=if c'=c then (if a0q b.ps p'=a0q b.ps f then-a else 0)+(if a0q b.ps p'=a0q b.ps t then a else 0) else 0:=by
  simp_all [dM]
 have inj:∀x,a0q b.ps p'<b.n->a0q b.ps x<b.n->a0q b.ps p'=a0q b.ps x->p'=x:=fun x g1 g2 e=>by
  have k1:=d0Y (s:=p') b.ps (by rw [h.psl];omega);have k2:=d0Y (s:=x) b.ps (by rw [h.psl];omega);simp_all
 rw [hN,hd];by_cases q1:p'=t/\c'=c
 .obtain ⟨rfl,rfl⟩:=q1;rw [if_pos ⟨rfl,rfl⟩,if_pos hT,if_pos rfl,if_neg (fun e=>hne e.symm),if_pos rfl,hr.net];simp_all [w0E]
 .rw [if_neg q1];by_cases q2:p'=f/\c'=c
  .obtain ⟨rfl,rfl⟩:=q2;rw [if_pos ⟨rfl,rfl⟩,if_pos hF,if_pos rfl,if_pos rfl,if_neg hne,hr.net];grind [w0E]
  .rw [if_neg q2,hr.net];grind [w0E]
end
section
attribute [local irreducible] sortI
structure Rc where
 d:Int
 mv:Bool
 cl:Bool
 R:List Px
def rc0:Rc:=⟨0,false,false,[]⟩
abbrev rcD (L:List Rc):List Int:=L.map Rc.d
def e0z (d:Int):Rc:=⟨d,false,false,[]⟩
def b0U (L:List Rc) (d:Int):Rc:=if d∈rcD L then L.getD (a0S (rcD L) d) rc0 else e0z d
def rcW (L:List Rc) (d:Int):List Rc:=if d∈rcD L then L else L++ [e0z d]
def j0l (L:List Rc) (d:Int) (x:Rc):List Rc:=(rcW L d).set (a0S (rcD (rcW L d)) d) x
def rcX (L:List Rc):List Int:=(L.filter Rc.cl).map Rc.d
theorem g0C (L:List Rc):(rcD L).length=L.length:=f1R ..
theorem e0W {L:List Rc} {d:Int} (h:d∈rcD L):a0S (rcD L) d<L.length/\(L.getD (a0S (rcD L) d) rc0).d=d:=by
 have hi:=b0o.2 h;have e:=f0d hi;simp_all
theorem m1a {L:List Rc} (hn:(rcD L).Nodup) {x:Rc} (h:x∈L):b0U L x.d=x:=by
 have hm:x.d∈rcD L:=r1U.2 ⟨x,h,rfl⟩;obtain ⟨i,hi,e⟩:=t1K.1 h;have e2:(rcD L)[i]? =some x.d:=by simp_all
 have e3:=u0g hn e2;unfold b0U;simp_all
theorem n0p {L:List Rc} (hn:(rcD L).Nodup) {d:Int}:d∈rcX L↔(b0U L d).cl=true:=by
 unfold rcX;constructor
 .intro h;obtain ⟨x,hx,rfl⟩:=r1U.1 h;simp_all [m1a]
 .intro h;by_cases hd:d∈rcD L
  .obtain ⟨hi,e⟩:=e0W hd;unfold b0U at h;grind
  .unfold b0U at h;rw [if_neg hd] at h;cases h
theorem g0D (L:List Rc) (d:Int):d∈rcD (rcW L d):=by
 grind [rcW,e0z]
theorem t0r {L:List Rc} (hn:(rcD L).Nodup) (d:Int):(rcD (rcW L d)).Nodup:=by
 unfold rcW;split
 .omega
 .grind [e0z]
theorem n0q {l m:List Int} {x:Int} (h:a0S l x<l.length):a0S (l++m) x=a0S l x:=by
 induction l with
 |nil=>trivial
 |cons a l ih=>
  simp only [k1p,a0S] at h⊢;grind
theorem n0r {L:List Rc} (d x:Int):b0U (rcW L d) x=b0U L x:=by
 unfold rcW;by_cases h:d∈rcD L
 .simp_all
 .rw [if_neg h];unfold b0U;by_cases hx:x∈rcD L
  .have hi:=b0o.2 hx;simp_all [e1S,n0q]
  .by_cases e:x=d
   .have hm:x∈rcD (L++ [e0z x]):=by simp [e0z]
    obtain ⟨hi,e2⟩:=e0W hm;grind
   simp_all [e0z,if_neg]
theorem e1h {L:List Rc} {d:Int} {x:Rc} (hx:x.d=d):rcD (j0l L d x)=rcD (rcW L d):=by
 obtain ⟨hi,e⟩:=e0W (g0D L d);unfold j0l;refine s1P fun j=> ?_
 grind
theorem d0L {L:List Rc} (hn:(rcD L).Nodup) {d:Int} {x:Rc} (hx:x.d=d) (e:Int):b0U (j0l L d x) e=if e=d then x else b0U L e:=by
 have hD:=e1h (L:=L) hx;obtain ⟨hi,hg⟩:=e0W (g0D L d);by_cases h:e=d
 .subst h;unfold b0U;rw [hD,if_pos (g0D L _)];unfold j0l;simp_all
 .rw [if_neg h,<-n0r (L:=L) d e];unfold b0U;rw [hD];by_cases he:e∈rcD (rcW L d)
  .obtain ⟨hj,hg2⟩:=e0W he;unfold j0l;grind
  grind
theorem n0s {L:List Rc} (hn:(rcD L).Nodup) {d:Int} {x:Rc} (hx:x.d=d):(rcD (j0l L d x)).Nodup:=by simp_all [e1h,t0r]
theorem q0Y (L:List Rc) (d:Int):(rcW L d).length<=L.length+1:=by unfold rcW;split<;>simp
theorem t0s (L:List Rc) (d:Int) (x:Rc):(j0l L d x).length<=L.length+1:=by simp_all [j0l,q0Y]
theorem e1i (L:List Rc) (d:Int):(b0U L d).d=d:=by
 unfold b0U;by_cases h:d∈rcD L
 .rw [if_pos h];exact (e0W h).2
 .rw [if_neg h];rfl
theorem t0t {hs cd cd':List Int} (h:∀d,d∈cd↔d∈cd'):∀k x,mvF hs cd k x=mvF hs cd' k x
 |0,_=>rfl
 |k+1,x=>by
  simp only [mvF];rw [t0t h k];simp_all
theorem e1j {hs cd cd':List Int} (h:∀d,d∈cd↔d∈cd') (x:Int):mvD hs cd x=mvD hs cd' x:=by grind [mvD,t0t]
theorem h1D {ds:List Int} {D d:Int}:d∈k0G ds D↔d∈ds\/d=D:=by
 grind [k0G]
theorem e1k {ds:List Int} {B:List Bk} (hl:ds.length=B.length) (pr:List BA) (D:Int) (b:Bk) (d:Int):c0H (k0G ds D) (s0x ds B D b) pr d=if d=D then b else c0H ds B pr d:=by
 unfold k0G s0x;by_cases hD:D∈ds
 .have hi:=b0o.2 hD;unfold c0H;by_cases e:d=D
  .simp_all
  .by_cases hd:d∈ds
   .grind [f0d]
   simp_all
 .unfold c0H;by_cases e:d=D
  .have hm:d∈ds++ [d]:=by simp
   have e3:a0S (ds++ [d]) d=ds.length:=by
    have h1:=b0o.2 hm;have e2:=f0d h1;grind
   simp_all
  .by_cases hd:d∈ds
   .have hj:=b0o.2 hd;simp_all [e1S,n0q]
   simp_all
def rcO (L:List Rc):List Int:=sortI ((L.filter fun x=>x.mv&& !x.cl).map Rc.d)
theorem h1E (ks:List Int) (n:Nat) (hl:ks.length=n) (hn:n<=100000) (d:Int):FC prog 3 253 [.ptr 1 0 0 0,.i d] [(1,rcC true 2 n),(2,inB n ks)] (a0g (if isD d=true then nxV (nxI ks d) else nxV (-1)) [] 3):=by
 have c1:=e0V d;cases h:isD d with
 |false=>
  rw [h] at c1;rw [if_neg (by simp)];let l:=[0,1,2];exact Wx func253
 |true=>
  have hd:=g0e.1 h;rw [h] at c1;rw [if_pos rfl];obtain ⟨a,ea⟩:=r1S hd.1;subst ea;generalize hX:nxI ks (a:Int)=X;refine fEx func253 ?_;repeat' ((conv=>whnf);first|refine cPx c1 ?_|refine a0a ?_|(apply bRx<;>intro h<;>try exact aX))
  all_goals (conv=>whnf)
  refine b0g (fun k:Nat=>⟨[(0,.ptr 1 0 0 0),(6,.i k)],[(1,rcC true 2 n),(2,inB n ks)],3⟩) (fun k=>k<=100000/\nxI ks (k:Int)=X) (fun k=>100000-k) a [0,1,2] [] wHx ⟨by omega,hX⟩ ?_;rintro k ⟨hk,hx⟩;have c:=g0x ks n hl hn k;by_cases hk2:k<=99999
  .cases hb:k0Q ks k with
   |true=>
    rw [b1E hb oM] at hx;subst hx;rw [hb] at c;unfold nxV;rw [if_neg oM];have c0:=c;let l:=[0,1,2];exact Vx
   |false=>
    rw [i1I hb oM] at hx;rw [hb] at c;repeat' ((conv=>whnf);first|refine cOx (l:= [0,1,2]) c ?_|refine a0a ?_|(apply bRx<;>intro h<;>try exact aX)|exact ⟨k+1,[0,1,2],[],⟨by omega,hx⟩,(show 100000-(k+1)<100000-k by omega),⟨rfl,⟨rfl,sI (a0j oM),trivial⟩,rX⟩⟩|exact aX)
  .rw [q0t oM] at hx;subst hx;let l:=[0,1,2];exact Vx
abbrev rgC (ro:Bool) (h5 np m:Nat) (cut:Int):Option HB:=some (.one ro (.cells [.ptr 2 0 0 0,.i cut,.sl 4 0 0 np,.sl h5 0 0 m]))
abbrev rgR (np hn m:Nat) (cut:Int) (hs:List Int):a0k:= [(1,rgC true 5 np m cut),(2,rcC true 3 hn),(3,inB hn hs)]
abbrev rgP (ro:Bool) (h m:Nat):Option HB:=some (.one ro (.cols m [.ptrs h m]))
def g6 (L:List Rc) (hb:Nat) (x:Nat):Blk:= .cells [.i (L.getD x rc0).d,.ptr hb x 0 0,.bool (L.getD x rc0).mv,.bool (L.getD x rc0).cl]
def g7 (L:List Rc) (hl np:Nat) (x:Nat):Blk:= .cells [.sl 4 0 0 np,.sl hl x 0 (L.getD x rc0).R.length]
def g8 (L:List Rc) (x:Nat):Blk:=pxB (L.getD x rc0).R.length (b0C (L.getD x rc0).R)
theorem t0u (np hn m:Nat) (cut:Int) (hs:List Int) (hh:hs.length=hn) (hn4:hn<=100000) (d:Int) (hd:0<=d) (hd2:d<=99999):FC prog 9 220 [.ptr 1 0 0 0,.i d] (rgR np hn m cut hs) (a0g (ofV (nxI hs (d+1))) [] 9):=by
 have e:i64.wrap (d+1)=d+1:=a0l oM oM;have c:=h1E hs hn hh hn4 (d+1);have hv:(if isD (d+1)=true then nxV (nxI hs (d+1)) else nxV (-1))=nxV (nxI hs (d+1)):=by
  cases h:isD (d+1) with
  |true=>rfl
  |false=>rw [if_neg (by simp),q0t (by have:=i1H.1 h;omega)]
 rw [hv] at c;unfold nxV at c;unfold ofV;by_cases h:nxI hs (d+1)<0
 .rw [if_pos h] at c⊢;have c0:=c;let l:=[0,2,3];let R:=xAb;have q0:=e;exact Wx func220
 .rw [if_neg h] at c⊢;have c1:=c;let l:=[0,2,3];let R:=xAb;have q1:=e;exact Wx func220
theorem o1Q (np hn m:Nat) (cut:Int) (hs:List Int) (hh:hs.length=hn) (hn4:hn<=100000) (t:Int):FC prog 9 219 [.ptr 1 0 0 0,.i t] (rgR np hn m cut hs) (a0g (ofV (ofI hs cut t)) [] 9):=by
 have c1:=d1Q t;unfold ofI;by_cases h:h0R t<0
 .rw [if_pos h];generalize h0R t=d at*;let l:=xAb;exact Wx func219
 .have hd:=q0v h;rw [if_neg h];have c2:=g0x hs hn hh hn4 (h0R t);have c3:=t0u np hn m cut hs hh hn4 (h0R t) hd.2.1 hd.2.2.1;generalize h0R t=d at*;generalize b1B t=s at*;cases hb:k0Q hs d with
  |true=>
   rw [hb] at c2;by_cases hq:s<cut
   .rw [if_pos ⟨rfl,hq⟩];unfold ofV;rw [if_neg h];let l:=[0,2,3];let R:=xAb;exact Wx func219
   .rw [if_neg (fun w=>hq w.2)];unfold ofV at c3⊢;by_cases hx:nxI hs (d+1)<0
    .rw [if_pos hx] at c3⊢;let l2:=[0,2,3];let l:=xAb;exact Wx func219
    .rw [if_neg hx] at c3⊢;let l2:=[0,2,3];let l:=xAb;exact Wx func219
  |false=>
   rw [hb] at c2;rw [if_neg (fun w=>by simp at w)];unfold ofV at c3⊢;by_cases hx:nxI hs (d+1)<0
   .rw [if_pos hx] at c3⊢;let l2:=[0,2,3];let l:=xAb;exact Wx func219
   .rw [if_neg hx] at c3⊢;let l2:=[0,2,3];let l:=xAb;exact Wx func219
def rfV (L:List Rc) (h:Nat) (d:Int):SV:=if d∈rcD L then .ptr h (a0S (rcD L) d) 0 0 else .nptr
theorem p0p {l:List Int} {d:Int} {k:Nat} (hk:k<l.length) (he:l.getD k 0=d) (hn:∀i,i<k->l.getD i 0≠d):a0S l d=k:=by
 induction l generalizing k with
 |nil=>trivial
 |cons a l ih=>
  simp only [a0S];cases k with
  |zero=>
   simp_all
  |succ k=>
   have h0:a≠d:=hn 0 (Nat.succ_pos k);grind
theorem l0e (L:List Rc) (m:Nat) (hL:L.length=m) (hm:m<=100000) (np:Nat) (cut:Int) (d:Int):FC prog 9 224 [.ptr 1 0 0 0,.i d] [(1,rgC true 5 np m cut),(5,rgP true 6 m),(6,fmB true m (g6 L 7))] (a0g (rfV L 6 d) [] 9):=by
 have hg:∀k,(rcD L).getD k 0=if k<m then (L.getD k rc0).d else 0:=by
  intro k;split
  .rename_i h;rw [List.getD,f1Q,m0b oM,List.getD,m0b oM];rfl
  .rename_i h;rw [List.getD,f1Q,a1X oM];rfl
 refine fEx func224 ?_;repeat' ((conv=>whnf);first|refine a0a ?_|(apply bRx<;>intro h<;>try exact aX))
 all_goals (conv=>whnf)
 all_goals first
  |exact aX
  |skip
 refine b0g (fun k:Nat=>⟨[(0,.ptr 1 0 0 0),(1,.i d),(5,.i k)],[(1,rgC true 5 np m cut),(5,rgP true 6 m),(6,fmB true m (g6 L 7))],9⟩) (fun k=>k<=m/\∀i,i<k->(rcD L).getD i 0≠d) (fun k=>m-k) 0 [0,1,2,3,4,5,6,7,8] [] wHx ⟨b1f _,fun i hi=>absurd hi (p1R _)⟩ ?_;rintro k ⟨hk,hn⟩;by_cases hk2:k<m
 .have hk3:=hg k;rw [if_pos hk2] at hk3;by_cases e:(L.getD k rc0).d=d
  .have hm2:d∈rcD L:=by rw [<-e];exact r1U.2 ⟨_,by rw [List.getD,m0b oM];exact k1j _,rfl⟩
   have hi:a0S (rcD L) d=k:=p0p (by rw [g0C];omega) (hk3.trans e) hn;unfold rfV;rw [if_pos hm2,hi];repeat' ((conv=>whnf);first|refine a0a ?_|(apply bRx<;>intro h<;>try exact aX)|(exfalso;first|omega|contradiction)|exact rOx xAb a0c)
  .have hn2:∀i,i<k+1->(rcD L).getD i 0≠d:=fun i hi=>by
    by_cases w:i=k
    .rw [w,hk3];exact e
    .exact hn i oM
   repeat' ((conv=>whnf);first|refine a0a ?_|(apply bRx<;>intro h<;>try exact aX)|(exfalso;first|omega|contradiction)|exact ⟨k+1,xAb,[],⟨hk2,hn2⟩,(show m-(k+1)<m-k by omega),⟨rfl,⟨rfl,rfl,sI (a0j oM),trivial⟩,rX⟩⟩)
 .have hm2:¬d∈rcD L:=fun h=>by
   obtain ⟨h1,h2⟩:=e0W h;have:=hn (a0S (rcD L) d) oM;rw [hg,if_pos oM] at this;exact this h2
  unfold rfV;rw [if_neg hm2];let l:=xAb;exact Vx
theorem p0q (L:List Rc) (m:Nat) (hL:L.length=m) (hm:m<=100000) (np:Nat) (cut:Int) (d:Int):FC prog 9 186 [.ptr 1 0 0 0,.i d] [(1,rgC true 5 np m cut),(5,rgP true 6 m),(6,fmB true m (g6 L 7))] (a0g (.bool (b0U L d).cl) [] 9):=by
 have c:=l0e L m hL hm np cut d;unfold b0U;by_cases h:d∈rcD L
 .have hi:=(e0W h).1;unfold rfV at c;rw [if_pos h] at c;rw [if_pos h];have c0:=c;let l:=xAb;exact Wx func186
 .unfold rfV at c;rw [if_neg h] at c;rw [if_neg h];have c1:=c;let l:=xAb;exact Wx func186
theorem n0t {L:List Rc} {x:Rc} {q:Nat} (h:q<L.length):(L++ [x]).getD q rc0=L.getD q rc0:=by
 grind
theorem n0u {L:List Rc} {x:Rc} {m:Nat} (h:L.length=m):(L++ [x]).getD m rc0=x:=by
 simp_all
abbrev rnD (n hc hb hl np:Nat) (L:List Rc):List GD:= [⟨6,hc,g6 L (n+1)⟩,⟨7,hb,g7 L (n+2) np⟩,⟨8,hl,g8 L⟩]
theorem m1b {H:a0k} {n m np th hc hb hl:Nat} {L:List Rc} {x:Rc} (hn:9<=n) (ht:9<=th/\th<n) (hc9:9<=hc/\hc≠th) (hb9:9<=hb/\hb≠th) (hl9:9<=hl/\hl≠th) (hL:L.length=m)
  (h5:a0w H th=some (.one false (.cols (m+1) [.svs (e0A 6 m++ [.ptr hc 0 0 0])]))) (h6:a0w H 6=fmB false m (g6 L 7)) (h7:a0w H 7=fmB false m (g7 L 8 np)) (h8:a0w H 8=fmB false m (g8 L))
  (k6:a0w H hc=some (.one false (.cells [.i x.d,.ptr hb 0 0 0,.bool x.mv,.bool x.cl]))) (k7:a0w H hb=some (.one false (.cells [.sl 4 0 0 np,.sl hl 0 0 x.R.length]))) (k8:a0w H hl=some (.one false (pxB x.R.length (b0C x.R))))
  (hdist:b1n (rnD n hc hb hl np (L++ [x]))=true):
  Relab H n (gdR n m (rnD n hc hb hl np (L++ [x]))) (fun _=>0) ((th,rgP false n (m+1))::gdN n (m+1) 0 (rnD n hc hb hl np (L++ [x]))) [6,hc,7,hb,8,hl] 3:=by
 have r0:∀q,q<m->gdR n m (rnD n hc hb hl np (L++ [x])) n q=some (6,q):=fun q hq=>f0g (D:=rnD n hc hb hl np (L++ [x])) (i:=0) (d:=⟨6,hc,g6 (L++ [x]) (n+1)⟩) rfl hq
 have r1:∀q,q<m->gdR n m (rnD n hc hb hl np (L++ [x])) (n+1) q=some (7,q):=fun q hq=>f0g (D:=rnD n hc hb hl np (L++ [x])) (i:=1) (d:=⟨7,hb,g7 (L++ [x]) (n+2) np⟩) rfl hq
 have r2:∀q,q<m->gdR n m (rnD n hc hb hl np (L++ [x])) (n+2) q=some (8,q):=fun q hq=>f0g (D:=rnD n hc hb hl np (L++ [x])) (i:=2) (d:=⟨8,hl,g8 (L++ [x])⟩) rfl hq
 have s0:gdR n m (rnD n hc hb hl np (L++ [x])) n m=some (hc,0):=e0x (D:=rnD n hc hb hl np (L++ [x])) (i:=0) (d:=⟨6,hc,g6 (L++ [x]) (n+1)⟩) rfl;have s1:gdR n m (rnD n hc hb hl np (L++ [x])) (n+1) m=some (hb,0):=e0x (D:=rnD n hc hb hl np (L++ [x])) (i:=1) (d:=⟨7,hb,g7 (L++ [x]) (n+2) np⟩) rfl;have s2:gdR n m (rnD n hc hb hl np (L++ [x])) (n+2) m=some (hl,0):=e0x (D:=rnD n hc hb hl np (L++ [x])) (i:=2) (d:=⟨8,hl,g8 (L++ [x])⟩) rfl;have e6:∀q,q<m->g6 (L++ [x]) (n+1) q= .cells [.i (L.getD q rc0).d,.ptr (n+1) q 0 0,.bool (L.getD q rc0).mv,.bool (L.getD q rc0).cl]:=fun q hq=>by grind [g6]
 have e7:∀q,q<m->g7 (L++ [x]) (n+2) np q= .cells [.sl 4 0 0 np,.sl (n+2) q 0 (L.getD q rc0).R.length]:=fun q hq=>by grind [g7]
 have e8:∀q,q<m->g8 (L++ [x]) q=g8 L q:=fun q hq=>by grind [g8]
 have f6:g6 (L++ [x]) (n+1) m= .cells [.i x.d,.ptr (n+1) m 0 0,.bool x.mv,.bool x.cl]:=by unfold g6;simp_all
 have f7:g7 (L++ [x]) (n+2) np m= .cells [.sl 4 0 0 np,.sl (n+2) m 0 x.R.length]:=by unfold g7;simp_all
 have f8:g8 (L++ [x]) m=pxB x.R.length (b0C x.R):=by unfold g8;simp_all
 exact g0P (n:=n) (th:=th) (rnD n hc hb hl np (L++ [x])) oM h5 (e0j ⟨⟨fun _=>rfl,w0r oM r0 s0⟩,trivial⟩)
  ⟨⟨(show (6:Nat)≠th by omega),hc9.2,⟨_,_,h6,fun q hq=>⟨hq,by dsimp only;rw [e6 q hq];exact b0G ⟨a0O _,d0y oM (r1 q hq),a0O _,a0O _,trivial⟩⟩⟩,_,k6,by dsimp only;rw [f6];exact b0G ⟨a0O _,d0y oM s1,a0O _,a0O _,trivial⟩⟩,
    ⟨(show (7:Nat)≠th by omega),hb9.2,⟨_,_,h7,fun q hq=>⟨hq,by dsimp only;rw [e7 q hq];exact b0G ⟨a0O _,g0a oM (r2 q hq),trivial⟩⟩⟩,_,k7,by dsimp only;rw [f7];exact b0G ⟨a0O _,g0a oM s2,trivial⟩⟩,
    ⟨(show (8:Nat)≠th by omega),hl9.2,⟨_,_,h8,fun q hq=>⟨hq,.inl (e8 q hq)⟩⟩,_,k8,.inl f8⟩,trivial⟩ hdist
abbrev roD (n np:Nat) (L:List Rc):List RD:= [⟨6,g6 L (n+1)⟩,⟨7,g7 L (n+2) np⟩,⟨8,g8 L⟩]
theorem m1c {H:a0k} {n m np th:Nat} {L:List Rc} (hn:9<=n) (ht:th<n/\th≠6/\th≠7/\th≠8)
  (h5:a0w H th=rgP false 6 m) (h6:a0w H 6=fmB false m (g6 L 7)) (h7:a0w H 7=fmB false m (g7 L 8 np)) (h8:a0w H 8=fmB false m (g8 L)):
  Relab H n (rdR n m (roD n np L)) (fun _=>0) ((th,rgP false n m)::rdN n m 0 (roD n np L)) [6,7,8] 3:=by
 have r0:∀q,q<m->rdR n m (roD n np L) n q=some (6,q):=fun q hq=>k0t (D:=roD n np L) (i:=0) (d:=⟨6,g6 L (n+1)⟩) rfl hq
 have r1:∀q,q<m->rdR n m (roD n np L) (n+1) q=some (7,q):=fun q hq=>k0t (D:=roD n np L) (i:=1) (d:=⟨7,g7 L (n+2) np⟩) rfl hq
 have r2:∀q,q<m->rdR n m (roD n np L) (n+2) q=some (8,q):=fun q hq=>k0t (D:=roD n np L) (i:=2) (d:=⟨8,g8 L⟩) rfl hq
 exact s0j (n:=n) (th:=th) (roD n np L) ht.1 h5 (e0j ⟨⟨fun _=>rfl,fun i hi=>d0y oM (r0 i hi)⟩,trivial⟩)
  ⟨⟨(show (6:Nat)≠th by omega),_,_,h6,fun q hq=>⟨hq,b0G ⟨a0O _,d0y oM (r1 q hq),a0O _,a0O _,trivial⟩⟩⟩,⟨(show (7:Nat)≠th by omega),_,_,h7,fun q hq=>⟨hq,b0G ⟨a0O _,g0a oM (r2 q hq),trivial⟩⟩⟩,⟨(show (8:Nat)≠th by omega),_,_,h8,fun q hq=>⟨hq,.inl rfl⟩⟩,trivial⟩ rfl
abbrev rgH (h5 h6 h7 h8 np m:Nat) (cut:Int) (L:List Rc):a0k:= [(1,rgC false h5 np m cut),(h5,rgP false h6 m),(h6,fmB false m (g6 L h7)),(h7,fmB false m (g7 L h8 np)),(h8,fmB false m (g8 L))]
theorem n0v {h5 h6 h7 h8 np m:Nat} {cut:Int} {L:List Rc}:c0x (rgH h5 h6 h7 h8 np m cut L):=a0b (a0b (a0r (a0r (a0r a0c))))
abbrev rgI (np m:Nat) (cut:Int) (L:List Rc) (pr:List BA):a0k:=(4,cyP true np pr)::rgH 5 6 7 8 np m cut L
theorem h1F {ρ:Nat->Nat} {h h' m hc hc':Nat} (e1:ρ h=h') (e2:ρ hc=hc'):SV.rens ρ (e0A h m++ [.ptr hc 0 0 0])=e0A h' m++ [.ptr hc' 0 0 0]:=by
 simp_all [e0A,SV.ren,h0J]
theorem t0v (L:List Rc) (m:Nat) (hL:L.length=m) (hm:m<=100000) (pr:List BA) (np:Nat) (cut d:Int) (h:d∈rcD L):FC prog 9 188 [.ptr 1 0 0 0,.i d] (rgI np m cut L pr) (a0g (.ptr 6 (a0S (rcD L) d) 0 0) (rgH 12 6 7 8 np m cut L) 13):=by
 have c:=l0e L m hL hm np cut d;unfold rfV at c;rw [if_pos h] at c;have c0:=c;let l:=xAb;let R:=[0,1,2,3,4,5,6,7,8,0,0,0,5];exact Wx func188
abbrev rgN (h5 hc m:Nat):Nat×Option HB:=(h5,some (.one false (.cols (m+1) [.svs (e0A 6 m++ [.ptr hc 0 0 0])])))
theorem t0w (L:List Rc) (m:Nat) (hL:L.length=m) (hm:m<=100000) (pr:List BA) (np:Nat) (hp:pr.length=np) (he:c0u pr=0) (hsz:∀k,(pr.getD k ⟨#[]⟩).size<=9223372036854775807) (cut d:Int) (h:¬d∈rcD L):
  FC prog 9 188 [.ptr 1 0 0 0,.i d] (rgI np m cut L pr)
   (a0g (.ptr 9 0 0 0) [(1,rgC false 12 np (m+1) cut),rgN 12 9 m,(9,some (.one false (.cells [.i d,.ptr 10 0 0 0,.bool false,.bool false]))),(10,some (.one false (.cells [.sl 4 0 0 np,.sl 11 0 0 0]))),(11,some (.one false (pxB 0 (b0C [])))),(6,fmB false m (g6 L 7)),(7,fmB false m (g7 L 8 np)),(8,fmB false m (g8 L))] 13):=by
 have c:=l0e L m hL hm np cut d;unfold rfV at c;rw [if_neg h] at c;have cN:=t0m pr np hp hsz;unfold h1w at cN;rw [if_neg (by rw [he];simp)] at cN;refine fEx func188 ?_;repeat' ((conv=>whnf);first|refine cOx (l:= xAb) c ?_|refine cOx (l:= [0,4]) cN ?_|refine a0a ?_|(apply bRx<;>intro h<;>try exact aX))
 all_goals (conv=>whnf)
 refine b0K (l:= [0,1,2,3,4,5,6,7,8,10,9,13,12]) [.cell 9 1 [.sc (.strs []),.sc (.ints .i64 []),.sc (.strs [])]] ⟨rfl,rfl,?_⟩ (a0b (a0b (a0b (a0b (a0b (a0r (a0r (a0r a0c))))))));refine ⟨rfl,?_,rX⟩;exact (congrArg (fun x=>some (HB.one false (Blk.cols (m+1) [BCol.svs x]))) (h1F (h':=6) (hc':=10) rfl rfl)).symm
theorem x0T (L:List Rc) (m m':Nat) (hL:L.length=m) (hm:m<=100000) (pr:List BA) (np:Nat) (hp:pr.length=np) (he:c0u pr=0) (hsz:∀k,(pr.getD k ⟨#[]⟩).size<=9223372036854775807) (cut d:Int) (hm':(rcW L d).length=m'):
  FC prog 9 188 [.ptr 1 0 0 0,.i d] (rgI np m cut L pr) (a0g (.ptr 13 (a0S (rcD (rcW L d)) d) 0 0) (rgH 12 13 14 15 np m' cut (rcW L d)) 16):=by
 by_cases h:d∈rcD L
 .have e:rcW L d=L:=if_pos h;rw [e] at hm'⊢;rw [hL] at hm';subst hm';have hi:a0S (rcD L) d<m:=by have:=(e0W h).1;omega
  exact t0q [(1,rgC false 12 np m cut)] (t0v L m hL hm pr np cut d h) (m1c (n:=13) (np:=np) (L:=L) oM oM rfl rfl rfl rfl)
   (d0y (m0c 13) (k0t (D:=roD 13 np L) (i:=0) (d:=⟨6,g6 L 14⟩) rfl hi)) (fun h hh=>by
    simp only [a0s,b1h] at hh;subst hh;exact ⟨rfl,by simp [a0s,rdN],by simp⟩)
 .have e:rcW L d=L++ [e0z d]:=if_neg h;rw [e] at hm'⊢;rw [s0c,hL,m1T] at hm';subst hm';have hi:a0S (rcD (L++ [e0z d])) d=m:=by
   have e3:rcD (L++ [e0z d])=rcD L++ [d]:=by simp [e0z]
   refine p0p (by simp_all) ?_ (fun i hi q=>h ?_)
   .simp_all
   simp_all [e1S]
  rw [hi];exact t0q [(1,rgC false 12 np (m+1) cut)] (t0w L m hL hm pr np hp he hsz cut d h) (m1b (n:=13) (th:=12) (hc:=9) (hb:=10) (hl:=11) (np:=np) (L:=L) (x:=e0z d) oM oM oM oM oM hL rfl rfl rfl rfl rfl rfl rfl rfl)
   (d0y (m0c 13) (e0x (D:=rnD 13 9 10 11 np (L++ [e0z d])) (i:=0) (d:=⟨6,9,g6 (L++ [e0z d]) 14⟩) rfl)) (fun h hh=>by
    simp only [a0s,b1h] at hh;subst hh;exact ⟨rfl,by simp [a0s,gdN],by simp⟩)
def g7q (hp:Nat) (L:List Rc) (hl np:Nat) (x:Nat):Blk:= .cells [.sl hp 0 0 np,.sl hl x 0 (L.getD x rc0).R.length]
def o1R (x:Rc) (f t c:BA) (a:Int):Rc:= { x with mv:=true,R:=rmR x.R f t c a}
theorem v0z {L:List Rc} {m i np:Nat} (hi:i<m) (pr:List BA) (hnp:np<=1000000) (hr:(L.getD i rc0).R.length<=10000) (f t c:BA) (a:Int) (hb:∀p c,-4503599627370496<=e0a (L.getD i rc0).R p c/\e0a (L.getD i rc0).R p c<=4503599627370496) (he:rmE np pr (L.getD i rc0).R f t c a≠0):
  FC prog 4 221 [.ptr 1 i 0 0,.str f,.str t,.agg [.i a,.str c]] [(1,fmB false m (g7q 2 L 3 np)),(2,some (.one true (.cols np [.sc (.strs pr)]))),(3,fmB true m (g8 L))] (a0g (.i (rmE np pr (L.getD i rc0).R f t c a)) [(1,fmB false m (g7q 2 L 3 np))] 4):=by
 have cM:=p0k np pr hnp (L.getD i rc0).R _ rfl hr f t c a hb;unfold h1y at cM;rw [if_neg he] at cM;have c0:=k0s [(1,⟨i,fun x=>x<m,g7q 2 L 3 np⟩),(3,⟨i,fun x=>x<m,g8 L⟩)] (by
  refine ⟨⟨by simp,by simp,_,_,rfl,hi,?_,.inr ⟨rfl,_,rfl⟩⟩,⟨by simp,by simp,_,_,rfl,hi,rfl,.inl rfl⟩,trivial⟩;show Blk.cells [.sl 2 0 0 np,.sl 3 i 0 _]= .cells [.sl 2 0 0 np,.sl 3 (0+i) 0 _];simp) (by trivial) (by trivial) (a0b a0c) cM
 have e:SV.mems (fmu [(1,⟨i,fun x=>x<m,g7q 2 L 3 np⟩),(3,⟨i,fun x=>x<m,g8 L⟩)]) [.ptr 1 0 0 0,.str f,.str t,.agg [.i a,.str c]]= [.ptr 1 i 0 0,.str f,.str t,.agg [.i a,.str c]]:=by
  show [SV.ptr 1 (0+i) 0 0,.str f,.str t,.agg [.i a,.str c]]=_;simp
 rw [e] at c0;have e2:(fmB false m (g7q 2 L 3 np))=fmB false m (fun x=>if x=i then .cells [.sl 2 0 0 np,.sl 3 (0+i) 0 (L.getD i rc0).R.length] else g7q 2 L 3 np x):=by
  refine congrArg (fun f=>some (HB.fam false (fun x=>x<m) f)) (funext fun x=> ?_);split
  .rename_i h;subst h;rw [i1z];rfl
  .rfl
 have c1:FC prog 4 221 [.ptr 1 i 0 0,.str f,.str t,.agg [.i a,.str c]] [(1,fmB false m (g7q 2 L 3 np)),(2,some (.one true (.cols np [.sc (.strs pr)]))),(3,fmB true m (g8 L))] (a0g (.i (rmE np pr (L.getD i rc0).R f t c a)) [(1,fmB false m (fun x=>if x=i then .cells [.sl 2 0 0 np,.sl 3 (0+i) 0 (L.getD i rc0).R.length] else g7q 2 L 3 np x))] 4):=c0;rw [<-e2] at c1;exact c1
abbrev g7n (hp nw hl:Nat) (L:List Rc) (i np k:Nat):Nat->Blk:=fun x=>if x=i then .cells [.sl hp 0 0 np,.sl nw 0 0 k] else g7q hp L hl np x
theorem v0A {L:List Rc} {m i np:Nat} (hi:i<m) (pr:List BA) (hnp:np<=1000000) (hr:(L.getD i rc0).R.length<=10000) (f t c:BA) (a:Int) (hb:∀p c,-4503599627370496<=e0a (L.getD i rc0).R p c/\e0a (L.getD i rc0).R p c<=4503599627370496) (he:rmE np pr (L.getD i rc0).R f t c a=0):
  FC prog 4 221 [.ptr 1 i 0 0,.str f,.str t,.agg [.i a,.str c]] [(1,fmB false m (g7q 2 L 3 np)),(2,some (.one true (.cols np [.sc (.strs pr)]))),(3,fmB true m (g8 L))]
   (a0g (.i 0) [(1,fmB false m (g7n 2 4 3 L i np (rmR (L.getD i rc0).R f t c a).length)),(4,some (.one false (pxB (rmR (L.getD i rc0).R f t c a).length (b0C (rmR (L.getD i rc0).R f t c a)))))] 5):=by
 have cM:=p0k np pr hnp (L.getD i rc0).R _ rfl hr f t c a hb;unfold h1y at cM;rw [if_pos he] at cM;have c0:=k0s [(1,⟨i,fun x=>x<m,g7q 2 L 3 np⟩),(3,⟨i,fun x=>x<m,g8 L⟩)] (by
  refine ⟨⟨by simp,by simp,_,_,rfl,hi,?_,.inr ⟨rfl,_,rfl⟩⟩,⟨by simp,by simp,_,_,rfl,hi,rfl,.inl rfl⟩,trivial⟩;show Blk.cells [.sl 2 0 0 np,.sl 3 i 0 _]= .cells [.sl 2 0 0 np,.sl 3 (0+i) 0 _];simp) (by trivial) (by trivial) (a0b (a0b a0c)) cM
 have e:SV.mems (fmu [(1,⟨i,fun x=>x<m,g7q 2 L 3 np⟩),(3,⟨i,fun x=>x<m,g8 L⟩)]) [.ptr 1 0 0 0,.str f,.str t,.agg [.i a,.str c]]= [.ptr 1 i 0 0,.str f,.str t,.agg [.i a,.str c]]:=by
  show [SV.ptr 1 (0+i) 0 0,.str f,.str t,.agg [.i a,.str c]]=_;simp
 rw [e] at c0;exact c0
abbrev spD (n a b c nw i np:Nat) (L:List Rc):List SD:= [⟨fun q=>(a,q),g6 L (n+1)⟩,⟨fun q=>(b,q),g7 L (n+2) np⟩,⟨fun q=>if q=i then (nw,0) else (c,q),g8 L⟩]
theorem j0m {L:List Rc} {i:Nat} (hi:i<L.length) (y:Rc) (q:Nat):(L.set i y).getD q rc0=if q=i then y else L.getD q rc0:=by
 grind
theorem m1d {H:a0k} {n m np th a b c nw i:Nat} {L:List Rc} {y:Rc} (hL:L.length=m) (hi:i<m) (hn:th<n/\a<n/\b<n/\c<n/\nw<n/\4<n) (hd:a≠th/\b≠th/\c≠th/\nw≠th) (hd2:a≠b/\a≠c/\a≠nw/\b≠c/\b≠nw/\c≠nw) {f6 f7:Nat->Blk}
  (h5:a0w H th=rgP false a m) (h6:a0w H a=fmB false m f6) (h7:a0w H b=fmB false m f7) (h8:a0w H c=fmB false m (g8 L)) (h9:a0w H nw=some (.one false (pxB y.R.length (b0C y.R))))
  (e6:∀q,f6 q=if q=i then .cells [.i y.d,.ptr b i 0 0,.bool y.mv,.bool y.cl] else g6 L b q) (e7:∀q,f7 q=if q=i then .cells [.sl 4 0 0 np,.sl nw 0 0 y.R.length] else g7 L c np q):
  Relab H n (sdR n m (spD n a b c nw i np (L.set i y))) (fun _=>0) ((th,rgP false n m)::sdN n m 0 (spD n a b c nw i np (L.set i y))) [a,b,c,nw] 3:=by
 have r0:∀q,q<m->sdR n m (spD n a b c nw i np (L.set i y)) n q=some (a,q):=fun q hq=>x0R (D:=spD n a b c nw i np (L.set i y)) (i:=0) (d:=⟨fun q=>(a,q),g6 (L.set i y) (n+1)⟩) rfl hq
 have r1:∀q,q<m->sdR n m (spD n a b c nw i np (L.set i y)) (n+1) q=some (b,q):=fun q hq=>x0R (D:=spD n a b c nw i np (L.set i y)) (i:=1) (d:=⟨fun q=>(b,q),g7 (L.set i y) (n+2) np⟩) rfl hq
 have r2:∀q,q<m->sdR n m (spD n a b c nw i np (L.set i y)) (n+2) q=some (if q=i then (nw,0) else (c,q)):=fun q hq=>x0R (D:=spD n a b c nw i np (L.set i y)) (i:=2) (d:=⟨fun q=>if q=i then (nw,0) else (c,q),g8 (L.set i y)⟩) rfl hq
 have hs:=j0m (L:=L) (i:=i) oM y;refine d1W (n:=n) (th:=th) (spD n a b c nw i np (L.set i y)) [a,b,c,nw] hn.1 h5 (e0j ⟨⟨fun _=>rfl,fun i hi=>d0y oM (r0 i hi)⟩,trivial⟩) ?_ ?_
 .intro j d hj q hq
  match j,hj with
  |0,hj=>
   simp only [nth,Option.some.injEq] at hj;subst hj;refine ⟨hd.1,by simp,f6 q,⟨_,h6,⟨hq,rfl⟩,rfl⟩,?_⟩;dsimp only;rw [e6];unfold g6;rw [hs];by_cases e:q=i
   .subst e;rw [if_pos rfl,if_pos rfl];exact b0G ⟨a0O _,d0y oM (r1 q hq),a0O _,a0O _,trivial⟩
   .rw [if_neg e,if_neg e];exact b0G ⟨a0O _,d0y oM (r1 q hq),a0O _,a0O _,trivial⟩
  |1,hj=>
   simp only [nth,Option.some.injEq] at hj;subst hj;refine ⟨hd.2.1,by simp,f7 q,⟨_,h7,⟨hq,rfl⟩,rfl⟩,?_⟩;dsimp only;rw [e7];have r2q:=r2 q hq;unfold g7;rw [hs];by_cases e:q=i
   .subst e;rw [if_pos rfl] at r2q;rw [if_pos rfl,if_pos rfl];exact b0G ⟨a0O _,g0a oM r2q,trivial⟩
   .rw [if_neg e] at r2q;rw [if_neg e,if_neg e];exact b0G ⟨a0O _,g0a oM r2q,trivial⟩
  |2,hj=>
   simp only [nth,Option.some.injEq] at hj;subst hj;dsimp only;unfold g8;rw [hs];by_cases e:q=i
   .subst e;rw [if_pos rfl,if_pos rfl];exact ⟨hd.2.2.2,by simp,_,⟨_,h9,⟨rfl,rfl⟩,rfl⟩,.inl rfl⟩
   .rw [if_neg e,if_neg e];exact ⟨hd.2.2.1,by simp,_,⟨_,h8,⟨hq,rfl⟩,rfl⟩,.inl rfl⟩
  |j+3,hj=>simp [nth] at hj
 .intro j k d e q q' hj hk hq hq' heq;have hall:∀(j:Nat) (d:SD) (q:Nat),nth (spD n a b c nw i np (L.set i y)) j=some d->(j=0/\d.src q=(a,q))\/(j=1/\d.src q=(b,q))\/(j=2/\d.src q=if q=i then (nw,0) else (c,q)):=by
   intro j d q hj
   match j,hj with
   |0,hj=>simp only [nth,Option.some.injEq] at hj;subst hj;exact .inl ⟨rfl,rfl⟩
   |1,hj=>simp only [nth,Option.some.injEq] at hj;subst hj;exact .inr (.inl ⟨rfl,rfl⟩)
   |2,hj=>simp only [nth,Option.some.injEq] at hj;subst hj;exact .inr (.inr ⟨rfl,rfl⟩)
   |j+3,hj=>simp [nth] at hj
  obtain ⟨x1,x2,x3,x4,x5,x6⟩:=hd2;rcases hall j d q hj with ⟨rfl,h1⟩|⟨rfl,h1⟩|⟨rfl,h1⟩<;>rcases hall k e q' hk with ⟨rfl,h2⟩|⟨rfl,h2⟩|⟨rfl,h2⟩<;>rw [h1,h2] at heq
  .simp only [Prod.mk.injEq] at heq;exact ⟨rfl,heq.2⟩
  .simp only [Prod.mk.injEq] at heq;omega
  .split at heq<;>simp only [Prod.mk.injEq] at heq<;>omega
  .simp only [Prod.mk.injEq] at heq;omega
  .simp only [Prod.mk.injEq] at heq;exact ⟨rfl,heq.2⟩
  .split at heq<;>simp only [Prod.mk.injEq] at heq<;>omega
  .split at heq<;>simp only [Prod.mk.injEq] at heq<;>omega
  .split at heq<;>simp only [Prod.mk.injEq] at heq<;>omega
  .split at heq<;>split at heq<;>simp only [Prod.mk.injEq] at heq<;>omega
def h1G (L:List Rc) (pr:List BA) (np:Nat) (D:Int) (f t c:BA) (a:Int):Int:=if D<0 then 14 else rmE np pr (b0U L D).R f t c a
def t0H (L:List Rc) (pr:List BA) (np:Nat) (D:Int) (f t c:BA) (a:Int):List Rc:=if D<0 then L else if rmE np pr (b0U L D).R f t c a=0 then j0l L D (o1R (b0U L D) f t c a) else rcW L D
def o1S (L:List Rc) (pr:List BA) (np:Nat) (cut D:Int) (f t c:BA) (a:Int):SV->a0k->Nat->Prop:=
 a0g (.tup [.i (if h1G L pr np D f t c a=0 then D else 0),.i (h1G L pr np D f t c a)]) (rgH 9 10 11 12 np (t0H L pr np D f t c a).length cut (t0H L pr np D f t c a)) 13
abbrev p1Z (np m hn:Nat) (cut:Int) (hs:List Int) (L:List Rc) (pr:List BA):a0k:=(2,rcC true 3 hn)::(3,inB hn hs)::rgI np m cut L pr
theorem m1e {ρ:Nat->Nat} {i:Nat} {A:Blk} {F:Nat->Blk} {B:Blk} {G:Nat->Blk} (h:Blk.ren ρ A=B/\∀q,Blk.ren ρ (F q)=G q) (q:Nat):Blk.ren ρ (if q=i then A else F q)=if q=i then B else G q:=by
 grind
set_option maxHeartbeats 1000000 in
theorem h1H {np m hn:Nat} {hs:List Int} {L:List Rc} {pr:List BA} (hL:L.length=m) (hm:m<=4000) (hN:(rcD L).Nodup) (hh:hs.length=hn) (hn4:hn<=100000) (hp:pr.length=np) (he:c0u pr=0) (hsz:∀k,(pr.getD k ⟨#[]⟩).size<=9223372036854775807) (hnp:np<=1000)
  (hR:∀d,(b0U L d).R.length<=10000) (hB:∀d p c,-4503599627370496<=e0a (b0U L d).R p c/\e0a (b0U L d).R p c<=4503599627370496) (cut t:Int) (f g c:BA) (a:Int):
  FC prog 9 182 [.ptr 1 0 0 0,.i t,.str f,.str g,.agg [.i a,.str c]] (p1Z np m hn cut hs L pr) (o1S L pr np cut (mvD hs (rcX L) (ofI hs cut t)) f g c a):=by
 have c1:=o1Q np hn m cut hs hh hn4 t;rw [w0K] at c1;have hX:=i1O (hs:=hs) (cut:=cut) (t:=t);generalize ofI hs cut t=X at*;have hD:mvF hs (rcX L) 100001 X=mvD hs (rcX L) X:=by unfold mvD;rfl
 generalize mvD hs (rcX L) X=D at*;obtain ⟨K0,hK⟩:∃K:Nat,K=100001:=⟨_,rfl⟩;rw [<-hK] at hD;refine fEx func182 ?_;repeat' ((conv=>whnf);first|refine cOx (l:= xAb) c1 ?_|refine a0a ?_|(apply bRx<;>intro h<;>try exact aX))
 all_goals (conv=>whnf)
 refine a0h (fun x:Nat×Int=>⟨[(0,.ptr 1 0 0 0),(2,.str f),(3,.str g),(9,.ptr 9 0 0 0),(12,.i (ofP x.2)),(13,.i (ofQ x.2))],(9,some (.one false (.cells [.i a,.str c])))::p1Z np m hn cut hs L pr,10⟩) (fun x=>mvF hs (rcX L) x.1 x.2=D/\x.2<=99999/\(x.2<0\/100001-x.2<=(x.1:Int))) (fun x=>x.1) (K0,X) [0,1,2,3,4,5,6,7,8,9] [] wHx ⟨hD,hX,by dsimp only;omega⟩ ?_;rintro ⟨k,x⟩ ⟨hF,hx,hk⟩;dsimp only at hF hx hk;clear hD hX hK c1;by_cases h0:x<0
 .have e1:ofP x=0:=if_pos h0;have e2:ofQ x=14:=if_pos h0;dsimp only;rw [e1,e2];rw [u0E h0] at hF;subst hF;have o1:h1G L pr np (-1) f g c a=14:=if_pos (by decide);have o2:t0H L pr np (-1) f g c a=L:=if_pos (by decide);unfold o1S;rw [o1,o2,if_neg (by decide),hL];let l:=xAp;have w:=@n0v;exact Vx
 .have e1:ofP x=x:=if_neg h0;have e2:ofQ x=0:=if_neg h0;dsimp only;rw [e1,e2];obtain ⟨k,rfl⟩:∃j,k=j+1:=⟨k-1,by omega⟩;simp only [mvF] at hF;rw [if_neg h0] at hF;have c2:=p0q L m hL (by omega) np cut x;by_cases hxc:x∈rcX L
  .rw [if_pos hxc] at hF;rw [(n0p hN).1 hxc] at c2;have c3:=t0u np hn m cut hs hh hn4 x (by omega) hx;rw [w0K] at c3;have hN2:nxI hs (x+1)<=99999/\(nxI hs (x+1)<0\/x+1<=nxI hs (x+1)):=by
    by_cases q:nxI hs (x+1)<0
    .exact ⟨by omega,.inl q⟩
    .have:=b1S q;exact ⟨this.2.1,.inr this.1⟩
   generalize nxI hs (x+1)=y at*;repeat' ((conv=>whnf);first|refine cOx (l:= xAb) c2 ?_|refine cOx (l:= xAb) c3 ?_|refine a0a ?_|(apply bRx<;>intro h<;>try exact aX)|exact ⟨(k,y),xAc,[],⟨hF,hN2.1,by dsimp only;omega⟩,t1Q k,⟨rfl,⟨rfl,rfl,rfl,rfl,rfl,rfl,trivial⟩,⟨rfl,rfl,rfl,rfl,rfl,rfl,rfl,rfl,rfl,trivial⟩⟩⟩|exact aX)
  .rw [if_neg hxc] at hF;have hcl:(b0U L x).cl=false:=by
    cases q:(b0U L x).cl with
    |false=>rfl
    |true=>exact absurd ((n0p hN).2 q) hxc
   rw [hcl] at c2;subst hF;have hlen:=q0Y L x;have hat:b0U L x=(rcW L x).getD (a0S (rcD (rcW L x)) x) rc0:=by
    rw [<-n0r x x];exact if_pos (g0D L x)
   have hi:a0S (rcD (rcW L x)) x<(rcW L x).length:=(e0W (g0D L x)).1;have c3:=x0T L m (rcW L x).length hL (by omega) pr np hp he hsz cut x rfl;have hRx:=hR x;have hBx:=hB x;have oX:h1G L pr np x f g c a=rmE np pr (b0U L x).R f g c a:=if_neg h0;by_cases hz:rmE np pr (b0U L x).R f g c a=0
   .have oL:t0H L pr np x f g c a=(rcW L x).set (a0S (rcD (rcW L x)) x) (o1R (b0U L x) f g c a):=by
     unfold t0H;rw [if_neg h0,if_pos hz];rfl
    unfold o1S;rw [oX,oL,hz,if_pos rfl,s1a];rw [hat] at hz hRx hBx⊢;clear oX oL hat;generalize a0S (rcD (rcW L x)) x=i at*;generalize rcW L x=L2 at*;obtain ⟨m2,hm2⟩:∃m2,L2.length=m2:=⟨_,rfl⟩;rw [hm2] at hi c3⊢;have c4:=v0A hi pr (by omega) hRx f g c a hBx hz;repeat' ((conv=>whnf);first|refine cOx (l:= xAb) c2 ?_|refine cOx (l:= xAb) c3 ?_|refine cOx (l:= [0,15,4,16]) c4 ?_|refine a0a ?_|(apply bRx<;>intro h<;>try exact aX)|exact b0K (l:= [0,1,2,3,4,5,6,7,8,13,18,19,20]) [.relab (sdR 18 m2 (spD 18 14 15 16 17 i np (L2.set i (o1R (L2.getD i rc0) f g c a)))) (fun _=>0) ((13,rgP false 18 m2)::sdN 18 m2 0 (spD 18 14 15 16 17 i np (L2.set i (o1R (L2.getD i rc0) f g c a)))) [14,15,16,17] 3] ⟨m1d (n:=18) (y:=o1R (L2.getD i rc0) f g c a) hm2 hi (by decide) (by decide) (by decide) rfl rfl rfl rfl rfl (fun q=>rfl) (m1e ⟨rfl,fun _=>rfl⟩),rfl,rfl,⟨rfl,rfl,rfl,rfl,rfl,trivial⟩⟩ n0v|exact aX)
   .have oL:t0H L pr np x f g c a=rcW L x:=by
     unfold t0H;rw [if_neg h0,if_neg hz]
    unfold o1S;rw [oX,oL,if_neg hz];rw [hat] at hz hRx hBx⊢;clear oX oL hat;generalize a0S (rcD (rcW L x)) x=i at*;generalize rcW L x=L2 at*;obtain ⟨m2,hm2⟩:∃m2,L2.length=m2:=⟨_,rfl⟩;rw [hm2] at hi c3⊢;have c4:=v0z hi pr (by omega) hRx f g c a hBx hz;generalize rmE np pr (L2.getD i rc0).R f g c a=e at*;let l4:=[0,15,4,16];let l:=xAb;let R:=[0,1,2,3,4,5,6,7,8,13,14,15,16];have w:=@n0v;exact Vx
def opF (L:List Rc):List Int:=(L.filter fun x=>x.mv&& !x.cl).map Rc.d
structure OoI (L:List Rc) (i m:Nat) (O:List Int):Prop where
 le:i<=L.length
 m:O.length=m
 asc:O.Pairwise (fun a b=>a<=b)
 perm:O.Perm (opF (L.take i))
theorem m1f (L:List Rc):(opF L).length<=L.length:=by simp [opF,t1i]
theorem e1l {L:List Rc} {i:Nat} (hi:i<L.length):L.take (i+1)=L.take i++ [L.getD i rc0]:=by
 simp_all
theorem h1I {L:List Rc} {i m:Nat} {O:List Int} (h:OoI L i m O) (hi:i<L.length) (ho:((L.getD i rc0).mv&& !(L.getD i rc0).cl)=false):OoI L (i+1) m O:=by
 refine ⟨hi,h.m,h.asc,?_⟩;rw [e1l hi];unfold opF;rw [t1v,t1o,ho];simp only [s1X,if_false,u1i,s1s];exact h.perm
theorem m1g {L:List Rc} {i m k:Nat} {O:List Int} (h:OoI L i m O) (hi:i<L.length) (ho:((L.getD i rc0).mv&& !(L.getD i rc0).cl)=true) (hk:k<=m) (h1:0<k->O.getD (k-1) 0<=(L.getD i rc0).d) (h2:k<m->(L.getD i rc0).d<=O.getD k 0):OoI L (i+1) (k+1+(m-k)) (O.take k++(L.getD i rc0).d::O.drop k):=by
 have hm:=h.m;have asc:∀{a b:Nat},a<b->b<O.length->O.getD a 0<=O.getD b 0:=fun {a b} hab hb=>by
  have:=t1E.1 h.asc a b oM hb hab;rw [List.getD,List.getD,m0b oM,m0b hb];exact this
 refine ⟨hi,by simp;omega,?_,?_⟩
 .refine t1l.2 ⟨h.asc.sublist (List.take_sublist _ _),s1o.2 ⟨fun b hb=> ?_,h.asc.sublist (List.drop_sublist _ _)⟩,fun a ha b hb=> ?_⟩
  .obtain ⟨j,hj,e⟩:=t1K.1 hb;rw [s1v] at hj;rw [List.getElem_drop] at e;have e2:O.getD (k+j) 0=b:=by rw [List.getD,m0b oM,e];rfl
   have:=h2 oM;by_cases q:j=0
   .subst q;rw [<-e2];exact this
   .have:=asc (show k<k+j by omega) oM;omega
  .obtain ⟨j,hj,e⟩:=t1K.1 ha;rw [p1O] at hj;rw [t1z] at e;have e2:O.getD j 0=a:=by rw [List.getD,m0b oM,e];rfl
   have hb1:=h1 oM;have hle:a<=O.getD (k-1) 0:=by
    by_cases q:j=k-1
    .rw [<-q,e2];exact Int.le_refl _
    .rw [<-e2];exact asc (show j<k-1 by omega) oM
   rcases f1I.1 hb with rfl|hb
   .omega
   .obtain ⟨j',hj',e'⟩:=t1K.1 hb;rw [s1v] at hj';rw [List.getElem_drop] at e';have e3:O.getD (k+j') 0=b:=by rw [List.getD,m0b oM,e'];rfl
    rw [<-e2,<-e3];exact asc (show j<k+j' by omega) oM
 .rw [e1l hi];have e:opF (L.take i++ [L.getD i rc0])=opF (L.take i)++ [(L.getD i rc0).d]:=by
   unfold opF;rw [t1v,t1o,ho];simp only [if_true,u1i,n1q,n1w,s1Y]
  rw [e];have p1:(O.take k++(L.getD i rc0).d::O.drop k).Perm ((L.getD i rc0).d::(O.take k++O.drop k)):=List.perm_middle;rw [t1g] at p1;exact p1.trans ((List.Perm.cons _ h.perm).trans (List.perm_append_singleton _ _).symm)
theorem m1h {O:List Int} {m k:Nat} (hm:O.length=m) (hk:k<=m) {d:Int}:
  (some (HB.one false (.cols (0+k+1+(m-k)) [.sc (.ints .i64 (seg 0 k O++ [d]++seg (k+0) (m-k) O))])):Option HB)=some (.one false (.cols (0+k+1+(m-k)) [.sc (.ints .i64 (O.take k++d::O.drop k))])):=by
 grind [l0a,x0P]
theorem e1m {l m:List Int} (hp:m.Perm l) (hm:m.Pairwise (fun a b=>a<=b)):sortI l=m:=
 (j0G l|>.trans hp.symm).eq_of_pairwise (le:=fun a b=>a<=b) (fun a b _ _ h1 h2=>Int.le_antisymm h1 h2) (e0w l) hm
theorem h1J (L:List Rc) (n:Nat) (hn:L.length=n) (hl:n<=100000) (np:Nat) (cut:Int):FC prog 9 187 [.ptr 1 0 0 0] [(1,rgC true 5 np n cut),(5,rgP true 6 n),(6,fmB true n (g6 L 7))] (a0g (.sl 9 0 0 (rcO L).length) [(9,some (.one false (.cols (rcO L).length [.sc (.ints .i64 (rcO L))])))] 10):=by
 refine fEx func187 ?_;repeat' ((conv=>whnf);first|refine a0a ?_|(apply bRx<;>intro h<;>try exact aX))
 all_goals (conv=>whnf)
 refine b0g (fun x:Nat×Nat×List Int=>⟨[(0,.ptr 1 0 0 0),(3,.sl 9 0 0 x.2.1),(4,.i x.1)],[(1,rgC true 5 np n cut),(5,rgP true 6 n),(6,fmB true n (g6 L 7)),(9,some (.one false (.cols x.2.1 [.sc (.ints .i64 x.2.2)])))],10⟩) (fun x=>OoI L x.1 x.2.1 x.2.2) (fun x=>n-x.1) (0,0,[]) [0,1,2,3,4,5,6,7,8,9] [.slot 3 [.sc (.ints .i64 [])]] wHx ⟨b1f _,rfl,List.Pairwise.nil,List.Perm.refl _⟩ ?_;rintro ⟨i,m,O⟩ hI;dsimp only at hI⊢;have hi:=hI.le;rw [hn] at hi;have hmn:m<=n:=by
  have h1:=hI.perm.length_eq;have h2:=m1f (L.take i);rw [p1O] at h2;have:=hI.m;omega
 by_cases hi2:i<n
 .cases ho:((L.getD i rc0).mv&& !(L.getD i rc0).cl) with
  |false=>
   have hs:=h1I hI oM ho;repeat' ((conv=>whnf);first|refine a0a ?_|(apply bRx<;>intro h<;>try exact aX)|exact ⟨(i+1,m,O),xAc,[],hs,(show n-(i+1)<n-i by omega),⟨rfl,⟨rfl,rfl,sI (a0j oM),trivial⟩,rX⟩⟩|(exfalso;first|omega|contradiction)|(exfalso;simp_all;done))
  |true=>
   obtain ⟨hmv,hcl⟩:(L.getD i rc0).mv=true/\(L.getD i rc0).cl=false:=by simpa using ho
   repeat' ((conv=>whnf);first|refine a0a ?_|(apply bRx<;>intro h<;>try exact aX))
   all_goals (conv=>whnf)
   all_goals first
    |(exfalso;first|omega|contradiction)
    |(exfalso;simp_all;done)
    |skip
   refine b0g (fun k:Nat=>⟨[(0,.ptr 1 0 0 0),(3,.sl 9 0 0 m),(4,.i i),(5,.ptr 6 i 0 0),(6,.i k)],[(1,rgC true 5 np n cut),(5,rgP true 6 n),(6,fmB true n (g6 L 7)),(9,some (.one false (.cols m [.sc (.ints .i64 O)])))],10⟩) (fun k=>k<=m/\(k<m->(L.getD i rc0).d<=O.getD k 0)) (fun k=>k) m [0,1,2,3,4,5,6,7,8,9] [] wHx ⟨m0c _,fun h=>absurd h (s1w _)⟩ ?_;rintro k ⟨hk,hge⟩;have e1:i64.wrap ((k:Int)-1)=(k:Int)-1:=a0l oM oM;have e2:((k:Int)-1).toNat=k-1:=oM
   have hq:O.getD (k-1+0) 0=O.getD (k-1) 0:=rfl;have hput:=fun (h1:0<k->O.getD (k-1) 0<=(L.getD i rc0).d)=>(show k+1+(m-k)=0+k+1+(m-k) by omega)▸m1g hI oM ho hk h1 hge
   have hrow:=m1h hI.m hk (d:=(L.getD i rc0).d);by_cases hk2:0<k
   .by_cases hlt:(L.getD i rc0).d<O.getD (k-1) 0
    .have hn2:k-1<=m/\(k-1<m->(L.getD i rc0).d<=O.getD (k-1) 0):=⟨by omega,fun _=>by omega⟩;have e3:(k:Int)-1=((k-1:Nat):Int):=oM
     repeat' ((conv=>whnf);first|(simp only [e1,e2])|(refine And.intro ⟨?_,trivial,?_⟩ ?_;omega;omega)|refine a0a ?_|(apply bRx<;>intro h<;>try exact aX)|exact ⟨k-1,xAc,[],hn2,(show k-1<k by omega),⟨rfl,⟨rfl,rfl,rfl,rfl,sI (e1.trans e3),trivial⟩,rX⟩⟩|exact ⟨k-1,xAc,[],hn2,(show k-1<k by omega),⟨rfl,⟨rfl,rfl,rfl,rfl,congrArg (fun z=>some (SV.i z)) e3,trivial⟩,rX⟩⟩|(exfalso;first|omega|contradiction))
    .have hp:=hput (fun _=>by omega);repeat' ((conv=>whnf);first|(simp only [e1,e2])|(refine And.intro ⟨?_,trivial,?_⟩ ?_;omega;omega)|refine a0a ?_|(apply bRx<;>intro h<;>try exact aX)|(exfalso;first|omega|contradiction)|exact ⟨(i+1,0+k+1+(m-k),O.take k++(L.getD i rc0).d::O.drop k),[0,1,2,3,4,5,6,7,8,14],[],hp,(show n-(i+1)<n-i by omega),⟨rfl,⟨rfl,rfl,sI (a0j oM),trivial⟩,⟨rfl,rfl,rfl,hrow,trivial⟩⟩⟩)
   .have hp:=hput (fun h=>absurd h hk2);repeat' ((conv=>whnf);first|(simp only [e1,e2])|(refine And.intro ⟨?_,trivial,?_⟩ ?_;omega;omega)|refine a0a ?_|(apply bRx<;>intro h<;>try exact aX)|(exfalso;first|omega|contradiction)|exact ⟨(i+1,0+k+1+(m-k),O.take k++(L.getD i rc0).d::O.drop k),[0,1,2,3,4,5,6,7,8,14],[],hp,(show n-(i+1)<n-i by omega),⟨rfl,⟨rfl,rfl,sI (a0j oM),trivial⟩,⟨rfl,rfl,rfl,hrow,trivial⟩⟩⟩)
 .have e:i=n:=oM
  subst e;have e1:rcO L=O:=by
   have:=hI.perm;rw [<-hn,n1v] at this;exact e1m this hI.asc
  have e2:=hI.m;rw [e1,e2];let l:=xAc;exact Vx
theorem v0B {L:List Rc} {m i np:Nat} (hi:i<m) (pr:List BA) (hr:(L.getD i rc0).R.length<=100000) (hd:q0U (L.getD i rc0).R):
  FC prog 4 225 [.ptr 1 i 0 0] [(1,fmB true m (g7q 2 L 3 np)),(2,some (.one true (.cols np [.sc (.strs pr)]))),(3,fmB true m (g8 L))] (a0g (.sl 4 0 0 (nz (L.getD i rc0).R).length) [(4,some (.one false (pxB (nz (L.getD i rc0).R).length (b0C (srt (nz (L.getD i rc0).R))))))] 5):=by
 have cM:=z0M np pr (L.getD i rc0).R _ rfl hr hd;have c0:=k0s [(1,⟨i,fun x=>x<m,g7q 2 L 3 np⟩),(3,⟨i,fun x=>x<m,g8 L⟩)] (by
  refine ⟨⟨by simp,by simp,_,_,rfl,hi,?_,.inl rfl⟩,⟨by simp,by simp,_,_,rfl,hi,rfl,.inl rfl⟩,trivial⟩;show Blk.cells [.sl 2 0 0 np,.sl 3 i 0 _]= .cells [.sl 2 0 0 np,.sl 3 (0+i) 0 _];simp) (by trivial) (by trivial) (a0b a0c) cM
 have e:SV.mems (fmu [(1,⟨i,fun x=>x<m,g7q 2 L 3 np⟩),(3,⟨i,fun x=>x<m,g8 L⟩)]) [.ptr 1 0 0 0]= [.ptr 1 i 0 0]:=by
  show [SV.ptr 1 (0+i) 0 0]=_;simp
 rw [e] at c0;exact c0
def rpL (L:List Rc) (d:Int):List Px:=if (b0U L d).mv=true then srt (nz (b0U L d).R) else []
abbrev rpR (np m:Nat) (cut:Int) (L:List Rc) (pr:List BA):a0k:= [(1,rgC true 5 np m cut),(4,cyP true np pr),(5,rgP true 6 m),(6,fmB true m (g6 L 7)),(7,fmB true m (g7 L 8 np)),(8,fmB true m (g8 L))]
theorem q0Z (L:List Rc) (m:Nat) (hL:L.length=m) (hm:m<=100000) (np:Nat) (pr:List BA) (cut d:Int) (hr:(b0U L d).R.length<=100000) (hd:q0U (b0U L d).R):
  FC prog 9 189 [.ptr 1 0 0 0,.i d] (rpR np m cut L pr) (a0g (.sl 9 0 0 (rpL L d).length) [(9,some (.one false (pxB (rpL L d).length (b0C (rpL L d)))))] 10):=by
 have c:=l0e L m hL hm np cut d;unfold rfV at c;unfold rpL;by_cases h:d∈rcD L
 .have hi:a0S (rcD L) d<m:=by have:=(e0W h).1;omega
  have hat:b0U L d=L.getD (a0S (rcD L) d) rc0:=if_pos h;rw [if_pos h] at c;rw [hat] at hr hd⊢;clear hat;generalize a0S (rcD L) d=i at*;cases hmv:(L.getD i rc0).mv with
  |true=>
   rw [if_pos rfl];have c2:=v0B (np:=np) hi pr hr hd;have el:(nz (L.getD i rc0).R).length=(srt (nz (L.getD i rc0).R)).length:=(q0V _).length_eq.symm;rw [el] at c2;refine fEx func189 ?_;repeat' ((conv=>whnf);first|refine cOx (l:= xAb) c ?_|refine cOx (l:= [0,7,4,8]) c2 ?_|refine a0a ?_|(apply bRx<;>intro h<;>try exact aX)|(exfalso;first|omega|contradiction)|exact rOx xAc (a0b a0c)|(exfalso;simp_all;done))
  |false=>
   rw [if_neg (by simp)];refine o0E rfl ?_;refine fEx func189 ?_;repeat' ((conv=>whnf);first|refine cOx (l:= xAb) c ?_|refine a0a ?_|(apply bRx<;>intro h<;>try exact aX)|(exfalso;first|omega|contradiction)|exact c0y (fun _ _ _ h=> .inl h) (rOx xAb a0c)|(exfalso;simp_all;done))
 .rw [if_neg h] at c;have hmv:¬(b0U L d).mv=true:=by unfold b0U;rw [if_neg h];simp [e0z]
  rw [if_neg hmv];refine o0E rfl ?_;refine fEx func189 ?_;repeat' ((conv=>whnf);first|refine cOx (l:= xAb) c ?_|refine a0a ?_|(apply bRx<;>intro h<;>try exact aX)|(exfalso;first|omega|contradiction)|exact c0y (fun _ _ _ h=> .inl h) (rOx xAb a0c))
theorem o1T {L:List Rc} {h i:Nat} (hi:i<L.length) (y:Rc):(fun x=>if x=i then Blk.cells [.i y.d,.ptr h i 0 0,.bool y.mv,.bool y.cl] else g6 L h x)=g6 (L.set i y) h:=by
 unfold g6;grind
theorem o1U {L:List Rc} {h np i:Nat} (hi:i<L.length) {y:Rc} (hy:y.R=(L.getD i rc0).R):g7 (L.set i y) h np=g7 L h np:=by
 unfold g7;grind
theorem o1V {L:List Rc} {i:Nat} (hi:i<L.length) {y:Rc} (hy:y.R=(L.getD i rc0).R):g8 (L.set i y)=g8 L:=by
 unfold g8;grind
def m1i (x:Rc):Rc:=⟨x.d,x.mv,true,x.R⟩
def o1W (hs:List Int) (L:List Rc) (d:Int):Int:=if k0Q hs d=false then 14 else if d∈rcX L then 23 else if 0<(rcO L).length/\(rcO L).getD 0 0<d then 8 else 0
def z0O (L:List Rc) (d:Int):List Rc:=j0l L d (m1i (b0U L d))
def q1M (np m:Nat) (cut:Int) (hs:List Int) (L:List Rc) (d:Int):SV->a0k->Nat->Prop:=
 if o1W hs L d=0 then a0g (.tup [.sl 13 0 0 (rpL L d).length,.i 0]) ((13,some (.one false (pxB (rpL L d).length (b0C (rpL L d)))))::rgH 9 10 11 12 np (z0O L d).length cut (z0O L d)) 14
 else a0g (.tup [.nsl,.i (o1W hs L d)]) (rgH 9 10 11 12 np m cut L) 13
set_option maxHeartbeats 1000000 in
theorem e1n {np m hn:Nat} {hs:List Int} {L:List Rc} {pr:List BA} (hL:L.length=m) (hm:m<=4000) (hN:(rcD L).Nodup) (hh:hs.length=hn) (hn4:hn<=100000) (hp:pr.length=np) (he:c0u pr=0) (hsz:∀k,(pr.getD k ⟨#[]⟩).size<=9223372036854775807) (cut d:Int)
  (hr:(b0U L d).R.length<=100000) (hd:q0U (b0U L d).R):
  FC prog 9 142 [.ptr 1 0 0 0,.i d] (p1Z np m hn cut hs L pr) (q1M np m cut hs L d):=by
 have c1:=g0x hs hn hh hn4 d;have c2:=p0q L m hL (by omega) np cut d;unfold q1M o1W;cases hq:k0Q hs d with
 |false=>
  rw [hq] at c1;rw [if_pos rfl,if_neg (by decide)];let l:=[0,2,3];let R:=xAp;have w:=@n0v;exact Wx func142
 |true=>
  rw [hq] at c1;rw [if_neg (show¬true=false by simp)];by_cases hX:d∈rcX L
  .rw [(n0p hN).1 hX] at c2;rw [if_pos hX,if_neg (by decide)];let l1:=[0,2,3];let l:=xAb;let R:=xAp;have w:=@n0v;exact Wx func142
  .have hcl:(b0U L d).cl=false:=by
    cases q:(b0U L d).cl with
    |false=>rfl
    |true=>exact absurd ((n0p hN).2 q) hX
   rw [hcl] at c2;rw [if_neg hX];have c3:=h1J L m hL (by omega) np cut;have hol:(rcO L).length<=4000:=by
    unfold rcO;rw [f0Z,f1R];exact n1r (t1i _ _) (by omega)
   generalize rcO L=S at*;by_cases hS:0<S.length/\S.getD 0 0<d
   .rw [if_pos hS,if_neg (by decide)];refine fEx func142 ?_;repeat' ((conv=>whnf);first|refine cOx (l:= [0,2,3]) c1 ?_|refine cOx (l:= xAb) c2 ?_|refine cOx (l:= xAb) c3 ?_|refine a0a ?_|(apply bRx<;>intro h<;>try exact aX)|exact rOx xAp n0v|exact absurd hS.2 h|exact absurd ⟨by omega,h⟩ hS|exact aX)
   .rw [if_neg hS,if_pos rfl];have hat:b0U L d=(rcW L d).getD (a0S (rcD (rcW L d)) d) rc0:=by
     rw [<-n0r d d];exact if_pos (g0D L d)
    have hi:a0S (rcD (rcW L d)) d<(rcW L d).length:=(e0W (g0D L d)).1;have hlen:=q0Y L d;have hx:(m1i (b0U L d)).d=d:=e1i L d;have c4:=x0T L m (rcW L d).length hL (by omega) pr np hp he hsz cut d rfl;have hR2:b0U (z0O L d) d=(m1i (b0U L d)):=by unfold z0O;rw [d0L hN hx,if_pos rfl]
    have hP:rpL (z0O L d) d=rpL L d:=by unfold rpL;rw [hR2];rfl
    have hlc:(z0O L d).length=(rcW L d).length:=by unfold z0O j0l;rw [s1a]
    have c5:=q0Z (z0O L d) (rcW L d).length hlc (by omega) np pr cut d (by rw [hR2];exact hr) (by rw [hR2];exact hd);rw [hP] at c5;rw [hlc];have eL:z0O L d=(rcW L d).set (a0S (rcD (rcW L d)) d) (m1i ((rcW L d).getD (a0S (rcD (rcW L d)) d) rc0)):=by unfold z0O;rw [hat];rfl
    generalize rpL L d=P at*;rw [eL] at c5⊢;clear hR2 hP hlc eL hat hx;generalize a0S (rcD (rcW L d)) d=i at*;generalize rcW L d=L2 at*;have e6:=o1T (h:=15) hi (m1i (L2.getD i rc0));have e7:=fun h=>o1U (h:=h) (np:=np) hi (y:=(m1i (L2.getD i rc0))) rfl
    have e8:=o1V hi (y:=(m1i (L2.getD i rc0))) rfl;unfold rpR at c5;rw [e7,e8] at c5;obtain ⟨m2,hm2⟩:∃m2,L2.length=m2:=⟨_,rfl⟩;rw [hm2] at hi c4 c5⊢;unfold rgH;rw [e7,e8];refine fEx func142 ?_;repeat' ((conv=>whnf);first|refine cOx (l:= [0,2,3]) c1 ?_|refine cOx (l:= xAb) c2 ?_|refine cOx (l:= xAb) c3 ?_|refine cOx (l:= xAb) c4 ?_|(refine k1l (l:= [0,1,2,3,4,13,14,15,16]) c5 ?_ (h6:=by (repeat' (first|exact trivial|exact e6|constructor));first|done|fail))|(refine f1L (l:= [0,1,2,3,4,13,14,15,16]) c5 ?_ (h6:=by (repeat' (first|exact trivial|exact e6|constructor));first|done|fail))|refine a0a ?_|(apply bRx<;>intro h<;>try exact aX))
    all_goals (conv=>whnf)
    .exact absurd ⟨by omega,h⟩ hS
    all_goals exact a0A (l:= [0,1,2,3,4,5,6,7,8,13,14,15,16,17]) rfl rfl ⟨rfl,rfl,rfl,(congrArg (fun f=>some (HB.fam false (fun x=>x<m2) f)) e6),rfl,rfl,trivial⟩ (a0b (a0b (a0b (a0r (a0r (a0r a0c))))))
abbrev o1X (ro:Bool) (hc hp hl np m:Nat) (cut:Int):Option HB:=some (.one ro (.cells [.ptr hc 0 0 0,.i cut,.sl hp 0 0 np,.sl hl 0 0 m]))
def q1a (cut:Int) (ps:List BA) (n:Nat):SV->a0k->Nat->Prop:=if cnE cut ps=0 then a0g (.tup [.ptr 3 0 0 0,.i 0]) [(3,o1X false 1 4 5 n 0 cut),(4,cyP false n ps),(5,rgP false 6 0),(6,fmB false 0 (g6 [] 7)),(7,fmB false 0 (g7q 4 [] 8 n)),(8,fmB false 0 (g8 []))] 9 else a0g (.tup [.nptr,.i (cnE cut ps)]) [] 3
theorem e1o (cut:Int) (ps:List BA) (n:Nat) (hl:ps.length=n) (hsz:∀k,(ps.getD k ⟨#[]⟩).size<=9223372036854775807):FC prog 3 75 [.ptr 1 0 0 0,.i cut,.sl 2 0 0 n] [(2,some (.one true (.cols n [.sc (.strs ps)])))] (q1a cut ps n):=by
 have c1:=t0m ps n hl hsz;unfold q1a cnE;by_cases h:cut<0\/86400<cut
 .rw [if_pos h,if_neg dC];let l:=[0,1,2];exact Wx func75
 rw [if_neg h];unfold h1w at c1;by_cases he:c0u ps=0
 .rw [if_neg (by rw [he];simp)] at c1;rw [if_pos he];have hn16:=(i0L he).1;refine fEx func75 ?_;repeat' ((conv=>whnf);first|refine cOx (l:= [0,2]) c1 ?_|(refine And.intro ⟨?_,trivial,?_⟩ ?_;omega;omega)|refine a0a ?_|(apply bRx<;>intro h<;>try exact aX))
  all_goals (conv=>whnf)
  rw [i1z n,w0G hl];exact b0K (l:= [0,1,2,6,5,7,8,9,10]) [.cell 6 3 [.svs []],.relab (fun _ _=>none) (fun _=>0) ((7,rgP false 8 0)::gdN 8 0 0 [⟨0,0,g6 [] 9⟩,⟨0,0,g7q 5 [] 10 n⟩,⟨0,0,g8 []⟩]) [] 3] ⟨g0Q (n:=8) (th:=7) [⟨0,0,g6 [] 9⟩,⟨0,0,g7q 5 [] 10 n⟩,⟨0,0,g8 []⟩] dC rfl (e0j ⟨⟨fun _=>rfl,fun i hi=>absurd hi (p1R _)⟩,trivial⟩),rfl,rfl,rX⟩ (a0b (a0b (a0b (a0r (a0r (a0r a0c))))))
 .rw [if_pos he] at c1;rw [if_neg he];generalize c0u ps=e at*;let l:=[0,2];let R:=[0,1,2];exact Wx func75
end
section
theorem o1Y {ps:List BA}:RlB (nwB ps) []:=by
 refine ⟨List.Pairwise.nil,fun p c=> ?_⟩;unfold w0E;have e:(nwB ps).row c=z16:=rfl;rw [e,m0z];split<;>rfl
end
section
attribute [local irreducible] sortI
structure RcI (ds cd:List Int) (B:List Bk) (pr:List BA) (L:List Rc) (k:Nat):Prop where
 nd:(rcD L).Nodup
 mv:∀d,(b0U L d).mv=true↔d∈ds
 cl:∀d,(b0U L d).cl=true↔d∈cd
 bk:∀d,RlB (c0H ds B pr d) (b0U L d).R
 len:L.length<=k
 rl:∀d,(b0U L d).R.length<=2*k
theorem m1j (pr:List BA):RcI [] [] [] pr [] 0:=by
 refine ⟨s1Z,fun d=> ?_,fun d=> ?_,fun d=> ?_,m0c _,fun d=> ?_⟩
 .simp [b0U,e0z]
 .simp [b0U,e0z]
 .exact o1Y
 .exact b1f _
theorem RcI.up {ds cd:List Int} {B:List Bk} {pr:List BA} {L:List Rc} {k k':Nat} (h:RcI ds cd B pr L k) (hk:k<=k'):RcI ds cd B pr L k':=
 ⟨h.nd,h.mv,h.cl,h.bk,n1r h.len hk,fun d=>n1r (h.rl d) (u1k 2 hk)⟩
theorem RcI.w {ds cd:List Int} {B:List Bk} {pr:List BA} {L:List Rc} {k:Nat} (h:RcI ds cd B pr L k) (d:Int):RcI ds cd B pr (rcW L d) (k+1):=by
 have hl:=q0Y L d;have hk:=h.len;refine ⟨t0r h.nd d,fun x=> ?_,fun x=> ?_,fun x=> ?_,by omega,fun x=> ?_⟩
 .rw [n0r];exact h.mv x
 .rw [n0r];exact h.cl x
 .rw [n0r];exact h.bk x
 .rw [n0r];have:=h.rl x;omega
theorem RcI.C {ds cd:List Int} {B:List Bk} {pr:List BA} {L:List Rc} {k:Nat} (h:RcI ds cd B pr L k) (d:Int):d∈rcX L↔d∈cd:=(n0p h.nd).trans (h.cl d)
theorem RcI.close {ds cd:List Int} {B:List Bk} {pr:List BA} {L:List Rc} {k:Nat} (h:RcI ds cd B pr L k) (D:Int):RcI ds (cd++ [D]) B pr (j0l L D { b0U L D with cl:=true}) (k+1):=by
 have hx:({ b0U L D with cl:=true}:Rc).d=D:=e1i L D;have hl:=t0s L D { b0U L D with cl:=true};have hk:=h.len;refine ⟨n0s h.nd hx,fun x=> ?_,fun x=> ?_,fun x=> ?_,by omega,fun x=> ?_⟩
 .rw [d0L h.nd hx];split
  .rename_i e;subst e;exact h.mv _
  .exact h.mv x
 .rw [d0L h.nd hx,k1q,b1h];split
  .simp_all
  .rename_i e;simp [e];exact h.cl x
 .rw [d0L h.nd hx];split
  .rename_i e;subst e;exact h.bk _
  .exact h.bk x
 .rw [d0L h.nd hx];split
  .have:=h.rl x;grind
  .have:=h.rl x;omega
theorem RcI.move {ds cd:List Int} {B:List Bk} {pr:List BA} {L:List Rc} {k:Nat} (h:RcI ds cd B pr L k) (hB:ds.length=B.length) (D:Int) {b:Bk} {f t c:BA} {a:Int} (hb:RlB b (rmR (b0U L D).R f t c a)):
  RcI (k0G ds D) cd (s0x ds B D b) pr (j0l L D { b0U L D with mv:=true,R:=rmR (b0U L D).R f t c a}) (k+1):=by
 have hx:({ b0U L D with mv:=true,R:=rmR (b0U L D).R f t c a}:Rc).d=D:=e1i L D;have hl:=t0s L D { b0U L D with mv:=true,R:=rmR (b0U L D).R f t c a};have hk:=h.len;refine ⟨n0s h.nd hx,fun x=> ?_,fun x=> ?_,fun x=> ?_,by omega,fun x=> ?_⟩
 .rw [d0L h.nd hx,h1D];split
  .simp_all
  .rename_i e;simp [e];exact h.mv x
 .rw [d0L h.nd hx];split
  .rename_i e;subst e;exact h.cl _
  .exact h.cl x
 .rw [d0L h.nd hx,e1k hB];split
  .omega
  .exact h.bk x
 .rw [d0L h.nd hx];split
  .show (rmR (b0U L D).R f t c a).length<=_;have h1:=h.rl D;unfold rmR;have h2:=q0X (b0U L D).R f c (e0a (b0U L D).R f c-a);have h3:=q0X (p0j (b0U L D).R f c (e0a (b0U L D).R f c-a)) t c (e0a (b0U L D).R t c+a);omega
  .have:=h.rl x;omega
theorem RcI.open {ds cd:List Int} {B:List Bk} {pr:List BA} {L:List Rc} {k:Nat} (h:RcI ds cd B pr L k) (hd:ds.Nodup):rcO L=j0M ds cd:=by
 refine m0d ?_;have n1:((L.filter fun x=>x.mv&& !x.cl).map Rc.d).Nodup:=h.nd.sublist ((u1o (l:=L)).map Rc.d);have n2:(ds.filter (fun t=> !decide (t∈cd))).Nodup:=hd.sublist u1o;refine (u1M n1 n2).2 fun d=> ?_
 rw [t1W,<-h.mv d];constructor
 .intro q;obtain ⟨x,hx,rfl⟩:=r1U.1 q;obtain ⟨q1,q2⟩:=t1W.1 hx;rw [m1a h.nd q1];have:¬x.d∈cd:=fun w=>by
   have:=(h.cl x.d).2 w;rw [m1a h.nd q1] at this;simp_all
  simp_all
 .rintro ⟨q1,q2⟩;have q3:¬d∈cd:=by simp_all
  by_cases hm:d∈rcD L
  .obtain ⟨hi,e⟩:=e0W hm;have ea:b0U L d=L.getD (a0S (rcD L) d) rc0:=by simp_all [b0U]
   refine r1U.2 ⟨_,t1W.2 ⟨by simp_all,?_⟩,e⟩;rw [<-ea,n0M];refine ⟨q1,?_⟩;cases hc:(b0U L d).cl with
   |false=>rfl
   |true=>exact absurd ((h.cl d).1 hc) q3
  .unfold b0U at q1;rw [if_neg hm] at q1;cases q1
theorem j1q (l cd:List Int):∀k x,mvF (ddS l) cd k x=mvF l cd k x
 |0,_=>rfl
 |k+1,x=>by simp only [mvF];rw [i1J,j1q l cd k]
theorem o1Z (l cd:List Int) (x:Int):mvD (ddS l) cd x=mvD l cd x:=by simp_all [mvD,j1q]
theorem r1F {ds:List Int} {B:List Bk} {m np:Nat} {pr:List BA} (hb:BksI ds B m np (sortS pr)) (hp:pr.length=np) (he:c0u pr=0) (d:Int):BkI (c0H ds B pr d) 4503599627370496/\(c0H ds B pr d).n=np/\(c0H ds B pr d).ps=sortS pr/\(c0H ds B pr d).m<=100000:=by
 unfold c0H;by_cases hd:d∈ds
 .rw [if_pos hd];exact hb.I _ (by rw [<-hb.dl];exact b0o.2 hd)
 .rw [if_neg hd];exact ⟨(k1F he).up (by simp),hp,rfl,b1f _⟩
set_option maxHeartbeats 1000000 in
structure Cpi (pr:List BA) (ds cd:List Int) (B:List Bk) (L:List Rc) (k:Nat):Prop where
 b:BksI ds B ds.length pr.length (sortS pr)
 r:RcI ds cd B pr L k
 m:∀d,(c0H ds B pr d).m<=k
theorem m1k (pr:List BA):Cpi pr [] [] [] [] 0:=
 ⟨⟨rfl,rfl,s1Z,fun i hi=>absurd hi (p1R _)⟩,m1j pr,fun d=>m0c _⟩
theorem Cpi.up {pr:List BA} {ds cd:List Int} {B:List Bk} {L:List Rc} {k k':Nat} (h:Cpi pr ds cd B L k) (hk:k<=k'):Cpi pr ds cd B L k':=⟨h.b,h.r.up hk,fun d=>n1r (h.m d) hk⟩
theorem Cpi.bl {pr:List BA} {ds cd:List Int} {B:List Bk} {L:List Rc} {k:Nat} (h:Cpi pr ds cd B L k):ds.length=B.length:=h.b.bl.symm
theorem e1p {ds:List Int} {B:List Bk} {m np:Nat} {sp:List BA} (h:BksI ds B m np sp) (D:Int) {b:Bk} (hb:BkI b 4503599627370496/\b.n=np/\b.ps=sp/\b.m<=100000):BksI (k0G ds D) (s0x ds B D b) (k0G ds D).length np sp:=by
 unfold k0G s0x;by_cases hD:D∈ds
 .rw [if_pos hD,if_pos hD];refine ⟨rfl,by rw [s1a,h.bl,h.dl],h.nd,fun i hi=> ?_⟩;rw [List.getD,s1h];split
  .split
   .grind
   .rename_i h1 h2;exact absurd (by rw [h.bl,<-h.dl,h1];omega) h2
  .have:=h.I i (by rw [<-h.dl];omega);trivial
 .rw [if_neg hD,if_neg hD];refine ⟨rfl,by simp [h.bl,h.dl],?_,fun i hi=> ?_⟩
  .exact s1p.2 ⟨h.nd,by simp,fun a ha b hb e=>by simp_all⟩
  .rw [s0c,m1T,h.dl] at hi;by_cases e:i<m
   .rw [List.getD,e1S (by rw [h.bl];omega)];have:=h.I i e;trivial
   .have e2:i=m:=oM
    rw [e2,List.getD,f1K (by rw [h.bl];omega),h.bl,s1N];grind
section
variable {pr:List BA} {ds cd:List Int} {B:List Bk} {L:List Rc} {k:Nat}
theorem Cpi.at (h:Cpi pr ds cd B L k) (he:c0u pr=0) (d:Int):BkI (c0H ds B pr d) 4503599627370496/\(c0H ds B pr d).n=pr.length/\(c0H ds B pr d).ps=sortS pr/\(c0H ds B pr d).m<=100000:=r1F h.b rfl he d
theorem Cpi.D (h:Cpi pr ds cd B L k) (hol:List Int) (x:Int):mvD hol (rcX L) x=mvD hol cd x:=e1j (fun d=>h.r.C d) x
theorem Cpi.X (h:Cpi pr ds cd B L k) (he:c0u pr=0) (hs:List Int) (D:Int) (f g c:BA) (a:Int):h1G L pr pr.length D f g c a=mvX hs ds cd B pr D f g c a:=by
 unfold h1G mvX;by_cases h0:D<0
 .omega
 .obtain ⟨h1,h2,h3,_⟩:=h.at he D;have:=(e1g h1 (ps:=pr) (by rw [h3];exact d0M pr) (h.r.bk D) f g c a).1;simp_all
theorem Cpi.move (h:Cpi pr ds cd B L k) (he:c0u pr=0) (hk:k<=4000) (hs:List Int) (D:Int) (f g c:BA) (a:Int) (h0:mvX hs ds cd B pr D f g c a=0):Cpi pr (k0G ds D) cd (s0x ds B D ((c0H ds B pr D).mv f g c a)) (t0H L pr pr.length D f g c a) (k+1):=by
 obtain ⟨h1,h2,h3,h4⟩:=h.at he D;have hm:=h.m D;have hX:=h.X he hs D f g c a;have hD:¬D<0:=fun w=>by simp_all [h1G]
 have hX2:rmE pr.length pr (b0U L D).R f g c a=0:=by simp_all [h1G]
 have h02:mvE (c0H ds B pr D) f g c a=0:=by simp_all [mvX]
 have hR:=(e1g h1 (ps:=pr) (by rw [h3];exact d0M pr) (h.r.bk D) f g c a).2 h02;have e:t0H L pr pr.length D f g c a=j0l L D { b0U L D with mv:=true,R:=rmR (b0U L D).R f g c a}:=by unfold t0H;rw [if_neg hD,if_pos hX2];rfl
 rw [e];have hmm:=r1j (c0H ds B pr D) f g c a;refine ⟨e1p h.b D ⟨r1k h1 f g c a,by simp_all [g1f],by simp_all [g1f],by omega⟩,h.r.move h.bl D hR,fun d=> ?_⟩;rw [e1k h.bl];split
 .omega
 .have:=h.m d;omega
theorem Cpi.move_no (h:Cpi pr ds cd B L k) (he:c0u pr=0) (hs:List Int) (D:Int) (f g c:BA) (a:Int) (h0:mvX hs ds cd B pr D f g c a≠0):Cpi pr ds cd B (t0H L pr pr.length D f g c a) (k+1):=by
 have hX:=h.X he hs D f g c a;unfold t0H;by_cases hD:D<0
 .rw [if_pos hD];exact h.up (s1f _)
 .rw [if_neg hD];unfold h1G at hX;rw [if_neg oM];exact ⟨h.b,h.r.w D,fun d=>n1r (h.m d) (s1f _)⟩
theorem Cpi.E (h:Cpi pr ds cd B L k) (hol:List Int) (d:Int):o1W hol L d=clE (ddS hol) ds cd d:=by
 unfold o1W clE;rw [u0y,h.r.open h.b.nd];by_cases q:d∈cd
 .rw [if_pos q,if_pos ((h.r.C d).2 q)]
 .rw [if_neg q,if_neg (fun w=>q ((h.r.C d).1 w))]
theorem Cpi.close (h:Cpi pr ds cd B L k) (d:Int):Cpi pr ds (cd++ [d]) B (z0O L d) (k+1):=⟨h.b,h.r.close d,fun x=>n1r (h.m x) (s1f _)⟩
theorem Cpi.P (h:Cpi pr ds cd B L k) (he:c0u pr=0) (d:Int):rpL L d=w0I ds B d:=by
 unfold rpL w0I;by_cases q:d∈ds
 .rw [if_pos q,if_pos ((h.r.mv d).2 q)];obtain ⟨h1,h2,h3,h4⟩:=h.at he d;have:=(l1Z h1 (by simp_all [e0y,i0L]) (h.r.bk d)).1;simp_all [c0H]
 .rw [if_neg q,if_neg (fun w=>q ((h.r.mv d).1 w))]
theorem Cpi.net (h:Cpi pr ds cd B L k) (he:c0u pr=0) (d:Int) (p c:BA): -4503599627370496<=e0a (b0U L d).R p c/\e0a (b0U L d).R p c<=4503599627370496:=by
 rw [(h.r.bk d).net];exact l1Y (h.at he d).1 (by simp) p c
end
end
section
attribute [local irreducible] sortI
attribute [local irreducible] seq ByteArray.extract
abbrev rbC (ro:Bool) (a m:Nat) (s:Bks):Option HB:=some (.one ro (.cells [.sl 2 0 0 s.np,.str s.cur,.sl 3 0 0 m,.i s.cut,.i s.days,.sl a 0 0 s.na,.ptr 5 0 0 0,.ptr 9 0 0 0,.i s.last]))
abbrev q1b (e f:Nat) (lg:Lg):a0k:= [(5,rlC false 6 e lg),(e,rlE false f lg),(f,d0b false lg)]
abbrev p1a (h1 h2 h3 h4 np:Nat) (cut:Int) (L:List Rc):a0k:= [(9,o1X false 10 11 h1 np L.length cut),(h1,rgP false h2 L.length),(h2,fmB false L.length (g6 L h3)),(h3,fmB false L.length (g7q 11 L h4 np)),(h4,fmB false L.length (g8 L))]
abbrev q1N (a e f h1 h2 h3 h4 m:Nat) (s:Bks) (L:List Rc):a0k:=
 (1,rbC false a m s)::(a,some (.one false (auB s.na s.au)))::(6,rlA false s.lg)::(10,rcC false 3 m)::(11,cyP false s.np s.pr)::(q1b e f s.lg++p1a h1 h2 h3 h4 s.np s.cut L)
abbrev x0U (m:Nat) (H:List Int) (s:Bks) (L:List Rc):a0k:=(3,inB m H)::q1N 4 7 8 12 13 14 15 m s L
abbrev x0V (m:Nat) (s:Bks) (L:List Rc):a0k:=q1N 16 17 18 19 20 21 22 m s L
theorem m1l {h1 h2 h3 h4 np:Nat} {cut:Int} {L:List Rc}:c0x (p1a h1 h2 h3 h4 np cut L):=a0b (a0b (a0r (a0r (a0r a0c))))
theorem v0C {e f h1 h2 h3 h4 np:Nat} {cut:Int} {lg:Lg} {L:List Rc}:c0x (q1b e f lg++p1a h1 h2 h3 h4 np cut L):=a0b (a0b (a0r m1l))
theorem a0X {a e f h1 h2 h3 h4 m:Nat} {s:Bks} {L:List Rc}:c0x (q1N a e f h1 h2 h3 h4 m s L):=a0b (a0b (a0b (a0b (a0b v0C))))
structure RbI (m:Nat) (H:List Int) (s:Bks) (L:List Rc) (k:Nat):Prop where
 ok:BkOk s
 hm:H.length=m
 m4:m<=100000
 hs:s.hs=ddS H
 ci:Cpi s.pr s.ds s.cd s.B L k
 po:∀e∈s.lg.ent,poM e.ps
 dg:s.lg.dig=a1f s.lg.ent
theorem v0D (s:Lg):FC prog 5 181 [.ptr 1 0 0 0] [(1,rlC true 2 3 s)] (a0g (.sl 3 0 0 s.ne) [] 5):=by
 let l:=[0,1,2,3,4];exact Wx func181
theorem j0n (m:Nat) (s:Bks) (h:BkOk s) (id:BA):FC prog 16 137 [.ptr 1 0 0 0,.str id] [(1,rbC true 4 m s),(4,some (.one true (auB s.na s.au)))] (a0g (.i (if s.pl id<s.na then (s.pl id:Int) else-1)) [] 16):=by
 have hna:=h.na;have h256:=h.n256;have hl:s.aid.length=s.na:=by show (s.au.map Au.id).length=_;rw [f1R,hna]
 refine fEx func137 ?_;repeat' ((conv=>whnf);first|refine a0a ?_|(apply bRx<;>intro h<;>try exact aX))
 all_goals (conv=>whnf)
 refine a0h (fun k:Nat=>⟨[(0,.ptr 1 0 0 0),(1,.str id),(5,.i k)],[(1,rbC true 4 m s),(4,some (.one true (auB s.na s.au)))],16⟩) (fun k=>k<=s.na/\∀j,j<k->¬s.aid.getD j ⟨#[]⟩=id) (fun k=>s.na-k) 0 [0,1,2,3,4,5,6,7,8,9,10,11,12,13,14,15] [] wHx ⟨b1f _,fun j hj=>absurd hj (p1R _)⟩ ?_;rintro k ⟨hk,hlo⟩;by_cases hk2:k<s.na
 .by_cases he:s.aid.getD k ⟨#[]⟩=id
  .have e:s.pl id=k:=h0H (k:=k) oM he hlo;rw [e,if_pos hk2];have he':(s.au.map Au.id).getD ((k:Int).toNat+0) ⟨#[]⟩=id:=he;let l:=xAa;exact Vx
  .have he':¬(s.au.map Au.id).getD ((k:Int).toNat+0) ⟨#[]⟩=id:=he;repeat' ((conv=>whnf);first|refine a0a ?_|(apply bRx<;>intro h<;>try exact aX))
   all_goals (conv=>whnf)
   all_goals first
    |exact aX
    |(exfalso;exact he h)
    |exact ⟨k+1,xAa,[],⟨hk2,fun j hj=>by
      by_cases q:j=k
      .rw [q];exact he
      .exact hlo j oM⟩,(show s.na-(k+1)<s.na-k by omega),⟨rfl,⟨rfl,rfl,sI (a0j oM),trivial⟩,rX⟩⟩
 .have e:k=s.na:=oM
  have hin:¬s.pl id<s.na:=fun q=>hlo (s.pl id) oM (d0Y s.aid (by rw [hl];exact q))
  rw [if_neg hin];let l:=xAa;exact Vx
def roE (s:Bks) (id:BA):Int:=if inL id s.lg.ids then 15 else if 512<=s.lg.ne then 12 else 0
theorem r0a (m:Nat) (s:Bks) (h:BkOk s) (id:BA):FC prog 16 140 [.ptr 1 0 0 0,.str id] [(1,rbC true 4 m s),(5,rlC true 6 7 s.lg),(7,rlE true 8 s.lg)] (a0g (.i (roE s id)) [] 16):=by
 have c1:=t0a s.lg h.lg id;have c2:=v0D s.lg;unfold roE;by_cases hi:inL id s.lg.ids
 .rw [if_pos hi,decide_eq_true hi] at c1;rw [if_pos hi];let l:=[0,5,6,7,8];let R:=xAa;exact Wx func140
 .rw [if_neg hi,decide_eq_false hi] at c1;rw [if_neg hi];by_cases h5:512<=s.lg.ne
  .rw [if_pos h5];let l:=[0,5,6,7,8];let R:=xAa;exact Wx func140
  .rw [if_neg h5];let l:=[0,5,6,7,8];let R:=xAa;exact Wx func140
abbrev owH (m:Nat) (H:List Int) (s:Bks) (L:List Rc):a0k:=(1,rbC true 4 m s)::(3,inB m H)::(6,rlA true s.lg)::(10,rcC true 3 m)::(11,cyP true s.np s.pr)::(q1b 7 8 s.lg++p1a 12 13 14 15 s.np s.cut L)
abbrev r1o (lg:Lg) (np:Nat) (cut:Int) (L:List Rc):a0k:=q1b 16 17 lg++p1a 18 19 20 21 np cut L
section
variable (m:Nat) (H:List Int) (s:Bks) (L:List Rc) (k:Nat) (h:RbI m H s L k) (hk:k<=4000) (o:Bop)
include h hk
theorem j1r (t:Int) (f g:BA) (n:Int):Cpi s.pr s.ds s.cd s.B L k/\FC prog 9 182 [.ptr 1 0 0 0,.i t,.str f,.str g,.agg [.i n,.str s.cur]] (p1Z s.np L.length m s.cut H L s.pr) (a0g (.tup [.i (if owX s t f g n=0 then bkD s t else 0),.i (owX s t f g n)]) (rgH 9 10 11 12 s.np (t0H L s.pr s.np (bkD s t) f g s.cur n).length s.cut (t0H L s.pr s.np (bkD s t) f g s.cur n)) 13):=by
 have hci:=h.ci;have hlen:=hci.r.len;have he:=h.ok.err;have hnp:=(i0L he).1;have hp:=h.ok.np;have hsz2:∀k,(s.pr.getD k ⟨#[]⟩).size<=9223372036854775807:=fun k=>by
  by_cases hk:k<s.pr.length
  .grind [g0o,i0L]
  .rw [List.getD,a1X oM];trivial
 have c2:=h1H (np:=s.np) (rfl:L.length=L.length) oM hci.r.nd h.hm h.m4 hp he hsz2 oM (fun d=>by have:=hci.r.rl d;omega) (fun d=>hci.net he d) s.cut t f g s.cur n;rw [hci.D] at c2;have hD:mvD H s.cd (ofI H s.cut t)=bkD s t:=by
  unfold bkD;rw [h.hs,o1F,o1Z]
 rw [hD] at c2;have hX:=hci.X he s.hs (bkD s t) f g s.cur n;rw [hp] at hX;unfold o1S at c2;rw [hX] at c2;exact ⟨hci,c2⟩
theorem k0c (f g:BA) (n:Int) (hx:owX s o.t f g n≠0):∃L',Cpi s.pr s.ds s.cd s.B L' (k+1)/\FC prog 16 141 [.ptr 1 0 0 0,o.s,.str f,.str g,.i n] (owH m H s L) (a0g (.i (owX s o.t f g n)) (r1o s.lg s.np s.cut L') 22):=by
 obtain ⟨hci,c1⟩:=j1r m H s L k h hk o.t f g n;have hN:=hci.move_no h.ok.err s.hs (bkD s o.t) f g s.cur n hx;rw [h.ok.np] at hN;refine ⟨_,hN,?_⟩;clear hN hci;generalize t0H L s.pr s.np (bkD s o.t) f g s.cur n=L2 at*;rw [if_neg hx] at c1;generalize owX s o.t f g n=E at*;let l:=xAq;let R:=[0,1,2,3,4,5,6,7,8,9,10,11,12,13,14,15,7,8,18,19,20,21];have w:=@v0C;exact Wx func141
theorem k0d (hc:CkOk o) (hk4:o.k=4\/o.k=5\/o.k=6) (hi:¬inL o.id s.lg.ids) (hf:¬512<=s.lg.ne) (hx:owX s o.t (mtF o) (mtG o) (mtN o)=0):
  ∃L',RbI m H (owS s o) L' (k+1)/\FC prog 16 141 [.ptr 1 0 0 0,o.s,.str (mtF o),.str (mtG o),.i (mtN o)] (owH m H s L) (a0g (.i 0) (r1o (lgP s.lg (enB s o)) s.np s.cut L') 22):=by
 obtain ⟨hci,c1⟩:=j1r m H s L k h hk o.t (mtF o) (mtG o) (mtN o);have hN:=hci.move h.ok.err oM s.hs (bkD s o.t) (mtF o) (mtG o) s.cur (mtN o) hx;rw [h.ok.np] at hN;obtain ⟨hp,hne⟩:=k1W h.ok hc hk4 hi hf hx;obtain ⟨b1,b2,b3⟩:=w0S h.ok.bks h.ok.np h.ok.err (bkD s o.t);obtain ⟨m1,m2,m3,m4,m5,m6⟩:=q0y hx b3 b1.psl;have hb:=m0I hc hk4;obtain ⟨w1,w2,w3⟩:=i0L h.ok.err;have z1:=g0o (w3 _ m3);have z2:=g0o (w3 _ m4);have hpm:poM (enB s o).ps:=by
  intro x hx;simp only [enB,f1I,s1O,or_false] at hx;rcases hx with rfl|rfl<;>dsimp only<;>omega
 refine ⟨_,⟨n1Y h.ok hc hk4 hi hf hx,h.hm,h.m4,h.hs,hN,?_,?_⟩,?_⟩
 .intro e he;rcases k1q.1 (show e∈s.lg.ent++ [enB s o] from he) with he|he
  .exact h.po e he
  .rw [b1h.1 he];exact hpm
 .show chI s.lg.dig (leT (enB s o) (enB s o).np)=a1f (s.lg.ent++ [enB s o]);rw [x0N,h.dg]
 have c3:=d1Q o.t;have c5:=h1p s.lg h.ok.lg h.po o.id (h0R o.t) (enB s o).ps 2 rfl hp hpm;have hneg:i64.wrap (0-mtN o)= -mtN o:=by rw [a0l oM oM];omega
 have hz1:a1c.size+(mtF o).size<=9223372036854775807:=by have:a1c.size=6:=rfl;omega
 have hz2:a1c.size+(mtG o).size<=9223372036854775807:=by have:a1c.size=6:=rfl;omega
 change FC _ _ _ _ _ (a0g _ [(1,rlC false 2 6 (lgP s.lg (enB s o))),(6,rlE false 7 (lgP s.lg (enB s o))),(7,d0b false (lgP s.lg (enB s o)))] _) at c5;unfold enB at c5;dsimp only at c5;change FC _ _ _ _ _ (a0g _ [(1,rlC false 2 6 (lgP s.lg (enB s o))),(6,rlE false 7 (lgP s.lg (enB s o))),(7,d0b false (lgP s.lg (enB s o)))] _) at c5;rw [if_pos hx,hx] at c1;clear hN hci hx m1 m2 m3 m4 m5 m6;generalize lgP s.lg (enB s o)=S' at*;generalize t0H L s.pr s.np (bkD s o.t) (mtF o) (mtG o) s.cur (mtN o)=L2 at*;generalize bkD s o.t=D at*;generalize mtF o=F at*;generalize mtG o=G at*;generalize mtN o=N at*;generalize h0R o.t=dd at*;generalize b1B o.t=ds at*;refine fEx func141 ?_;repeat' ((conv=>whnf);first|refine cOx (l:= xAq) c1 ?_|refine cPx c3 ?_|(rw [hneg])|(refine a0f hz1 ?_)|(refine a0f hz2 ?_)|refine cOx (l:= [0,5,6,7,8,22]) c5 ?_|refine a0a ?_|(apply bRx<;>intro h<;>try exact aX)|exact aX|(exfalso;exact h rfl)|exact rOx [0,1,2,3,4,5,6,7,8,9,10,11,12,13,14,15,23,24,18,19,20,21] v0C)
end
end
section
attribute [local irreducible] sortI
attribute [local irreducible] seq ByteArray.extract lgE
theorem e1q {s:Bks} {o:Bop} (h:BkOk s) (hc:CkOk o):i64.wrap (o.t+i64.wrap (86400*s.days))=n0G s o.t:=by
 have h1:=h.days;have h2:=hc.t;grind [n0G,a0l]
theorem v0E (m:Nat) (s:Bks) (o:Bop) (h:BkOk s) (hc:CkOk o) (hk:o.k=2):FC prog 16 143 [.ptr 1 0 0 0,o.s] [(1,rbC true 4 m s),(4,some (.one false (auB s.na s.au)))] (a0g (.i (e0d s o)) [(4,some (.one false (auB s.na (if e0d s o=0 then (h0s s o).au else s.au))))] 16):=by
 have c0:=j0n m s h o.au;have c2:=d1G (b0S s.au (s.pl o.au)) o.am (max (b0S s.au (s.pl o.au)).unt (n0G s o.t));have hA:w0R s o=e0k (b0S s.au (s.pl o.au)) o.am (max (b0S s.au (s.pl o.au)).unt (n0G s o.t)):=by unfold w0R;rw [if_pos hk]
 have he1:i64.wrap (o.t+i64.wrap (86400*s.days))=n0G s o.t:=e1q h hc;unfold e0d h0s;by_cases hp:s.pl o.au<s.na
 .rw [if_pos hp] at c0;rw [if_pos hp,hA];unfold b0S at c2;try dsimp only at c2
  generalize hN:e0k (b0S s.au (s.pl o.au)) o.am (max (b0S s.au (s.pl o.au)).unt (n0G s o.t))=N at*;unfold b0S at hN;rw [hN] at c2;obtain ⟨a,e⟩:=N;dsimp only at c2⊢;by_cases he:e=0
  .rw [if_pos he];subst he;have hap:=g0l s.na s.au (s.pl o.au) a;refine fEx func143 ?_;repeat' ((conv=>whnf);first|(rw [he1])|refine cOx (l:= xAa) c0 ?_|refine cPx c2 ?_|refine a0a ?_|(apply bRx<;>intro h<;>try exact aX)|exact aX|(exfalso;exact h rfl)|exact a0A (l:= xAa) rfl rfl ⟨congrArg (fun z=>some (HB.one false z)) hap,trivial⟩ (a0b a0c))
  .rw [if_neg he];let l:=xAa;have q0:=he1;exact Wx func143
 .rw [if_neg hp] at c0;rw [if_neg hp,if_neg dC];let l:=xAa;exact Wx func143
theorem v0F (m:Nat) (s:Bks) (o:Bop) (h:BkOk s) (hc:CkOk o) (hk:o.k=3):FC prog 16 143 [.ptr 1 0 0 0,o.s] [(1,rbC true 4 m s),(4,some (.one false (auB s.na s.au)))] (a0g (.i (e0d s o)) [(4,some (.one false (auB s.na (if e0d s o=0 then (h0s s o).au else s.au))))] 16):=by
 have c0:=j0n m s h o.au;have c2:=v0p (b0S s.au (s.pl o.au)) o.am;have hA:w0R s o=((b0v (b0S s.au (s.pl o.au)) o.am).1,(b0v (b0S s.au (s.pl o.au)) o.am).2.2):=by unfold w0R;rw [if_neg oM,if_pos hk]
 unfold e0d h0s;by_cases hp:s.pl o.au<s.na
 .rw [if_pos hp] at c0;rw [if_pos hp,hA];unfold b0S at c2;try dsimp only at c2
  generalize hN:b0v (b0S s.au (s.pl o.au)) o.am=N at*;unfold b0S at hN;rw [hN] at c2;obtain ⟨a,r,e⟩:=N;dsimp only at c2⊢;by_cases he:e=0
  .rw [if_pos he];subst he;have hap:=g0l s.na s.au (s.pl o.au) a;refine fEx func143 ?_;repeat' ((conv=>whnf);first|refine cOx (l:= xAa) c0 ?_|refine cPx c2 ?_|refine a0a ?_|(apply bRx<;>intro h<;>try exact aX)|exact aX|(exfalso;exact h rfl)|exact a0A (l:= xAa) rfl rfl ⟨congrArg (fun z=>some (HB.one false z)) hap,trivial⟩ (a0b a0c))
  .rw [if_neg he];let l:=xAa;exact Wx func143
 .rw [if_neg hp] at c0;rw [if_neg hp,if_neg dC];let l:=xAa;exact Wx func143
theorem v0G (m:Nat) (s:Bks) (o:Bop) (h:BkOk s) (hc:CkOk o) (hk:o.k=7):FC prog 16 143 [.ptr 1 0 0 0,o.s] [(1,rbC true 4 m s),(4,some (.one false (auB s.na s.au)))] (a0g (.i (e0d s o)) [(4,some (.one false (auB s.na (if e0d s o=0 then (h0s s o).au else s.au))))] 16):=by
 have c0:=j0n m s h o.au;have c2:=z0B (b0S s.au (s.pl o.au)) o.t;have hA:w0R s o=((c0p (b0S s.au (s.pl o.au)) o.t).1,(c0p (b0S s.au (s.pl o.au)) o.t).2.2):=by unfold w0R;rw [if_neg oM,if_neg oM]
 unfold e0d h0s;by_cases hp:s.pl o.au<s.na
 .rw [if_pos hp] at c0;rw [if_pos hp,hA];unfold b0S at c2;try dsimp only at c2
  generalize hN:c0p (b0S s.au (s.pl o.au)) o.t=N at*;unfold b0S at hN;rw [hN] at c2;obtain ⟨a,r,e⟩:=N;dsimp only at c2⊢;by_cases he:e=0
  .rw [if_pos he];subst he;have hap:=g0l s.na s.au (s.pl o.au) a;refine fEx func143 ?_;repeat' ((conv=>whnf);first|refine cOx (l:= xAa) c0 ?_|refine cPx c2 ?_|refine a0a ?_|(apply bRx<;>intro h<;>try exact aX)|exact aX|(exfalso;exact h rfl)|exact a0A (l:= xAa) rfl rfl ⟨congrArg (fun z=>some (HB.one false z)) hap,trivial⟩ (a0b a0c))
  .rw [if_neg he];let l:=xAa;exact Wx func143
 .rw [if_neg hp] at c0;rw [if_neg hp,if_neg dC];let l:=xAa;exact Wx func143
theorem e1r (m:Nat) (H:List Int) (s:Bks) (L:List Rc) (k:Nat) (h:RbI m H s L k) (hk:k<=4000) (o:Bop) (hc:CkOk o) (h4:o.k=4):
  ∃L',RbI m H (if mmE s o=0 then mmS s o else s) L' (k+1)/\FC prog 16 139 [.ptr 1 0 0 0,o.s] (x0U m H s L) (a0g (.i (mmE s o)) (x0V m (if mmE s o=0 then mmS s o else s) L') 23):=by
 have c0:=j0n m s h.ok o.au;have c1:=r0a m s h.ok o.id;have hup:RbI m H s L (k+1):=⟨h.ok,h.hm,h.m4,h.hs,h.ci.up (s1f _),h.po,h.dg⟩;unfold mmE;unfold roE at c1;by_cases hi:inL o.id s.lg.ids
 .rw [if_pos hi] at c1;rw [if_pos hi,if_neg dC];refine ⟨L,hup,?_⟩;let l:=xAa;let R:=xAf;have w:=@a0X;exact Wx func139
 rw [if_neg hi] at c1⊢;by_cases hf:512<=s.lg.ne
 .rw [if_pos hf] at c1;rw [if_pos hf,if_neg dC];refine ⟨L,hup,?_⟩;let l:=xAa;let R:=xAf;have w:=@a0X;exact Wx func139
 rw [if_neg hf] at c1⊢;rw [if_pos h4];by_cases hp:s.pl o.au<s.na
 case neg=>
  rw [if_neg hp] at c0;rw [if_neg hp,if_neg dC];refine ⟨L,hup,?_⟩;let l:=xAa;let R:=xAf;have w:=@a0X;exact Wx func139
 rw [if_pos hp] at c0⊢;have c2:=d1H (b0S s.au (s.pl o.au)) o.am o.fi;change a0K _ _ _ (t4 (clA s o)) at c2;by_cases hA:(clA s o).2.2.2=0
 case neg=>
  rw [if_pos hA,if_neg hA];refine ⟨L,hup,?_⟩;unfold b0S at c2;try dsimp only at c2
  generalize clA s o=N at*;obtain ⟨a,r,q,e⟩:=N;dsimp only at c2 hA⊢;let l:=xAa;let R:=xAf;have w:=@a0X;exact Wx func139
 have eA:(if (clA s o).2.2.2≠0 then (clA s o).2.2.2 else owX s o.t (mtF o) (mtG o) (mtN o))=owX s o.t (mtF o) (mtG o) (mtN o):=if_neg (fun e=>e hA);rw [eA];have eF:mtF o=o.is:=by unfold mtF;rw [if_neg oM,if_neg oM]
 have eG:mtG o=o.ac:=by unfold mtG;rw [if_neg oM,if_neg oM]
 have eN:mtN o=o.am-o.fe:=by unfold mtN;rw [if_neg oM]
 have hN:i64.wrap (o.am-o.fe)=mtN o:=by
  have:=m0I hc (Or.inl h4);rw [eN] at this⊢;exact a0l oM oM
 by_cases hx:owX s o.t (mtF o) (mtG o) (mtN o)=0
 .rw [if_pos hx,hx];obtain ⟨L',hR,c3⟩:=k0d m H s L k h hk o hc (Or.inl h4) hi hf hx;refine ⟨L',?_,?_⟩
  .unfold mmS;rw [if_pos h4];exact ⟨e0O hR.ok _ _,hR.hm,hR.m4,hR.hs,hR.ci,hR.po,hR.dg⟩
  have eS:mmS s o= { owS s o with au:=s.au.set (s.pl o.au) (clA s o).1}:=by unfold mmS;rw [if_pos h4]
  rw [eS];rw [eF,eG] at c3;unfold b0S at c2;try dsimp only at c2
  generalize clA s o=N at*;obtain ⟨a,r,q,e⟩:=N;dsimp only at c2 hA⊢;subst hA;have hap:=g0l s.na s.au (s.pl o.au) a;unfold owS;dsimp only;have ha:rlA false s.lg=rlA false (lgP s.lg (enB s o)):=rfl;generalize lgP s.lg (enB s o)=S' at*;clear hR hx;generalize mtN o=N at*;refine fEx func139 ?_;repeat' ((conv=>whnf);first|refine cOx (l:= xAa) c1 ?_|refine cOx (l:= xAa) c0 ?_|refine cPx c2 ?_|(rw [hN])|refine cOx (l:= xAa) c3 ?_|refine a0a ?_|(apply bRx<;>intro h<;>try exact aX)|exact aX|(exfalso;exact h rfl)|exact a0A (l:= xBl) rfl rfl ⟨rfl,congrArg (fun z=>some (HB.one false z)) hap,ha,rX⟩ a0X)
 .rw [if_neg hx];obtain ⟨L',hR,c3⟩:=k0c m H s L k h hk o (mtF o) (mtG o) (mtN o) hx;refine ⟨L',⟨h.ok,h.hm,h.m4,h.hs,hR,h.po,h.dg⟩,?_⟩;rw [eF,eG] at c3 hx⊢;unfold b0S at c2;try dsimp only at c2
  generalize clA s o=N at*;obtain ⟨a,r,q,e⟩:=N;dsimp only at c2 hA⊢;subst hA;clear hR;generalize owX s o.t o.is o.ac (mtN o)=E at*;generalize mtN o=N at*;let l:=xAa;let R:=xBl;have w:=@a0X;have q0:=hN;exact Wx func139
theorem h1K (m:Nat) (H:List Int) (s:Bks) (L:List Rc) (k:Nat) (h:RbI m H s L k) (hk:k<=4000) (o:Bop) (hc:CkOk o) (h1:o.k=1):
  ∃L',RbI m H (if c1u s o=0 then i1R s o else s) L' (k+1)/\FC prog 16 88 [.ptr 1 0 0 0,o.s] (x0U m H s L) (a0g (.i (c1u s o)) (x0V m (if c1u s o=0 then i1R s o else s) L') 23):=by
 have hup:RbI m H s L (k+1):=⟨h.ok,h.hm,h.m4,h.hs,h.ci.up (s1f _),h.po,h.dg⟩;have c0:=j0n m s h.ok o.au;have c2:=l1H o.au s.cur o.am o.t (n0G s o.t);have he1:i64.wrap (o.t+i64.wrap (86400*s.days))=n0G s o.t:=e1q h.ok hc;have h256:=h.ok.n256;have hna:=h.ok.na;have hok:=fun e=>k1Y h.ok hc (o:=o) e
 unfold pfE pfS at hok;rw [if_pos h1,if_pos h1] at hok;unfold c1u i1R at*;by_cases hp:s.pl o.au<s.na
 .rw [if_pos hp] at c0;rw [if_pos hp,if_neg dC];refine ⟨L,hup,?_⟩;let l:=xAa;let R:=xAf;have w:=@a0X;exact Wx func88
 rw [if_neg hp] at c0 hok⊢;by_cases hn:256<=s.na
 .rw [if_pos hn,if_neg dC];refine ⟨L,hup,?_⟩;let l:=xAa;let R:=xAf;have w:=@a0X;exact Wx func88
 rw [if_neg hn] at hok⊢;generalize b1u o.au s.cur o.am o.t (n0G s o.t)=N at*;obtain ⟨a,e⟩:=N;dsimp only at c2 hok⊢;by_cases he:e=0
 .rw [if_pos he];subst he;have hok:=hok rfl;refine ⟨L,⟨hok,h.hm,h.m4,h.hs,h.ci.up (s1f _),h.po,h.dg⟩,?_⟩;have hap:=c1t (s.na+1) s.au a;refine fEx func88 ?_;repeat' ((conv=>whnf);first|(rw [he1])|refine cOx (l:= xAa) c0 ?_|refine cPx c2 ?_|refine a0a ?_|(apply bRx<;>intro h<;>try exact aX)|exact aX|(exfalso;exact h rfl)|exact a0A (l:= [0,1,2,3,4,5,6,7,8,9,10,11,12,13,14,15,19,7,8,12,13,14,15]) rfl rfl ⟨rfl,congrArg (fun z=>some (HB.one false z)) hap,rX⟩ a0X)
 .rw [if_neg he];refine ⟨L,hup,?_⟩;let l:=xAa;let R:=xAf;have w:=@a0X;have q0:=he1;exact Wx func88
theorem h1L (m:Nat) (H:List Int) (s:Bks) (L:List Rc) (k:Nat) (h:RbI m H s L k) (hk:k<=4000) (o:Bop) (hc:CkOk o) (h4:o.k=4):
  ∃L',RbI m H (if mmE s o=0 then mmS s o else s) L' (k+1)/\FC prog 16 88 [.ptr 1 0 0 0,o.s] (x0U m H s L) (a0g (.i (mmE s o)) (x0V m (if mmE s o=0 then mmS s o else s) L') 23):=by
 obtain ⟨L',hR,c1⟩:=e1r m H s L k h hk o hc h4;refine ⟨L',hR,?_⟩;generalize (if mmE s o=0 then mmS s o else s)=S' at*;generalize mmE s o=E at*;let l:=xAa;let R:=xBg;have w:=@a0X;exact Wx func88
theorem e1s (m:Nat) (H:List Int) (s:Bks) (L:List Rc) (k:Nat) (h:RbI m H s L k) (hk:k<=4000) (o:Bop) (hc:CkOk o) (h5:o.k=5\/o.k=6) (hs:o.am<0):
  ∃L',RbI m H (if mmE s o=0 then mmS s o else s) L' (k+1)/\FC prog 16 88 [.ptr 1 0 0 0,o.s] (x0U m H s L) (a0g (.i (mmE s o)) (x0V m (if mmE s o=0 then mmS s o else s) L') 23):=by
 have hup:RbI m H s L (k+1):=⟨h.ok,h.hm,h.m4,h.hs,h.ci.up (s1f _),h.po,h.dg⟩;have c1:=r0a m s h.ok o.id;have h46:o.k=4\/o.k=5\/o.k=6:=oM
 have hmb:=m0I hc h46;have h4:¬o.k=4:=oM
 have h6:o.k=6:=by
  rcases h5 with e|e
  .exfalso;have ha:=hc.a;unfold pmB at ha;rw [e] at ha;simp at ha;omega
  .exact e
 have eF:mtF o=o.is:=by unfold mtF;rw [if_neg oM,if_neg oM]
 have eG:mtG o=o.ac:=by unfold mtG;rw [if_neg oM,if_neg oM]
 have eN:mtN o= -o.am:=by unfold mtN;rw [if_pos h6,if_pos hs]
 have hN:i64.wrap (0-o.am)=mtN o:=by rw [a0l oM oM];omega
 unfold mmE;unfold roE at c1;by_cases hi:inL o.id s.lg.ids
 .rw [if_pos hi] at c1;rw [if_pos hi,if_neg dC];refine ⟨L,hup,?_⟩;let l:=xAa;let R:=xAf;have w:=@a0X;exact Wx func88
 rw [if_neg hi] at c1⊢;by_cases hf:512<=s.lg.ne
 .rw [if_pos hf] at c1;rw [if_pos hf,if_neg dC];refine ⟨L,hup,?_⟩;let l:=xAa;let R:=xAf;have w:=@a0X;exact Wx func88
 rw [if_neg hf] at c1⊢;rw [if_neg h4];by_cases hx:owX s o.t (mtF o) (mtG o) (mtN o)=0
 .rw [if_pos hx,hx];obtain ⟨L',hR,c3⟩:=k0d m H s L k h hk o hc h46 hi hf hx;have eS:mmS s o=owS s o:=by unfold mmS;rw [if_neg h4]
  rw [eS];refine ⟨L',hR,?_⟩;rw [eF,eG] at c3;unfold owS;have ha:rlA false s.lg=rlA false (lgP s.lg (enB s o)):=rfl;generalize lgP s.lg (enB s o)=S' at*;clear hR hx;clear eN hmb;generalize mtN o=N at*;refine fEx func88 ?_;repeat' ((conv=>whnf);first|refine cOx (l:= xAa) c1 ?_|(rw [hN])|refine cOx (l:= xAa) c3 ?_|refine a0a ?_|(apply bRx<;>intro h<;>try exact aX)|exact aX|(exfalso;exact h rfl)|exact a0A (l:= xAr) rfl rfl ⟨rfl,rfl,ha,rX⟩ a0X)
 .rw [if_neg hx];obtain ⟨L',hR,c3⟩:=k0c m H s L k h hk o (mtF o) (mtG o) (mtN o) hx;refine ⟨L',⟨h.ok,h.hm,h.m4,h.hs,hR,h.po,h.dg⟩,?_⟩;rw [eF,eG] at c3 hx⊢;clear hR;generalize owX s o.t o.is o.ac (mtN o)=E at*;clear eN hmb;generalize mtN o=N at*;let l:=xAa;let R:=xAr;have w:=@a0X;have q0:=hN;exact Wx func88
theorem h1M (m:Nat) (H:List Int) (s:Bks) (L:List Rc) (k:Nat) (h:RbI m H s L k) (hk:k<=4000) (o:Bop) (hc:CkOk o) (h5:o.k=5\/o.k=6) (hs:¬o.am<0):
  ∃L',RbI m H (if mmE s o=0 then mmS s o else s) L' (k+1)/\FC prog 16 88 [.ptr 1 0 0 0,o.s] (x0U m H s L) (a0g (.i (mmE s o)) (x0V m (if mmE s o=0 then mmS s o else s) L') 23):=by
 have hup:RbI m H s L (k+1):=⟨h.ok,h.hm,h.m4,h.hs,h.ci.up (s1f _),h.po,h.dg⟩;have c1:=r0a m s h.ok o.id;have h46:o.k=4\/o.k=5\/o.k=6:=oM
 have hmb:=m0I hc h46;have h4:¬o.k=4:=oM
 have hf:=hc.f;have eF:mtF o=o.ac:=by
  unfold mtF;split
  .rfl
  .rw [if_pos oM]
 have eG:mtG o=o.is:=by
  unfold mtG;split
  .rfl
  .rw [if_pos oM]
 have eN:mtN o=o.am-o.fe:=by
  unfold mtN;split
  .rename_i e;rw [if_neg oM] at hf;omega
  .rfl
 have hN:i64.wrap (o.am-o.fe)=mtN o:=by rw [a0l oM oM];omega
 unfold mmE;unfold roE at c1;by_cases hi:inL o.id s.lg.ids
 .rw [if_pos hi] at c1;rw [if_pos hi,if_neg dC];refine ⟨L,hup,?_⟩;let l:=xAa;let R:=xAf;have w:=@a0X;exact Wx func88
 rw [if_neg hi] at c1⊢;by_cases hf:512<=s.lg.ne
 .rw [if_pos hf] at c1;rw [if_pos hf,if_neg dC];refine ⟨L,hup,?_⟩;let l:=xAa;let R:=xAf;have w:=@a0X;exact Wx func88
 rw [if_neg hf] at c1⊢;rw [if_neg h4];by_cases hx:owX s o.t (mtF o) (mtG o) (mtN o)=0
 .rw [if_pos hx,hx];obtain ⟨L',hR,c3⟩:=k0d m H s L k h hk o hc h46 hi hf hx;have eS:mmS s o=owS s o:=by unfold mmS;rw [if_neg h4]
  rw [eS];refine ⟨L',hR,?_⟩;rw [eF,eG] at c3;unfold owS;have ha:rlA false s.lg=rlA false (lgP s.lg (enB s o)):=rfl;generalize lgP s.lg (enB s o)=S' at*;clear hR hx;clear eN hmb;generalize mtN o=N at*;refine fEx func88 ?_;repeat' ((conv=>whnf);first|refine cOx (l:= xAa) c1 ?_|(rw [hN])|refine cOx (l:= xAa) c3 ?_|refine a0a ?_|(apply bRx<;>intro h<;>try exact aX)|exact aX|(exfalso;exact h rfl)|exact a0A (l:= xAr) rfl rfl ⟨rfl,rfl,ha,rX⟩ a0X)
 .rw [if_neg hx];obtain ⟨L',hR,c3⟩:=k0c m H s L k h hk o (mtF o) (mtG o) (mtN o) hx;refine ⟨L',⟨h.ok,h.hm,h.m4,h.hs,hR,h.po,h.dg⟩,?_⟩;rw [eF,eG] at c3 hx⊢;clear hR;generalize owX s o.t o.ac o.is (mtN o)=E at*;clear eN hmb;generalize mtN o=N at*;let l:=xAa;let R:=xAr;have w:=@a0X;have q0:=hN;exact Wx func88
theorem h1N (m:Nat) (H:List Int) (s:Bks) (L:List Rc) (k:Nat) (h:RbI m H s L k) (hk:k<=4000) (o:Bop) (hc:CkOk o) (hn:o.k=2):
  ∃L',RbI m H (if e0d s o=0 then h0s s o else s) L' (k+1)/\FC prog 16 88 [.ptr 1 0 0 0,o.s] (x0U m H s L) (a0g (.i (e0d s o)) (x0V m (if e0d s o=0 then h0s s o else s) L') 23):=by
 have c1:=v0E m s o h.ok hc hn;have hR:RbI m H (if e0d s o=0 then h0s s o else s) L (k+1):=by
  split
  .exact ⟨e0O h.ok _ _,h.hm,h.m4,h.hs,h.ci.up (s1f _),h.po,h.dg⟩
  .exact ⟨h.ok,h.hm,h.m4,h.hs,h.ci.up (s1f _),h.po,h.dg⟩
 refine ⟨L,hR,?_⟩;have e:(if e0d s o=0 then h0s s o else s)= { s with au:=if e0d s o=0 then (h0s s o).au else s.au}:=by
  split<;>rfl
 rw [e];clear hR e;generalize (if e0d s o=0 then (h0s s o).au else s.au)=A' at*;generalize e0d s o=E at*;let l:=xAa;let R:=xAf;have w:=@a0X;exact Wx func88
theorem h1O (m:Nat) (H:List Int) (s:Bks) (L:List Rc) (k:Nat) (h:RbI m H s L k) (hk:k<=4000) (o:Bop) (hc:CkOk o) (hn:o.k=3):
  ∃L',RbI m H (if e0d s o=0 then h0s s o else s) L' (k+1)/\FC prog 16 88 [.ptr 1 0 0 0,o.s] (x0U m H s L) (a0g (.i (e0d s o)) (x0V m (if e0d s o=0 then h0s s o else s) L') 23):=by
 have c1:=v0F m s o h.ok hc hn;have hR:RbI m H (if e0d s o=0 then h0s s o else s) L (k+1):=by
  split
  .exact ⟨e0O h.ok _ _,h.hm,h.m4,h.hs,h.ci.up (s1f _),h.po,h.dg⟩
  .exact ⟨h.ok,h.hm,h.m4,h.hs,h.ci.up (s1f _),h.po,h.dg⟩
 refine ⟨L,hR,?_⟩;have e:(if e0d s o=0 then h0s s o else s)= { s with au:=if e0d s o=0 then (h0s s o).au else s.au}:=by
  split<;>rfl
 rw [e];clear hR e;generalize (if e0d s o=0 then (h0s s o).au else s.au)=A' at*;generalize e0d s o=E at*;let l:=xAa;let R:=xAf;have w:=@a0X;exact Wx func88
theorem h1P (m:Nat) (H:List Int) (s:Bks) (L:List Rc) (k:Nat) (h:RbI m H s L k) (hk:k<=4000) (o:Bop) (hc:CkOk o) (hn:o.k=7):
  ∃L',RbI m H (if e0d s o=0 then h0s s o else s) L' (k+1)/\FC prog 16 88 [.ptr 1 0 0 0,o.s] (x0U m H s L) (a0g (.i (e0d s o)) (x0V m (if e0d s o=0 then h0s s o else s) L') 23):=by
 have c1:=v0G m s o h.ok hc hn;have hR:RbI m H (if e0d s o=0 then h0s s o else s) L (k+1):=by
  split
  .exact ⟨e0O h.ok _ _,h.hm,h.m4,h.hs,h.ci.up (s1f _),h.po,h.dg⟩
  .exact ⟨h.ok,h.hm,h.m4,h.hs,h.ci.up (s1f _),h.po,h.dg⟩
 refine ⟨L,hR,?_⟩;have e:(if e0d s o=0 then h0s s o else s)= { s with au:=if e0d s o=0 then (h0s s o).au else s.au}:=by
  split<;>rfl
 rw [e];clear hR e;generalize (if e0d s o=0 then (h0s s o).au else s.au)=A' at*;generalize e0d s o=E at*;let l:=xAa;let R:=xAf;have w:=@a0X;exact Wx func88
theorem h1Q (m:Nat) (H:List Int) (s:Bks) (L:List Rc) (k:Nat) (h:RbI m H s L k) (hk:k<=4000) (o:Bop) (hc:CkOk o) (h8:o.k=8):
  ∃L',RbI m H (if clE s.hs s.ds s.cd o.am=0 then clS s o else s) L' (k+1)/\FC prog 16 88 [.ptr 1 0 0 0,o.s] (x0U m H s L) (a0g (.i (clE s.hs s.ds s.cd o.am)) (x0V m (if clE s.hs s.ds s.cd o.am=0 then clS s o else s) L') 23):=by
 have hup:RbI m H s L (k+1):=⟨h.ok,h.hm,h.m4,h.hs,h.ci.up (s1f _),h.po,h.dg⟩;have he:=h.ok.err;have hp:=h.ok.np;have hlen:=h.ci.r.len;have hnp:=(i0L he).1;have hrl:=h.ci.r.rl o.am;have hsz2:∀k,(s.pr.getD k ⟨#[]⟩).size<=9223372036854775807:=fun k=>by
  by_cases hk:k<s.pr.length
  .have hm:s.pr.getD k ⟨#[]⟩∈s.pr:=by rw [List.getD,m0b hk];exact k1j hk
   have:=g0o ((i0L he).2.2 _ hm);omega
  .rw [List.getD,a1X oM];exact (by decide:(0:Nat)<=9223372036854775807)
 have c1:=e1n (np:=s.np) (rfl:L.length=L.length) oM h.ci.r.nd h.hm h.m4 hp he hsz2 s.cut o.am oM (h.ci.r.bk o.am).d;unfold q1M at c1;have hE:=h.ci.E H o.am;rw [<-h.hs] at hE;rw [hE] at c1;by_cases h0:clE s.hs s.ds s.cd o.am=0
 .rw [if_pos h0] at c1;rw [if_pos h0,h0];have hok:=k1Y h.ok hc (o:=o) (by unfold pfE;rw [if_neg oM,if_pos h8];exact h0);have eS:pfS s o=clS s o:=by unfold pfS;rw [if_neg oM,if_pos h8]
  rw [eS] at hok;refine ⟨z0O L o.am,⟨hok,h.hm,h.m4,h.hs,h.ci.close o.am,h.po,h.dg⟩,?_⟩;clear hE hok hrl hlen;generalize z0O L o.am=L2 at*;generalize rpL L o.am=R2 at*;let l:=xAq;let R:=xBm;have w:=@a0X;exact Wx func88
 .rw [if_neg h0] at c1;rw [if_neg h0];refine ⟨L,hup,?_⟩;clear hE hrl hlen;generalize clE s.hs s.ds s.cd o.am=E at*;let l:=xAq;let R:=xBm;have w:=@a0X;exact Wx func88
end
section
attribute [local irreducible] sortI
def dgT (L:List Au):Nat->BA
 |0=>⟨#[]⟩
 |k+1=>dgT L k++(auT (b0S L k)++⟨#[59]⟩)
theorem r0b (L:List Au):∀k,(dgT L k).size<=1001*k/\(1<=k->0<(dgT L k).size)
 |0=>⟨m0c _,fun h=>absurd h (by simp)⟩
 |k+1=>by
  have ih:=r0b L k;have h1:=d1J (b0S L k);have h2:(⟨#[59]⟩:BA).size=1:=rfl;simp only [dgT,k1o];omega
def dgI (s:Bks):Int:=chI s.lg.dig (dgT s.au s.na++b0i s.last)
attribute [local irreducible] seq ByteArray.extract
theorem h1R (n:Int):0<(b0i n).size:=by
 grind [b0i,dec,a0m,ByteArray.size,f0h,a0H]
abbrev q1O (s:Bks):a0k:= [(0,some (GB glT)),(1,p1V true 2 s),(2,some (.one true (auB s.na s.au))),(4,some (.one true (.cells (lgF 5 6 7 8 9 s.lg))))]
def dgS (s:Bks):Nat->VS
 |0=>⟨[(0,.ptr 1 0 0 0),(3,.ptr 20 0 0 0),(11,.sl 2 0 0 s.na),(12,.i s.na),(13,.i ((0:Nat):Int))],(20,c1E)::q1O s,21⟩
 |k+1=>⟨[(0,.ptr 1 0 0 0),(3,.ptr 20 0 0 0),(11,.sl 2 0 0 s.na),(12,.i s.na),(13,.i ((k+1:Nat):Int))],(20,k0B 21 (dgT s.au (k+1)).size)::(21,f0I (dgT s.au (k+1)))::q1O s,22⟩
theorem e1t (s:Bks) (h:BkOk s):FC prog 20 21 [.ptr 1 0 0 0] (q1O s) (a0g (.int .u64 (dgI s)) [] 20):=by
 have hn:=h.n256;have hl:=h.last;have c5:=c1K s.lg;have g1:=i0R s.last oM oM;have hd:=a0B s.last oM oM;have hd0:0<(b0i s.last).size:=h1R s.last;have hT:=r0b s.au;refine fEx func21 ?_;repeat' ((conv=>whnf);first|refine a0a ?_|(apply bRx<;>intro h<;>try exact aX))
 all_goals (conv=>whnf)
 refine a0h (dgS s) (fun k=>k<=s.na) (fun k=>s.na-k) 0 [0,1,2,3,4,5,6,7,8,9,10,11,12,13,14,15,16,17,18,19,20] [] wHx (b1f _) ?_;intro k hk;by_cases hk2:k<s.na
 .have c2:=v0q (b0S s.au k);have hz:=d1J (b0S s.au k);have hz1:(⟨#[59]⟩:BA).size=1:=rfl;have hs1:(auT (b0S s.au k)++⟨#[59]⟩).size=(auT (b0S s.au k)).size+1:=by rw [k1o,hz1]
  have hcd:(auT (b0S s.au k)).size+(⟨#[59]⟩:BA).size<=9223372036854775807:=oM
  cases k with
  |zero=>
   have c3:=j0U (auT (b0S s.au 0)++⟨#[59]⟩) oM oM;have hTe:dgT s.au 1=auT (b0S s.au 0)++⟨#[59]⟩:=by simp only [dgT];exact ByteArray.empty_append
   rw [<-hTe] at c3;unfold dgS;repeat' ((conv=>whnf);first|(refine a0f hcd ?_)|refine cGx c2 ?_|refine cOx (l:= [0,20]) c3 ?_|refine a0a ?_|(apply bRx<;>intro h<;>try exact aX)|exact aX|exact ⟨1,[0,1,2,3,4,5,6,7,8,9,10,11,12,13,14,15,16,17,18,19,20,22],[],hk2,(show s.na-1<s.na-0 by omega),⟨rfl,⟨rfl,rfl,rfl,rfl,sI (a0j oM),trivial⟩,⟨rfl,rfl,gwk rfl,rfl,rfl,rfl,trivial⟩⟩⟩)
  |succ k=>
   have hTk:=hT (k+1);have c3:=o0O (dgT s.au (k+1)) (auT (b0S s.au (k+1))++⟨#[59]⟩) oM oM;have hTe:dgT s.au (k+1+1)=dgT s.au (k+1)++(auT (b0S s.au (k+1))++⟨#[59]⟩):=rfl;rw [<-hTe] at c3;unfold dgS;repeat' ((conv=>whnf);first|(refine a0f hcd ?_)|refine cGx c2 ?_|refine cOx (l:= [0,20,21]) c3 ?_|refine a0a ?_|(apply bRx<;>intro h<;>try exact aX)|exact aX|exact ⟨k+1+1,[0,1,2,3,4,5,6,7,8,9,10,11,12,13,14,15,16,17,18,19,20,23],[],hk2,(show s.na-(k+1+1)<s.na-(k+1) by omega),⟨rfl,⟨rfl,rfl,rfl,rfl,sI (a0j oM),trivial⟩,⟨rfl,rfl,gwk rfl,rfl,rfl,rfl,trivial⟩⟩⟩)
 have ek:k=s.na:=oM
 subst ek;have hz:(dgT s.au s.na++b0i s.last).size<=9223372036854775000:=by
  have:=(hT s.na).1;rw [k1o];omega
 have c6:=e0N s.lg.dig (dgT s.au s.na++b0i s.last) hz;have hp:0<(dgT s.au s.na++b0i s.last).size:=by rw [k1o];omega
 have c7:=e0P (dgT s.au s.na++b0i s.last) hp;unfold dgI;generalize hX:chI s.lg.dig (dgT s.au s.na++b0i s.last)=X at*;cases hna:s.na with
 |zero=>
  rw [hna] at c6 c7 hp hz;have e0:dgT s.au 0++b0i s.last=b0i s.last:=ByteArray.empty_append;rw [e0] at c6 c7 hp hz;have c3:=j0U (b0i s.last) hd0 oM;unfold dgS;let l3:=[0,20];let l7:=[0,20,21];have c0:=g1;let l:=[0,4,5,6,7,8,9];let R:=xAd;exact Vx
 |succ k=>
  rw [hna] at c6 c7 hp hz;have hTk:=hT (k+1);have c3:=o0O (dgT s.au (k+1)) (b0i s.last) hd0 oM;unfold dgS;let l3:=[0,20,21];let l7:=[0,20,22];have c1:=g1;let l:=[0,4,5,6,7,8,9];let R:=xAd;exact Vx
end
section
attribute [local irreducible] sortI
attribute [local irreducible] seq ByteArray.extract lgE
theorem z0P (m:Nat) (s:Bks) (h:BkOk s) (hd:s.lg.dig=a1f s.lg.ent):FC prog 16 23 [.ptr 1 0 0 0] [(1,rbC true 4 m s),(4,some (.one true (auB s.na s.au))),(5,rlC true 6 7 s.lg),(7,rlE true 8 s.lg),(8,d0b true s.lg)] (a0g (.int .u64 (dgI s)) [] 16):=by
 have hn:=h.n256;have hl:=h.last;have hT:=r0b s.au;have c5:=z0H s.lg h.lg hd;have c6:=b0T s.last oM oM;have hd:=a0B s.last oM oM;have hz:(dgT s.au s.na++b0i s.last).size<=9223372036854700000:=by
  have:=(hT s.na).1;rw [k1o];omega
 have c7:=t0h s.lg.dig (dgT s.au s.na++b0i s.last) hz;unfold dgI;generalize hX:chI s.lg.dig (dgT s.au s.na++b0i s.last)=X at*;refine fEx func23 ?_;repeat' ((conv=>whnf);first|refine a0a ?_|(apply bRx<;>intro h<;>try exact aX))
 all_goals (conv=>whnf)
 refine a0h (fun k:Nat=>⟨[(0,.ptr 1 0 0 0),(3,.str (dgT s.au k)),(4,.i k)],[(1,rbC true 4 m s),(4,some (.one true (auB s.na s.au))),(5,rlC true 6 7 s.lg),(7,rlE true 8 s.lg),(8,d0b true s.lg)],16⟩) (fun k=>k<=s.na) (fun k=>s.na-k) 0 [0,1,2,3,4,5,6,7,8,9,10,11,12,13,14,15] [] wHx (b1f _) ?_;intro k hk;have hk1:=(hT k).1;by_cases hk2:k<s.na
 .have c2:=z0C (b0S s.au k);have hz:=d1J (b0S s.au k);have hz1:(⟨#[59]⟩:BA).size=1:=rfl;have hTe:dgT s.au (k+1)=(dgT s.au k++auT (b0S s.au k))++⟨#[59]⟩:=by rw [t1O];rfl
  generalize auT (b0S s.au k)=U at*;unfold b0S at c2;try dsimp only at c2
  generalize hT0:dgT s.au k=T at*;generalize hT1:dgT s.au (k+1)=T1 at*;repeat' ((conv=>whnf);first|refine cPx c2 ?_|(refine a0f ?_ ?_;(simp only [k1o,hz1];omega))|refine a0a ?_|(apply bRx<;>intro h<;>try exact aX)|exact aX|(subst hT1;exact ⟨k+1,xAa,[],hk2,(show s.na-(k+1)<s.na-k by omega),⟨rfl,⟨rfl,by rw [hTe];rfl,sI (a0j oM),trivial⟩,rX⟩⟩))
 have ek:k=s.na:=oM
 subst ek;repeat' ((conv=>whnf);first|refine cOx (l:= [0,5,6,7,8]) c5 ?_|refine cPx c6 ?_|refine cPx c7 ?_|(refine a0f ?_ ?_;omega)|refine a0a ?_|(apply bRx<;>intro h<;>try exact aX)|exact aX|exact rOx xAa a0c)
theorem p1b (m:Nat) (H:List Int) (s:Bks) (L:List Rc) (k:Nat) (h:RbI m H s L k) (hk:k<=4000) (o:Bop) (hc:CkOk o):
  ∃L',RbI m H (if pfE s o=0 then pfS s o else s) L' (k+1)/\FC prog 16 88 [.ptr 1 0 0 0,o.s] (x0U m H s L) (a0g (.i (pfE s o)) (x0V m (if pfE s o=0 then pfS s o else s) L') 23):=by
 have h8:=hc.k;by_cases k1:o.k=1
 .have e1:pfE s o=c1u s o:=by simp [pfE,k1]
  have e2:pfS s o=i1R s o:=by simp [pfS,k1]
  rw [e1,e2];exact h1K m H s L k h hk o hc k1
 by_cases k8:o.k=8
 .have e1:pfE s o=clE s.hs s.ds s.cd o.am:=by simp_all [pfE]
  have e2:pfS s o=clS s o:=by simp_all [pfS]
  rw [e1,e2];exact h1Q m H s L k h hk o hc k8
 by_cases k4:o.k=4\/o.k=5\/o.k=6
 .have e1:pfE s o=mmE s o:=by simp_all [pfE]
  have e2:pfS s o=mmS s o:=by simp_all [pfS]
  rw [e1,e2];by_cases q:o.k=4
  .exact h1L m H s L k h hk o hc q
  by_cases hs:o.am<0
  .exact e1s m H s L k h hk o hc oM hs
  .exact h1M m H s L k h hk o hc oM hs
 have e1:pfE s o=e0d s o:=by simp_all [pfE]
 have e2:pfS s o=h0s s o:=by simp_all [pfS]
 rw [e1,e2];rcases (show o.k=2\/o.k=3\/o.k=7 by omega) with q|q|q
 .exact h1N m H s L k h hk o hc q
 .exact h1O m H s L k h hk o hc q
 .exact h1P m H s L k h hk o hc q
theorem p1c (m:Nat) (H:List Int) (s:Bks) (L:List Rc) (k:Nat) (h:RbI m H s L k) (hk:k<=4000) (o:Bop):
  ∃L',RbI m H (doS s o) L' (k+1)/\FC prog 16 43 [.ptr 1 0 0 0,o.s] (x0U m H s L) (a0g (.i (doE s o)) (x0V m (doS s o) L') 23):=by
 have c1:=n0j o;have hup:RbI m H s L (k+1):=⟨h.ok,h.hm,h.m4,h.hs,h.ci.up (s1f _),h.po,h.dg⟩;have hok:=g1u h.ok o;unfold doS at*;by_cases hc:ckE o=0
 case neg=>
  have e1:doE s o=ckE o:=by unfold doE;rw [if_pos hc]
  rw [e1,if_neg hc];refine ⟨L,hup,?_⟩;clear hok;generalize ckE o=E at*;let l:=xAf;have w:=@a0X;exact Wx func43
 have hO:=u0u hc;rw [hc] at c1;by_cases ht:o.t<s.last
 .have e1:doE s o=14:=by unfold doE;rw [if_neg (fun e=>e hc),if_pos ht]
  rw [e1,if_neg dC];refine ⟨L,hup,?_⟩;clear hok;let l:=xAf;have w:=@a0X;exact Wx func43
 have e1:doE s o=pfE s o:=by unfold doE;rw [if_neg (fun e=>e hc),if_neg ht]
 rw [e1] at hok⊢;obtain ⟨L',hR,c2⟩:=p1b m H s L k h hk o hO;by_cases he:pfE s o=0
 .rw [if_pos he] at hok hR c2⊢;rw [he] at c2⊢;refine ⟨L',⟨hok,hR.hm,hR.m4,hR.hs,hR.ci,hR.po,hR.dg⟩,?_⟩;clear hR hok;generalize pfS s o=S' at*;let l:=xAa;let R:=xBg;have w:=@a0X;exact Wx func43
 .rw [if_neg he] at hok hR c2⊢;refine ⟨L',hR,?_⟩;clear hR hok;generalize pfE s o=E at*;let l:=xAa;let R:=xBg;have w:=@a0X;exact Wx func43
theorem m1m (L:List BA) (n:Nat) (hn:L.length=n) (h:a1d L=0):FC prog 2 76 [.sl 1 0 0 n] [(1,some (.one true (.cols n [.sc (.strs L)])))]
  (a0g (.tup [.ptr 2 0 0 0,.i 0]) [(2,rlC false 1 3 (lg0 L)),(3,rlE false 4 (lg0 L)),(4,d0b false (lg0 L))] 5):=by
 have h512:n<=512:=by
  unfold a1d at h;split at h
  .cases h
  .omega
 have e:a1d L=nmE [] L:=by unfold a1d;rw [if_neg oM]
 rw [e] at h;obtain ⟨hd,hl⟩:=c1R L [] h s1Z;rw [s1L] at hd;refine fEx func76 ?_;repeat' ((conv=>whnf);first|refine a0a ?_|(apply bRx<;>intro h<;>try exact aX))
 all_goals (conv=>whnf)
 all_goals first
  |exact aX
  |skip
 refine a0h (fun k:Nat=>⟨[(0,.sl 1 0 0 n),(4,.i k)],[(1,some (.one true (.cols n [.sc (.strs L)])))],2⟩) (fun k=>k<=n) (fun k=>n-k) 0 [0,1] [] wHx (b1f _) ?_;intro k hk;by_cases hk2:k<n
 .have c1:=n0f (L.getD k ⟨#[]⟩);have c2:=j1g L n k hn hk oM (L.getD k ⟨#[]⟩);have hg:L[k]? =some (L.getD k ⟨#[]⟩):=by rw [List.getD,m0b oM];rfl
  rw [hl _ (s1d hg)] at c1;rw [sidx_of_get hd hg,decide_eq_false (s1w _)] at c2;repeat' ((conv=>whnf);first|refine cPx c1 ?_|refine cOx (l:= [0,1]) c2 ?_|refine a0a ?_|(apply bRx<;>intro h<;>try exact aX)|exact ⟨k+1,[0,1],[],hk2,(show n-(k+1)<n-k by omega),⟨rfl,⟨rfl,sI (a0j oM),trivial⟩,rX⟩⟩|exact aX)
 have ek:k=n:=oM
 subst ek;unfold lg0;rw [hn];repeat' ((conv=>whnf);first|refine a0a ?_|(apply bRx<;>intro h<;>try exact aX)|exact aX|exact b0K (l:= [0,1,2,3,4]) [.cell 2 1 [.sc (.strs []),.sc (.ints .i64 []),.svs []],.relab (fun _ _=>none) (fun _=>0) [(3,some (.one false (.cols 0 [.sc (.strs []),.sc (.ints .i64 []),.own 4 []]))),(4+0,some (.fam false (fun x=>x<0) (enF [])))] [] 1] ⟨g0q (n:=4) (a:=3) dC rfl,rfl,rfl,rfl,rfl,rfl,trivial⟩ (a0b (a0b (a0r a0c))))
abbrev rNa (n m:Nat) (cur:BA) (cut days:Int):List SV:= [.agg [.sl 1 0 0 n,.str cur,.sl 2 0 0 m,.i cut,.i days]]
abbrev rNh (n m:Nat) (L:List BA) (H:List Int):a0k:= [(1,some (.one true (.cols n [.sc (.strs L)]))),(2,inB m H)]
theorem z0Q (cur:BA) (days cut:Int) (L:List BA) (n:Nat) (H:List Int) (m:Nat) (hL:L.length=n) (hH:H.length=m) (hm:m<=maxLen) (hsz:∀k,(L.getD k ⟨#[]⟩).size<=9223372036854775807) (he:bkE cur days H m cut L≠0):
  FC prog 3 32 (rNa n m cur cut days) (rNh n m L H) (a0g (.tup [.nptr,.i (bkE cur days H m cut L)]) [] 3):=by
 have c0:=n0h cur;have c1:=d1R H m hm;unfold r3O at c1;have c2:=e1o cut L n hL hsz;unfold q1a at c2;unfold bkE at he⊢;by_cases h1:days<1\/1000<days
 .rw [if_pos h1];let l:=[0,1,2];exact Wx func32
 rw [if_neg h1] at he⊢;by_cases h2:e0c cur=false
 .rw [if_pos h2];rw [h2] at c0;let l:=[0,1,2];exact Wx func32
 rw [if_neg h2] at he⊢;have h2':e0c cur=true:=by simpa using h2
 rw [h2'] at c0;by_cases h3:s0s H m≠0
 .rw [if_pos h3];rw [if_neg h3] at c1;generalize s0s H m=E at*;let l:=[0,2];let R:=[0,1,2];exact Wx func32
 rw [if_neg h3] at he⊢;rw [if_pos oM] at c1;rw [if_neg he] at c2;generalize cnE cut L=E at*;let l2:=[0,4,1];let l:=[0,2];let R:=[0,1,2];exact Wx func32
abbrev rb0 (m:Nat) (cur:BA) (cut days:Int) (L:List BA):a0k:= [(3,some (.one false (.cells [.sl 1 0 0 L.length,.str cur,.sl 2 0 0 m,.i cut,.i days,.sl 4 0 0 0,.ptr 5 0 0 0,.ptr 9 0 0 0,.i 0]))),(4,some (.one false (auB 0 []))),(6,rlA false (lg0 (L.map e0n))),(10,rcC false 2 m),(11,cyP false L.length L),
 (5,rlC false 6 7 (lg0 (L.map e0n))),(7,rlE false 8 (lg0 (L.map e0n))),(8,d0b false (lg0 (L.map e0n))),(9,o1X false 10 11 12 L.length 0 cut),(12,rgP false 13 0),(13,fmB false 0 (g6 [] 14)),(14,fmB false 0 (g7q 11 [] 15 L.length)),(15,fmB false 0 (g8 []))]
abbrev rnS (m:Nat) (cur:BA) (cut days:Int) (L:List BA) (H:List Int) (k:Nat):VS:=
 ⟨[(1,.ptr 3 0 0 0),(6,.ptr 5 0 0 0),(7,.sl 11 0 0 k),(8,.i k)],
  [(1,some (.one true (.cols L.length [.sc (.strs L)]))),(2,inB m H),(3,some (.one false (.cells [.sl 1 0 0 L.length,.str cur,.sl 2 0 0 m,.i cut,.i days]))),(4,rcC false 2 m),(5,o1X false 4 6 7 L.length 0 cut),(6,cyP false L.length L),(7,rgP false 8 0),(8,fmB false 0 (g6 [] 9)),(9,fmB false 0 (g7q 6 [] 10 L.length)),(10,fmB false 0 (g8 [])),
   (11,some (.one false (.cols k [.sc (.strs ((L.take k).map e0n))])))],12⟩
theorem p0r (cur:BA) (days cut:Int) (L:List BA) (H:List Int) (m:Nat) (hH:H.length=m) (hm:m<=maxLen) (he:bkE cur days H m cut L=0):
  FC prog 3 32 (rNa L.length m cur cut days) (rNh L.length m L H) (a0g (.tup [.ptr 3 0 0 0,.i 0]) (rb0 m cur cut days L) 16):=by
 have c0:=n0h cur;have c1:=d1R H m hm;unfold r3O at c1;unfold bkE at he;by_cases h1:days<1\/1000<days
 .rw [if_pos h1] at he;cases he
 rw [if_neg h1] at he;by_cases h2:e0c cur=false
 .rw [if_pos h2] at he;cases he
 rw [if_neg h2] at he;have h2':e0c cur=true:=by simpa using h2
 rw [h2'] at c0;by_cases h3:s0s H m≠0
 .rw [if_pos h3] at he;exact absurd he h3
 rw [if_neg h3] at he;rw [if_pos oM] at c1;have hnw:c0u L=0:=by
  unfold cnE at he;split at he
  .cases he
  .exact he
 obtain ⟨w1,w2,w3⟩:=i0L hnw;have hsz2:∀k,(L.getD k ⟨#[]⟩).size<=9223372036854775807:=fun k=>by
  by_cases hk:k<L.length
  .have hm:L.getD k ⟨#[]⟩∈L:=by rw [List.getD,m0b hk];exact k1j hk
   have:=g0o (w3 _ hm);omega
  .rw [List.getD,a1X oM];exact (by decide:(0:Nat)<=9223372036854775807)
 have c2:=e1o cut L L.length rfl hsz2;unfold q1a at c2;rw [if_pos he] at c2;have c5:=m1m (L.map e0n) L.length (by rw [f1R]) (u0V hnw);unfold rb0;generalize hG0:lg0 (L.map e0n)=G0 at*;refine fEx func32 ?_;repeat' ((conv=>whnf);first|refine cPx c0 ?_|refine cOx (l:= [0,2]) c1 ?_|refine cOx (l:= [0,4,1]) c2 ?_|refine a0a ?_|(apply bRx<;>intro h<;>try exact aX))
 all_goals (conv=>whnf)
 all_goals first
  |exact aX
  |(exfalso;exact h rfl)
  |skip
 refine a0h (rnS m cur cut days L H) (fun k=>k<=L.length) (fun k=>L.length-k) 0 [0,1,2,3,4,5,6,7,8,9,10,11] [.slot 7 [.sc (.strs [])]] wHx (b1f _) ?_;intro k hk;by_cases hk2:k<L.length
 .have hin:L.getD k ⟨#[]⟩∈L:=by rw [List.getD,m0b oM];exact k1j _
  have hz:=g0o (w3 _ hin);have hz1:a1c.size+(L.getD k ⟨#[]⟩).size<=9223372036854775807:=by have:a1c.size=6:=rfl;omega
  have hT:=x0p (L:=L) (k:=k) oM;have hrow:=congrArg (fun z=>some (HB.one false (Blk.cols (k+1) [.sc (.strs z)]))) hT;unfold rnS;repeat' ((conv=>whnf);first|(refine a0f hz1 ?_)|refine a0a ?_|(apply bRx<;>intro h<;>try exact aX)|exact aX|exact ⟨k+1,[0,1,2,3,4,5,6,7,8,9,10,13],[],hk2,(show L.length-(k+1)<L.length-k by omega),⟨rfl,⟨rfl,rfl,rfl,sI (a0j oM),trivial⟩,⟨rfl,rfl,rfl,rfl,rfl,rfl,rfl,rfl,rfl,rfl,hrow,trivial⟩⟩⟩)
 have ek:k=L.length:=oM
 subst ek;unfold rnS;rw [show L.take L.length=L from n1v];have hG1:G0.na=L.length:=by rw [<-hG0];show (L.map e0n).length=_;rw [f1R]
 have hG2:G0.acc=L.map e0n:=by rw [<-hG0];rfl
 have hA:some (HB.one false (Blk.cols L.length [.sc (.strs (L.map e0n))]))=rlA false G0:=by rw [<-hG1,<-hG2]
 repeat' ((conv=>whnf);first|refine cOx (l:= [0,11]) c5 ?_|refine a0a ?_|(apply bRx<;>intro h<;>try exact aX)|exact aX|(exfalso;exact h rfl)|exact b0K (l:= [0,1,2,15,16,12,11,13,14,5,4,6,7,8,9,10]) [.cell 15 5 [.sc (.strs []),.sc (.strs []),.sc (.ints .i64 []),.sc (.ints .i64 []),.sc (.ints .i64 []),.sc (.ints .i64 []),.sc (.ints .i64 []),.sc (.ints .i64 []),.sc (.ints .i64 []),.sc (.ints .i64 [])]] ⟨rfl,rfl,rfl,rfl,hA,rX⟩ (a0b (a0b (a0b (a0b (a0b (a0b (a0b (a0r (a0b (a0b (a0r (a0r (a0r a0c))))))))))))))
end
section
attribute [local irreducible] sortI
attribute [local irreducible] seq ByteArray.extract a0y b0Z
abbrev rbN (b m:Nat) (s:Bks) (L:List Rc):a0k:= [(b,some (.one false (.cells [.sl 1 0 0 s.np,.str s.cur,.sl 2 0 0 m,.i s.cut,.i s.days,.sl (b+1) 0 0 s.na,.ptr (b+2) 0 0 0,.ptr (b+6) 0 0 0,.i s.last]))),(b+1,some (.one false (auB s.na s.au))),(b+3,rlA false s.lg),(b+7,rcC false 2 m),(b+8,cyP false s.np s.pr),
 (b+2,rlC false (b+3) (b+4) s.lg),(b+4,rlE false (b+5) s.lg),(b+5,d0b false s.lg),(b+6,o1X false (b+7) (b+8) (b+9) s.np L.length s.cut),(b+9,rgP false (b+10) L.length),(b+10,fmB false L.length (g6 L (b+11))),(b+11,fmB false L.length (g7q (b+8) L (b+12) s.np)),(b+12,fmB false L.length (g8 L))]
theorem e1u {b m:Nat} {s:Bks} {L:List Rc}:c0x (rbN b m s L):=a0b (a0b (a0b (a0b (a0b (a0b (a0b (a0r (a0b (a0b (a0r (a0r (a0r a0c))))))))))))
theorem p1d (m:Nat) (cur:BA) (cut days:Int) (L:List BA) (H:List Int):rb0 m cur cut days L=rbN 3 m (bk1 cur days H cut L) []:=rfl
theorem r1G {m:Nat} {cur:BA} {cut days:Int} {L:List BA} {H:List Int} (hH:H.length=m) (he:bkE cur days H m cut L=0):RbI m H (bk1 cur days H cut L) [] 0:=by
 have h4:m<=400:=by
  grind [bkE,s0s]
 exact ⟨o0S he,hH,by omega,rfl,m1k L,fun e he=>absurd he (s1O),rfl⟩
theorem e1v (m:Nat) (H:List Int) (s0:Bks) (C0:List Rc) (k0:Nat) (h0:RbI m H s0 C0 k0) (O:Nat->Bop) (s:Nat->Bks) (hs0:s 0=s0):∀n,(∀j,j<n->s (j+1)=doS (s j) (O j))->k0+n<=4000->∃f:Nat->List Rc,f 0=C0/\∀j,j<=n->RbI m H (s j) (f j) (k0+j)/\
  (j<n->FC prog 16 43 [.ptr 1 0 0 0,(O j).s] (x0U m H (s j) (f j)) (a0g (.i (doE (s j) (O j))) (x0V m (s (j+1)) (f (j+1))) 23))
 |0,_,_=>⟨fun _=>C0,rfl,fun j hj=>by
   have:j=0:=oM
   subst this;exact ⟨by simp_all,fun h=>absurd h (s1w _)⟩⟩
 |n+1,hs,hn=>by
  obtain ⟨f,hf0,hf⟩:=e1v m H s0 C0 k0 h0 O s hs0 n (fun j hj=>hs j oM) oM;obtain ⟨C',hR,hF⟩:=p1c m H (s n) (f n) (k0+n) (hf n (m0c _)).1 oM (O n);rw [<-hs n (t1Q n)] at hR hF;refine ⟨fun j=>if j<=n then f j else C',by trivial,fun j hj=> ?_⟩;by_cases q:j=n+1
  .subst q;dsimp only;rw [if_neg oM];exact ⟨hR,fun h=>absurd h (s1w _)⟩
  .have hj2:j<=n:=oM
   dsimp only;rw [if_pos hj2];refine ⟨(hf j hj2).1,fun _=> ?_⟩;by_cases q2:j=n
   .subst q2;rw [if_neg oM];exact hF
   .rw [if_pos oM];exact (hf j hj2).2 oM
def rqO (m:Nat) (s0:Bks) (X:List BA) (C:List Rc):SV->a0k->Nat->Prop:=if rpE s0 X=0 then a0g (.tup [.ptr 4 0 0 0,.i 0]) (rbN 4 m (a0y s0 (X.map deO)) C) 17 else a0g (.tup [.nptr,.i (rpE s0 X)]) [] 4
def rqS (m:Nat) (H:List Int) (s0:Bks) (L X:List BA) (f:Nat->List Rc) (k:Nat):VS:=⟨[(1,.sl 3 0 0 X.length),(6,.ptr 5 0 0 0),(8,.i k)],(1,some (.one true (.cols L.length [.sc (.strs L)])))::(2,inB m H)::(3,some (.one true (.cols X.length [.sc (.strs X)])))::rbN 5 m (a0y s0 ((X.take k).map deO)) (f k),18⟩
theorem p0s (cur:BA) (days cut:Int) (L:List BA) (H:List Int) (m:Nat) (hH:H.length=m) (hm:m<=maxLen) (he:bkE cur days H m cut L=0) (X:List BA) (hX:p1Y X) (hX4:X.length<=4000):
  ∃C,RbI m H (a0y (bk1 cur days H cut L) (X.map deO)) C X.length/\FC prog 4 34 [.agg [.sl 1 0 0 L.length,.str cur,.sl 2 0 0 m,.i cut,.i days],.sl 3 0 0 X.length] [(1,some (.one true (.cols L.length [.sc (.strs L)]))),(2,inB m H),(3,some (.one true (.cols X.length [.sc (.strs X)])))] (rqO m (bk1 cur days H cut L) X C):=by
 have c1:=p0r cur days cut L H m hH hm he;have hI:=r1G hH he;rw [p1d m cur cut days L H] at c1;generalize bk1 cur days H cut L=s0 at*;have h0:s0=a0y s0 ((X.take 0).map deO):=by rw [u1E];unfold a0y;rfl
 obtain ⟨f,hf0,hf⟩:=e1v m H s0 [] 0 hI (fun j=>deO (X.getD j ⟨#[]⟩)) (fun j=>a0y s0 ((X.take j).map deO)) h0.symm X.length (fun j hj=>(j1f s0 X hj).symm) oM;have hf2:∀j,j<=X.length->RbI m H (a0y s0 ((X.take j).map deO)) (f j) j/\(j<X.length->FC prog 16 43 [.ptr 1 0 0 0,(deO (X.getD j ⟨#[]⟩)).s] (x0U m H (a0y s0 ((X.take j).map deO)) (f j)) (a0g (.i (doE (a0y s0 ((X.take j).map deO)) (deO (X.getD j ⟨#[]⟩)))) (x0V m (a0y s0 ((X.take (j+1)).map deO)) (f (j+1))) 23)):=fun j hj=>by
  have key:=hf j hj;rw [i1z] at key;exact key
 clear hf;refine ⟨f X.length,by have:=(hf2 X.length (m0c _)).1;rw [n1v] at this;exact this,?_⟩;rw [h0,<-hf0] at c1;have hX1:=hX.1;refine fEx func34 ?_;repeat' ((conv=>whnf);first|refine cOx (l:= [0,1,2]) c1 ?_|refine a0a ?_|(apply bRx<;>intro h<;>try exact aX))
 all_goals (conv=>whnf)
 all_goals first
  |exact aX
  |(exfalso;exact h rfl)
  |skip
 refine a0h (rqS m H s0 L X f) (fun k=>k<=X.length/\∀j,j<k->deE (X.getD j ⟨#[]⟩)=0/\doE (a0y s0 ((X.take j).map deO)) (deO (X.getD j ⟨#[]⟩))=0) (fun k=>X.length-k) 0 [0,1,2,3,4,5,6,7,8,9,10,11,12,13,14,15,16,17] [] wHx ⟨b1f _,fun j hj=>absurd hj (p1R _)⟩ ?_;rintro k ⟨hk,hall⟩;by_cases hk2:k<X.length
 .have g1:=z0G (X.getD k ⟨#[]⟩) (hX.2 k);have d:=(hf2 k hk).2 hk2;have hE:=o1m X s0 hk2 hall;have hall2:deE (X.getD k ⟨#[]⟩)=0->doE (a0y s0 ((X.take k).map deO)) (deO (X.getD k ⟨#[]⟩))=0->∀j,j<k+1->deE (X.getD j ⟨#[]⟩)=0/\doE (a0y s0 ((X.take j).map deO)) (deO (X.getD j ⟨#[]⟩))=0:=fun a b j hj=>by
   by_cases q:j=k
   .rw [q];exact ⟨a,b⟩
   .exact hall j oM
  unfold rqO;by_cases e1:deE (X.getD k ⟨#[]⟩)=0
  case neg=>
   rw [if_pos e1] at hE;rw [hE,if_neg e1];clear hall hall2 hE d hf2;unfold rqS;generalize deE (X.getD k ⟨#[]⟩)=E at*;generalize a0y s0 ((X.take k).map deO)=s1 at*;generalize deO (X.getD k ⟨#[]⟩)=o at*;have c0:=g1;let l:=[0,1,2,3];exact Vx
  rw [if_neg (fun q=>q e1)] at hE;rw [e1] at g1;by_cases e2:doE (a0y s0 ((X.take k).map deO)) (deO (X.getD k ⟨#[]⟩))=0
  case neg=>
   rw [if_pos e2] at hE;rw [hE,if_neg e2];clear hall hall2 hE hf2;unfold rqS;generalize doE (a0y s0 ((X.take k).map deO)) (deO (X.getD k ⟨#[]⟩))=E at*;generalize a0y s0 ((X.take k).map deO)=s1 at*;generalize a0y s0 ((X.take (k+1)).map deO)=s2 at*;generalize deO (X.getD k ⟨#[]⟩)=o at*;have c2:=g1;have c3:=d;let l:=xBn;let R:=[0,1,2,3];exact Vx
  have hall3:=hall2 e1 e2;rw [e2] at d;clear hE hall2 hf2;unfold rqS;generalize hs2:a0y s0 ((X.take (k+1)).map deO)=s2 at*;generalize hc2:f (k+1)=C2 at*;generalize a0y s0 ((X.take k).map deO)=s1 at*;generalize f k=C1 at*;generalize deO (X.getD k ⟨#[]⟩)=o at*;repeat' ((conv=>whnf);first|refine cPx g1 ?_|refine cOx (l:= xBn) d ?_|refine a0a ?_|(apply bRx<;>intro h<;>try exact aX)|exact aX|(exfalso;exact h rfl)|(subst hs2;subst hc2;exact ⟨k+1,[0,1,2,3,4,5,19,7,8,20,21,11,12,13,22,23,24,25],[],⟨hk2,hall3⟩,(show X.length-(k+1)<X.length-k by omega),⟨rfl,⟨rfl,rfl,sI (a0j oM),trivial⟩,rX⟩⟩))
 have ek:k=X.length:=oM
 subst ek;have hE:=c1Z X s0 hall;unfold rqO;rw [if_pos hE];unfold rqS;rw [n1v];clear hall hE hf2;generalize a0y s0 (X.map deO)=s2 at*;let l:=[0,1,2,3,5,6,7,8,9,10,11,12,13,14,15,16,17];have w:=@e1u;exact Vx
end
section
attribute [local irreducible] seq ByteArray.extract
structure Oq where
 n:Nat
 k:List Int
 t:List Int
 id:List BA
 au:List BA
 is:List BA
 ac:List BA
 am:List Int
 fe:List Int
 fi:List Bool
abbrev Oq.b (Q:Oq):Blk:= .cols Q.n [.sc (.ints .i64 Q.k),.sc (.ints .i64 Q.t),.sc (.strs Q.id),.sc (.strs Q.au),.sc (.strs Q.is),.sc (.strs Q.ac),.sc (.ints .i64 Q.am),.sc (.ints .i64 Q.fe),.sc (.bools Q.fi)]
abbrev Oq.at (Q:Oq) (i:Nat):Bop:=⟨Q.k.getD i 0,Q.t.getD i 0,Q.id.getD i ⟨#[]⟩,Q.au.getD i ⟨#[]⟩,Q.is.getD i ⟨#[]⟩,Q.ac.getD i ⟨#[]⟩,Q.am.getD i 0,Q.fe.getD i 0,Q.fi.getD i false⟩
def Oq.ops (Q:Oq):List Bop:=(List.range Q.n).map Q.at
theorem h0Z (Q:Oq):Q.ops.length=Q.n:=by simp [Oq.ops]
theorem e1w (Q:Oq) {k:Nat} (h:k<Q.n):Q.ops[k]? =some (Q.at k):=by
 unfold Oq.ops;simp_all
theorem m1n {Q:Oq} {o:Bop} (h:o∈Q.ops):∃k,k<Q.n/\Q.at k=o:=by
 simp_all [Oq.ops]
theorem r0c (Q:Oq) {k:Nat} (h:k<Q.n):Q.ops.take (k+1)=Q.ops.take k++ [Q.at k]:=by
 have hk:k<Q.ops.length:=by rw [h0Z];omega
 have e:=e1w Q h;simp_all [t1P]
theorem i0a (Q:Oq):Q.ops.take Q.n=Q.ops:=by rw [<-h0Z Q,n1v]
theorem h1S {s0:Bks} {A:List Bop} {Q:Oq} {k:Nat} (hk:k<Q.n) (h:Ran s0 (A++Q.ops.take k)) (he:doE (a0y s0 (A++Q.ops.take k)) (Q.at k)=0):Ran s0 (A++Q.ops.take (k+1)):=by
 rw [r0c Q hk,<-s1T];exact g1J h he
theorem p0t (s0:Bks) (A:List Bop) {Q:Oq} {k:Nat} (hk:k<Q.n):doS (a0y s0 (A++Q.ops.take k)) (Q.at k)=a0y s0 (A++Q.ops.take (k+1)):=by
 rw [r0c Q hk,<-s1T,m0N]
theorem e1x {s0:Bks} {A:List Bop} (hA:Ran s0 A) (Q:Oq):(Ran s0 (A++Q.ops)/\∀k,k<Q.n->Ran s0 (A++Q.ops.take k)/\doE (a0y s0 (A++Q.ops.take k)) (Q.at k)=0)\/
  ∃i,i<Q.n/\(∀k,k<i->Ran s0 (A++Q.ops.take k)/\doE (a0y s0 (A++Q.ops.take k)) (Q.at k)=0)/\Ran s0 (A++Q.ops.take i)/\doE (a0y s0 (A++Q.ops.take i)) (Q.at i)≠0:=by
 have key:∀n,n<=Q.n->(Ran s0 (A++Q.ops.take n)/\∀k,k<n->Ran s0 (A++Q.ops.take k)/\doE (a0y s0 (A++Q.ops.take k)) (Q.at k)=0)\/
   ∃i,i<Q.n/\(∀k,k<i->Ran s0 (A++Q.ops.take k)/\doE (a0y s0 (A++Q.ops.take k)) (Q.at k)=0)/\Ran s0 (A++Q.ops.take i)/\doE (a0y s0 (A++Q.ops.take i)) (Q.at i)≠0:=by
  intro n;induction n with
  |zero=>simp_all
  |succ n ih=>
   grind [h1S]
 rcases key Q.n (m0c _) with ⟨h1,h2⟩|h
 all_goals simp_all [i0a]
def Oq.txt (Q:Oq) (k:Nat):List BA:=(Q.ops.take k).map b0Z
theorem m1o (Q:Oq) {k:Nat} (h:k<=Q.n):(Q.txt k).length=k:=by
 simp_all [Oq.txt,h0Z]
theorem l0f (Q:Oq) {k:Nat} (h:k<Q.n):Q.txt (k+1)=Q.txt k++ [b0Z (Q.at k)]:=by
 unfold Oq.txt;rw [r0c Q h,n1q];rfl
theorem h0o (Q:Oq):Q.txt 0= []:=rfl
theorem v0H (Q:Oq):Q.txt Q.n=Q.ops.map b0Z:=by unfold Oq.txt;rw [i0a]
theorem v0I (Q:Oq) {k:Nat} (h:k<Q.n):(Q.ops.map b0Z).getD k ⟨#[]⟩=b0Z (Q.at k):=by
 rw [List.getD,f1Q,e1w Q h];rfl
theorem t0x (j:Jr) (d:Dk) (g:List BA) (r:BA) (h:jaE (j.with g) d r=0):jaJ (j.with g) d r=j.with (g++ [r]):=by
 simp_all [Jr.with,x0B]
theorem p1e {j:Jr} {d:Dk} (hj:Jz j) (Q:Oq) (n:Nat) (hn:n<=Q.n) (h:∀k,k<n->jaE (j.with (Q.txt k)) d (b0Z (Q.at k))=0):Gf j d (Q.txt n):=by
 have key:∀k,k<=n->fiO j d (Q.ops.map b0Z) k=Q.txt k:=by
  intro k;induction k with
  |zero=>intro _;rfl
  |succ k ih=>
   intro hk;have ih:=ih oM;have h0:=h k oM;simp only [fiO];rw [q0Q hj,ih,v0I Q oM,if_pos h0,l0f Q oM]
 rw [<-key n (m0c _)];exact o1y hj d _ n
theorem e1y (j:Jr) (d:Dk) (Q:Oq):(∀k,k<Q.n->jaE (j.with (Q.txt k)) d (b0Z (Q.at k))=0)\/
  ∃i,i<Q.n/\(∀k,k<i->jaE (j.with (Q.txt k)) d (b0Z (Q.at k))=0)/\jaE (j.with (Q.txt i)) d (b0Z (Q.at i))≠0:=by
 have key:∀n,n<=Q.n->(∀k,k<n->jaE (j.with (Q.txt k)) d (b0Z (Q.at k))=0)\/
   ∃i,i<Q.n/\(∀k,k<i->jaE (j.with (Q.txt k)) d (b0Z (Q.at k))=0)/\jaE (j.with (Q.txt i)) d (b0Z (Q.at i))≠0:=by
  intro n;induction n with
  |zero=>simp
  |succ n ih=>
   grind
 simp_all
end
section
attribute [local irreducible] sortI
theorem j1s:∀(f:Nat) {s:BA} {acc g:List BA},ucR f s acc=some g->okR acc->okR g
 |0,s,acc,g,h,_=>by cases h
 |f+1,s,acc,g,h,ha=>by
  simp only [ucR] at h;split at h
  .simp_all
  .split at h
   .rename_i hA;split at h
    .refine j1s f h fun r hr=> ?_
     rcases k1q.1 hr with q|q
     .exact ha r q
     .rw [b1h.1 q];have:=hA.2;unfold q0L;rw [r1V];omega
    grind
   grind
theorem p1f {now:List BA}:∀{f n:Nat} {h:Int} {t:BA} {g:List BA} {n':Nat} {h':Int},rdK now f n h t=some (g,n',h')->okR g:=by
 intro f;induction f with
 |zero=>intro n h t g n' h' e;cases e
 |succ f ih=>
  intro n h t g n' h' e;by_cases ho:m0X h (now.getD n ⟨#[]⟩)
  .cases hl:j0b (now.getD n ⟨#[]⟩) with
   |true=>
    rw [j0Y ho hl] at e;cases hu:ucG (t++unP (now.getD n ⟨#[]⟩)) with
    |none=>simp_all
    |some g0=>
     rw [hu] at e;cases e;exact j1s _ hu (fun r hr=>absurd hr s1O)
   |false=>
    grind [j0X]
  simp_all [z0y]
theorem e1z {d:Dk}:∀(f:Nat) {j:Jr},okR j.recs->okR (opK d f j).recs
 |0,j,h=>h
 |f+1,j,h=>by
  simp only [opK];cases hr:nxR j d with
  |none=>omega
  |some r=>
   refine e1z f ?_;obtain ⟨g,n,k⟩:=r;intro x hx;rcases k1q.1 (show x∈j.recs++g from hx) with q|q
   .exact h x q
   .exact p1f hr x q
theorem j1t (d:Dk):okR (opJ d).recs:=e1z _ (fun r hr=>absurd hr s1O)
attribute [local irreducible] seq ByteArray.extract a0y b0Z
structure Su where
 P:List BA
 cur:BA
 H:List Int
 cut:Int
 days:Int
abbrev Su.w (u:Su):Bks:=bk1 u.cur u.days u.H u.cut u.P
abbrev Su.E (u:Su):Int:=bkE u.cur u.days u.H u.H.length u.cut u.P
abbrev Su.a (u:Su) (p h:Nat):List SV:= [.sl p 0 0 u.P.length,.str u.cur,.sl h 0 0 u.H.length,.i u.cut,.i u.days]
abbrev Su.p (ro:Bool) (u:Su):Option HB:=some (.one ro (.cols u.P.length [.sc (.strs u.P)]))
abbrev Su.h (ro:Bool) (u:Su):Option HB:=some (.one ro (.cols u.H.length [.sc (.ints .i64 u.H)]))
theorem Su.ok {u:Su} (h:u.E=0):BkOk u.w:=o0S h
theorem Su.m4 {u:Su} (he:u.E=0):u.H.length<=400:=by
 unfold Su.E bkE at he;grind [s0s]
theorem Su.n4 {u:Su} (he:u.E=0):u.P.length<=16:=(i0L (o0S he).err).1
structure Kq (u:Su) (A:List Bop) (X:List BA):Prop where
 e:u.E=0
 ran:Ran u.w A
 rx:Rx A X
 sz:okR X
 l:A.length<=3000
theorem Kq.tx {u:Su} {A:List Bop} {X:List BA} (h:Kq u A X):p1Y X:=by
 have hl:=h.rx.len;have h1:=h.l;refine ⟨by omega,fun k=> ?_⟩;by_cases q:k<X.length
 .rw [List.getD,m0b q];exact n1r (h.sz _ (k1j q)) (by simp)
 .rw [List.getD,a1X oM];trivial
theorem Kq.rp {u:Su} {A:List Bop} {X:List BA} (h:Kq u A X):rpE u.w X=0:=by
 have hl:=h.rx.len;refine c1Z X u.w fun j hj=> ?_
 obtain ⟨a,b⟩:=h.rx.at (k:=j) oM;refine ⟨a,?_⟩;rw [List.map_take,h.rx.m,b];exact h.ran.ok j oM
theorem Kq.app {u:Su} {A:List Bop} {X:List BA} (h:Kq u A X) (Q:Oq) (hr:Ran u.w (A++Q.ops)) (hl:A.length+Q.n<=3000) (hc:∀o∈Q.ops,ckE o=0):Kq u (A++Q.ops) (X++Q.ops.map b0Z):=by
 refine ⟨h.e,hr,h.rx.app hc,fun r hr=> ?_,by rw [s0c,h0Z];omega⟩;rcases k1q.1 hr with q|q
 .exact h.sz r q
 .grind [b0Z,x0f,c1Q,u0u]
abbrev kqC (u:Su) (hh cnt:Nat) (st:Bool):List SV:=u.a 2 hh++ [.ptr 3 0 0 0,.ptr 22 0 0 0,.i cnt,.bool st]
abbrev jrK (r g:Nat) (j:Jr):List SV:= [.ptr 25 0 0 0,.sl r 0 0 j.nr,.i j.groups,.i j.used,.int .u64 j.head,.sl g 0 0 j.ng,.bool j.stopped]
abbrev dkK (p:Nat) (d:Dk):List SV:= [.sl 26 0 0 d.nn,.sl 27 0 0 d.nn,.sl p 0 0 d.np,.bool d.down,.i d.steps,.int .u64 d.mask]
abbrev r1H (ro:Bool) (r:Nat->Nat) (s:Bks):Option HB:=some (.one ro (.cells [.str s.cur,.i s.days,.sl (r 2) 0 0 s.na,.map (r 3) 0,.ptr (r 4) 0 0 0,.i s.lg.ne,.ptr (r 11) 0 0 0,.i s.last]))
abbrev rK:Nat->Nat:=fun i=>match i with|1=>3|i=>i+28
theorem k0e (u:Su) (s:Bks) (A:List Bop) (j:Jr) (hq:Kq u A j.recs) (hn:j.nr=A.length) (cnt:Nat) (st:Bool):
  FC prog 30 39 [.ptr 1 0 0 0] [(0,some (GB glT)),(1,some (.one true (.cells (kqC u 29 cnt st)))),(2,u.p true),(29,u.h true),(3,r1H false (fun i=>i+2) s),(22,a0P true (jrK 23 24 j)),(23,grB j.nr j.recs)]
   (a0g (.tup []) (e1V rK (a0y u.w A)) 48):=by
 have hl:=hq.rx.len;have hl3:=hq.l;have cR:=o0Z j (by rw [hn,hl]) oM;have cP:=p0a u.cur u.days u.cut u.P u.P.length u.H u.H.length rfl rfl hq.e j.recs hq.tx;unfold rpO at cP;rw [if_pos hq.rp,hq.rx.m] at cP;have hn2:j.nr=j.recs.length:=by rw [hn,hl]
 clear hq;obtain ⟨recs,nr,gr,us,hd,grp,ng,sp⟩:=j;dsimp only at hn2 hl hn cR cP⊢;subst hn2;generalize a0y u.w A=s2 at*;have c0:=cR;let l0:=[0,22,25,26,27,23,24,28];have c1:=cP;let l:=[0,2,29,30];let R:=[0,1,2,3,4,5,6,7,8,9,10,11,12,13,14,15,16,17,18,19,20,21,22,23,24,25,26,27,28,29,32,33,34,35,36,37,38,39,40,41,42,43,44,45,46,47,48,49];have w:=@m0Q;exact Wx func39
theorem z0R (n:Nat) (l:List Int) (hl:l.length=n) (hn:n<=1000000):FC prog 2 116 [.sl 1 0 0 n] [(1,some (.one true (.cols n [.sc (.ints .i64 l)])))] (a0g (.sl 2 0 0 n) [(2,some (.one false (.cols n [.sc (.ints .i64 l)])))] 3):=by
 cases n with
 |zero=>
  obtain rfl:=s1D hl;refine o0E rfl ?_;refine fEx func116 ?_;repeat' (first|(refine And.intro ?_ ?_))
  all_goals first
   |exact c0y (fun _ _ _ h=> .inl h) (rOx [0,1] a0c)
   |exact c0y (fun _ _ _ h=> .inr h) (rOx [0,1,3] (a0b a0c))
   |decide
 |succ n=>
  refine fEx func116 ?_;repeat' (first|refine a0a ?_)
  all_goals (rw [i1z (n+1),j0Z hl];exact rOx [0,1,3] (a0b a0c))
theorem m1p (u:Su) (he:u.E=0):FC prog 3 72 [.agg (u.a 1 2)] [(1,u.p true),(2,u.h true)] (a0g (.agg (u.a 3 4)) [(3,u.p false),(4,u.h false)] 5):=by
 have h1:=Su.m4 he;have h2:=Su.n4 he;have c1:=n0e u.P.length u.P rfl oM;have c2:=z0R u.H.length u.H rfl oM;let l1:=[0,1];let l:=[0,2];let R:=[0,1,2,5,6];exact Wx func72
theorem h1T (u:Su) (cnt:Nat) (st:Bool):FC prog 31 20 [.ptr 1 0 0 0] [(1,some (.one true (.cells (kqC u 30 cnt st))))] (a0g (.ptr 3 0 0 0) [] 31):=by
 let l:=xBo;exact Wx func20
theorem h1U (u:Su) (cnt:Nat) (st:Bool):FC prog 31 18 [.ptr 1 0 0 0] [(1,some (.one true (.cells (kqC u 30 cnt st))))] (a0g (.i cnt) [] 31):=by
 let l:=xBo;exact Wx func18
end
section
attribute [local irreducible] seq ByteArray.extract
theorem e1A {j:Jr} (h:Jz j) (o:List BA):(if (j.with o).stopped=true then j.with o else { j.with o with grp:= [],ng:=0})=j:=by
 rw [if_neg (show¬(j.with o).stopped=true by show¬j.stopped=true;rw [h.st];simp)];exact n0d h
theorem h1V {j:Jr} (h:Jz j) (o:List BA):FC prog 8 41 [.ptr 1 0 0 0] [(1,a0P false (jrC 5 6 (j.with o))),(6,grW (j.with o).ng (j.with o).grp)] (a0g (.tup []) [(1,a0P false (jrC 5 8 j)),(8,grW j.ng j.grp)] 9):=by
 have c:=l1B (j.with o);rw [e1A h] at c;exact c
end
section
attribute [local irreducible] sortI
attribute [local irreducible] seq ByteArray.extract a0y b0Z Oq.ops Oq.txt
abbrev e1X (u:Su) (r:Nat->Nat) (rr rg p:Nat) (cnt:Nat) (st:Bool) (s:Bks) (j:Jr) (d:Dk):a0k:=
 (1,some (.one false (.cells (kqC u 30 cnt st))))::(2,u.p false)::(30,u.h false)::(22,a0P false (jrK rr rg j))::(rr,grW j.nr j.recs)::(rg,grW j.ng j.grp)::
 (25,a0P false (dkK p d))::(26,grW d.nn d.kept)::(27,grW d.nn d.now)::(p,some (.one false (.cols d.np [.sc (.ints .i64 d.pn),.sc (.strs d.ps)])))::e1V r s
abbrev rE:Nat->Nat:=fun i=>match i with|1=>3|i=>i+29
abbrev r1I (u:Su) (cnt:Nat) (s:Bks) (j:Jr) (d:Dk):a0k:=e1X u (fun i=>i+2) 23 24 28 cnt false s j d
abbrev n0w (u:Su) (cnt:Nat) (st:Bool) (s:Bks) (j:Jr) (d:Dk):a0k:=e1X u rE 49 50 51 cnt st s j d
abbrev kqH (u:Su) (cnt:Nat) (s:Bks) (j:Jr) (d:Dk) (Q:Oq):a0k:=(0,some (GB glT))::(29,some (.one true Q.b))::r1I u cnt s j d
abbrev r1p (u:Su) (rg cnt:Nat) (s:Bks) (j:Jr) (d:Dk) (Q:Oq):a0k:=(0,some (GB glT))::(29,some (.one true Q.b))::e1X u rE 23 rg 28 cnt false s j d
theorem g0E {u:Su} {r:Nat->Nat} {rr rg p:Nat} {cnt:Nat} {st:Bool} {s:Bks} {j:Jr} {d:Dk}:c0x (e1X u r rr rg p cnt st s j d):=
 a0b (a0b (a0b (a0b (a0b (a0b (a0b (a0b (a0b (a0b m0Q)))))))))
theorem p1g (u:Su) (cnt:Nat) (s:Bks) (j:Jr) (d:Dk) (Q:Oq) (h:Q.n<1\/16<Q.n):FC prog 31 15 [.ptr 1 0 0 0,.sl 29 0 0 Q.n] (kqH u cnt s j d Q) (a0g (.i 4) (n0w u cnt false s j d) 52):=by
 let l:=xBp;have w:=@g0E;exact Wx func15
def k1S (u:Su) (A:List Bop) (j:Jr) (d:Dk) (Q:Oq) (k:Nat):VS:=⟨[(0,.ptr 1 0 0 0),(1,.sl 29 0 0 Q.n),(27,.sl 29 0 0 Q.n),(28,.i Q.n),(29,.i k)],r1p u 24 A.length (a0y u.w (A++Q.ops.take k)) j d Q,49⟩
theorem l0g (u:Su) (hw:BkOk u.w) (A:List Bop) (j:Jr) (d:Dk) (Q:Oq) (k:Nat) (h16:Q.n<=16) (hk:k<Q.n) (hR:Ran u.w (A++Q.ops.take k)) (he:doE (a0y u.w (A++Q.ops.take k)) (Q.at k)=0) (K:Exit->VS->Prop)
  (hK:∀v,(∃(l:List Nat) (U:List Up),upK U v (fun v=>Weak 31 l v (k1S u A j d Q (k+1))))->K .normal v):
  b0x prog T 31 (lpc Tryz.f15 0) (k1S u A j d Q k) K:=by
 have c:=z0n (a0y u.w (A++Q.ops.take k)) (Q.at k) (u0X hw _);rw [he,p0t u.w A hk] at c;unfold k1S;generalize a0y u.w (A++Q.ops.take k)=s at*;generalize hs2:a0y u.w (A++Q.ops.take (k+1))=s2 at*;repeat' ((conv=>whnf);first|refine cOx (l:= xBh) c ?_|refine a0a ?_|(apply bRx<;>intro h<;>try exact aX)|exact aX|(exfalso;exact h rfl)|(subst hs2;exact hK _ ⟨[0,1,2,3,4,5,6,7,8,9,10,11,12,13,14,15,16,17,18,19,20,21,22,23,24,25,26,27,28,29,30,50,32,33,34,51,36,37,38,52,40,41,42,43,44,45,53,54,55],[],(wEx ⟨rfl,rfl,rfl,rfl,sI (a0j oM),trivial⟩)⟩))
def k2S (u:Su) (A:List Bop) (j:Jr) (d:Dk) (Q:Oq) (k:Nat):VS:=⟨[(0,.ptr 1 0 0 0),(1,.sl 29 0 0 Q.n),(48,.sl 29 0 0 Q.n),(49,.i Q.n),(50,.i k)],r1p u 49 A.length (a0y u.w (A++Q.ops)) (j.with (Q.txt k)) d Q,50⟩
theorem r0d (u:Su) (A:List Bop) (j:Jr) (d:Dk) (Q:Oq) (k:Nat) (h16:Q.n<=16) (hk:k<Q.n) (hc:ckE (Q.at k)=0) (hj:(j.with (Q.txt k)).ok d) (hnn:d.nn<=4096) (he:jaE (j.with (Q.txt k)) d (b0Z (Q.at k))=0) (K:Exit->VS->Prop)
  (hK:∀v,(∃(l:List Nat) (U:List Up),upK U v (fun v=>Weak 31 l v (k2S u A j d Q (k+1))))->K .normal v):
  b0x prog T 31 (lpc Tryz.f15 1) (k2S u A j d Q k) K:=by
 have c1:=g0p (Q.at k) hc;have c2:=s0V (j.with (Q.txt k)) d (b0Z (Q.at k)) hj hnn;rw [t0x _ _ _ _ he,he,<-l0f Q hk] at c2;unfold k2S;generalize hs:a0y u.w (A++Q.ops)=s at*;generalize hj1:j.with (Q.txt k)=j1 at*
 generalize hj2:j.with (Q.txt (k+1))=j2 at*
 repeat' ((conv=>whnf);first|refine cGx c1 ?_|refine cOx (l:= xAs) c2 ?_|refine a0a ?_|(apply bRx<;>intro h<;>try exact aX)|exact aX|(exfalso;exact h rfl)|(subst hs;subst hj1;subst hj2;exact hK _ ⟨[0,1,2,3,4,5,6,7,8,9,10,11,12,13,14,15,16,17,18,19,20,21,22,23,24,25,26,27,28,29,30,31,32,33,34,35,36,37,38,39,40,41,42,43,44,45,46,47,48,51],[],(wEx ⟨rfl,rfl,rfl,rfl,sI (a0j oM),trivial⟩)⟩))
theorem m1q (u:Su) (A:List Bop) (j:Jr) (hq:Kq u A j.recs) (hn:j.nr=A.length) (d:Dk) (Q:Oq) (h1:1<=Q.n) (h16:Q.n<=16) (i:Nat) (hi:i<Q.n) (hall:∀k,k<i->Ran u.w (A++Q.ops.take k)/\doE (a0y u.w (A++Q.ops.take k)) (Q.at k)=0) (he:doE (a0y u.w (A++Q.ops.take i)) (Q.at i)≠0):
  FC prog 31 15 [.ptr 1 0 0 0,.sl 29 0 0 Q.n] (kqH u A.length (a0y u.w (A++Q.ops.take 0)) j d Q)
   (a0g (.i (doE (a0y u.w (A++Q.ops.take i)) (Q.at i))) (n0w u A.length false (if i=0 then a0y u.w (A++Q.ops.take 0) else a0y u.w A) j d) 52):=by
 refine fEx func15 ?_;repeat' ((conv=>whnf);first|refine a0a ?_|(apply bRx<;>intro h<;>try exact aX))
 all_goals (conv=>whnf)
 all_goals first
  |exact aX
  |skip
 refine a0h (k1S u A j d Q) (fun k=>k<=i) (fun k=>i-k) 0 [0,1,2,3,4,5,6,7,8,9,10,11,12,13,14,15,16,17,18,19,20,21,22,23,24,25,26,27,28,29,30,4,5,6,7,8,9,10,11,12,13,14,15,16,17,18,19,20,21] [] wHx (b1f _) ?_;intro k hk;by_cases hk2:k<i
 .exact l0g u (Su.ok hq.e) A j d Q k h16 oM (hall k hk2).1 (hall k hk2).2 _ (fun v ⟨l,U,hw⟩=>⟨k+1,l,U,hk2,by omega,hw⟩)
 have ek:k=i:=oM
 subst ek;have c:=z0n (a0y u.w (A++Q.ops.take k)) (Q.at k) (u0X (Su.ok hq.e) _);rw [q1B he] at c;have c2:=k0e u (a0y u.w (A++Q.ops.take k)) A j hq hn A.length false;unfold k1S;cases k with
 |zero=>
  rw [if_pos rfl];generalize doE (a0y u.w (A++Q.ops.take 0)) (Q.at 0)=E at*;generalize a0y u.w (A++Q.ops.take 0)=s at*;have c0:=c;let l:=xBh;let R:=[0,1,2,3,4,5,6,7,8,9,10,11,12,13,14,15,16,17,18,19,20,21,22,23,24,25,26,27,28,29,30,50,32,33,34,51,36,37,38,52,40,41,42,43,44,45,53,54,55,23,24,28];have w:=@g0E;exact Vx
 |succ k=>
  rw [if_neg (Nat.succ_ne_zero k)];generalize doE (a0y u.w (A++Q.ops.take (k+1))) (Q.at (k+1))=E at*;generalize a0y u.w (A++Q.ops.take (k+1))=s at*;generalize a0y u.w A=s2 at*;have c1:=c;let l1:=xBh;let l:=[0,1,2,3,50,32,33,34,51,36,37,38,52,40,41,42,43,44,45,53,54,55,22,23,24,25,26,27,28,30];let R:=[0,1,2,3,4,5,6,7,8,9,10,11,12,13,14,15,16,17,18,19,20,21,22,23,24,25,26,27,28,29,30,56,57,58,59,60,61,62,63,64,65,66,67,68,69,70,71,72,73,23,24,28];have w:=@g0E;exact Vx
theorem p1h (u:Su) (A:List Bop) (j:Jr) (hq:Kq u A j.recs) (hn:j.nr=A.length) (d:Dk) (Q:Oq) (h1:1<=Q.n) (h16:Q.n<=16) (i:Nat) (hi:i<Q.n) (hall:∀k,k<i->Ran u.w (A++Q.ops.take k)/\doE (a0y u.w (A++Q.ops.take k)) (Q.at k)=0) (he:doE (a0y u.w (A++Q.ops.take i)) (Q.at i)≠0):
  FC prog 31 15 [.ptr 1 0 0 0,.sl 29 0 0 Q.n] (kqH u A.length (a0y u.w A) j d Q) (a0g (.i (doE (a0y u.w (A++Q.ops.take i)) (Q.at i))) (n0w u A.length false (a0y u.w A) j d) 52):=by
 have h:=m1q u A j hq hn d Q h1 h16 i hi hall he;rw [show A++Q.ops.take 0=A by simp,ite_self] at h;exact h
theorem n0x {j:Jr} {d:Dk} (hz:Jz j) (jo:JO d j) (Q:Oq) (n:Nat) (hn:n<=Q.n) (h:∀k,k<n->jaE (j.with (Q.txt k)) d (b0Z (Q.at k))=0):∀k,k<=n->(j.with (Q.txt k)).ok d:=
 fun k hk=>q1H jo (p1e hz Q k oM fun i hi=>h i oM)
theorem m1r (u:Su) (A:List Bop) (j:Jr) (hq:Kq u A j.recs) (hn:j.nr=A.length) (hz:Jz j) (d:Dk) (jo:JO d j) (hd:d.ok) (Q:Oq) (h1:1<=Q.n) (h16:Q.n<=16) (hall:∀k,k<Q.n->Ran u.w (A++Q.ops.take k)/\doE (a0y u.w (A++Q.ops.take k)) (Q.at k)=0) (i:Nat) (hi:i<Q.n) (happ:∀k,k<i->jaE (j.with (Q.txt k)) d (b0Z (Q.at k))=0) (he:jaE (j.with (Q.txt i)) d (b0Z (Q.at i))≠0):
  FC prog 31 15 [.ptr 1 0 0 0,.sl 29 0 0 Q.n] (kqH u A.length (a0y u.w (A++Q.ops.take 0)) (j.with (Q.txt 0)) d Q) (a0g (.i (jaE (j.with (Q.txt i)) d (b0Z (Q.at i)))) (n0w u A.length false (a0y u.w A) j d) 52):=by
 have hnn:=hd.nm;have hok:=n0x hz jo Q i oM happ;refine fEx func15 ?_;repeat' ((conv=>whnf);first|refine a0a ?_|(apply bRx<;>intro h<;>try exact aX))
 all_goals (conv=>whnf)
 all_goals first
  |exact aX
  |skip
 refine a0h (k1S u A (j.with (Q.txt 0)) d Q) (fun k=>k<=Q.n) (fun k=>Q.n-k) 0 [0,1,2,3,4,5,6,7,8,9,10,11,12,13,14,15,16,17,18,19,20,21,22,23,24,25,26,27,28,29,30,4,5,6,7,8,9,10,11,12,13,14,15,16,17,18,19,20,21] [] wHx (b1f _) ?_;intro k hk;by_cases hk2:k<Q.n
 .exact l0g u (Su.ok hq.e) A (j.with (Q.txt 0)) d Q k h16 hk2 (hall k hk2).1 (hall k hk2).2 _ (fun v ⟨l,U,hw⟩=>⟨k+1,l,U,hk2,by omega,hw⟩)
 have ek:k=Q.n:=oM
 subst ek;unfold k1S;rw [i0a];repeat' ((conv=>whnf);first|refine a0a ?_|(apply bRx<;>intro h<;>try exact aX))
 all_goals (conv=>whnf)
 all_goals first
  |exact aX
  |skip
 refine a0h (k2S u A j d Q) (fun k=>k<=i) (fun k=>i-k) 0 [0,1,2,3,4,5,6,7,8,9,10,11,12,13,14,15,16,17,18,19,20,21,22,23,24,25,26,27,28,29,30,31,32,33,34,35,36,37,38,39,40,41,42,43,44,45,46,47,48,24] [] wHx (b1f _) ?_;intro k hk;by_cases hk2:k<i
 .exact r0d u A j d Q k h16 oM (z0l (hall k oM).2) (hok k oM) hnn (happ k hk2) _ (fun v ⟨l,U,hw⟩=>⟨k+1,l,U,hk2,by omega,hw⟩)
 have ek:k=i:=oM
 subst ek;have c1:=g0p (Q.at k) (z0l (hall k hi).2);have c2:=s0V (j.with (Q.txt k)) d (b0Z (Q.at k)) (hok k (m0c _)) hnn;rw [g0u he] at c2;have c3:=h1V hz (Q.txt k);have c4:=k0e u (a0y u.w (A++Q.ops)) A j hq hn A.length false;unfold k2S;generalize jaE (j.with (Q.txt k)) d (b0Z (Q.at k))=E at*;generalize a0y u.w (A++Q.ops)=s at*;generalize a0y u.w A=s2 at*;let l3:=[0,22,25,26,27,23,51,28];let l4:=[0,1,2,3,31,32,33,34,35,36,37,38,39,40,41,42,43,44,45,46,47,48,22,23,52,25,26,27,28,30];let l:=xAs;let R:=[0,1,2,3,4,5,6,7,8,9,10,11,12,13,14,15,16,17,18,19,20,21,22,23,24,25,26,27,28,29,30,53,54,55,56,57,58,59,60,61,62,63,64,65,66,67,68,69,70,23,52,28];have w:=@g0E;exact Vx
theorem p1i (u:Su) (A:List Bop) (j:Jr) (hq:Kq u A j.recs) (hn:j.nr=A.length) (hz:Jz j) (d:Dk) (jo:JO d j) (hd:d.ok) (Q:Oq) (h1:1<=Q.n) (h16:Q.n<=16) (hall:∀k,k<Q.n->Ran u.w (A++Q.ops.take k)/\doE (a0y u.w (A++Q.ops.take k)) (Q.at k)=0) (happ:∀k,k<Q.n->jaE (j.with (Q.txt k)) d (b0Z (Q.at k))=0) (J:Jr) (D:Dk) (E:Int) (hR:cmR (j.with (Q.txt Q.n)) d=(J,D,E)) (he:E≠0) (hj2:Kq u A J.recs) (hn2:J.nr=A.length):
  FC prog 31 15 [.ptr 1 0 0 0,.sl 29 0 0 Q.n] (kqH u A.length (a0y u.w (A++Q.ops.take 0)) (j.with (Q.txt 0)) d Q) (a0g (.i E) (n0w u A.length true (a0y u.w A) J D) 52):=by
 have hnn:=hd.nm;have hok:=n0x hz jo Q Q.n (m0c _) happ;refine fEx func15 ?_;repeat' ((conv=>whnf);first|refine a0a ?_|(apply bRx<;>intro h<;>try exact aX))
 all_goals (conv=>whnf)
 all_goals first
  |exact aX
  |skip
 refine a0h (k1S u A (j.with (Q.txt 0)) d Q) (fun k=>k<=Q.n) (fun k=>Q.n-k) 0 [0,1,2,3,4,5,6,7,8,9,10,11,12,13,14,15,16,17,18,19,20,21,22,23,24,25,26,27,28,29,30,4,5,6,7,8,9,10,11,12,13,14,15,16,17,18,19,20,21] [] wHx (b1f _) ?_;intro k hk;by_cases hk2:k<Q.n
 .exact l0g u (Su.ok hq.e) A (j.with (Q.txt 0)) d Q k h16 hk2 (hall k hk2).1 (hall k hk2).2 _ (fun v ⟨l,U,hw⟩=>⟨k+1,l,U,hk2,by omega,hw⟩)
 have ek:k=Q.n:=oM
 subst ek;unfold k1S;rw [i0a];repeat' ((conv=>whnf);first|refine a0a ?_|(apply bRx<;>intro h<;>try exact aX))
 all_goals (conv=>whnf)
 all_goals first
  |exact aX
  |skip
 refine a0h (k2S u A j d Q) (fun k=>k<=Q.n) (fun k=>Q.n-k) 0 [0,1,2,3,4,5,6,7,8,9,10,11,12,13,14,15,16,17,18,19,20,21,22,23,24,25,26,27,28,29,30,31,32,33,34,35,36,37,38,39,40,41,42,43,44,45,46,47,48,24] [] wHx (b1f _) ?_;intro k hk;by_cases hk2:k<Q.n
 .exact r0d u A j d Q k h16 oM (z0l (hall k oM).2) (hok k oM) hnn (happ k hk2) _ (fun v ⟨l,U,hw⟩=>⟨k+1,l,U,hk2,by omega,hw⟩)
 have ek:k=Q.n:=oM
 subst ek;have c1:=s0Z (j.with (Q.txt Q.n)) d (hok _ (m0c _)) hd;rw [hR] at c1;dsimp only at c1;have c4:=k0e u (a0y u.w (A++Q.ops)) A J hj2 hn2 A.length true;unfold k2S;clear hR hj2 hn2;generalize j.with (Q.txt Q.n)=j1 at*
 generalize a0y u.w (A++Q.ops)=s at*;generalize a0y u.w A=s2 at*;let l4:=[0,1,2,3,31,32,33,34,35,36,37,38,39,40,41,42,43,44,45,46,47,48,22,50,51,25,26,27,52,30];let l:=xAs;let R:=[0,1,2,3,4,5,6,7,8,9,10,11,12,13,14,15,16,17,18,19,20,21,22,23,24,25,26,27,28,29,30,53,54,55,56,57,58,59,60,61,62,63,64,65,66,67,68,69,70,50,51,52];have w:=@g0E;exact Vx
theorem p1j (u:Su) (A:List Bop) (j:Jr) (hq:Kq u A j.recs) (hn:j.nr=A.length) (hz:Jz j) (d:Dk) (jo:JO d j) (hd:d.ok) (Q:Oq) (h1:1<=Q.n) (h16:Q.n<=16) (hall:∀k,k<Q.n->Ran u.w (A++Q.ops.take k)/\doE (a0y u.w (A++Q.ops.take k)) (Q.at k)=0) (happ:∀k,k<Q.n->jaE (j.with (Q.txt k)) d (b0Z (Q.at k))=0) (J:Jr) (D:Dk) (hR:cmR (j.with (Q.txt Q.n)) d=(J,D,0)):
  FC prog 31 15 [.ptr 1 0 0 0,.sl 29 0 0 Q.n] (kqH u A.length (a0y u.w (A++Q.ops.take 0)) (j.with (Q.txt 0)) d Q) (a0g (.i 0) (n0w u (A.length+Q.n) false (a0y u.w (A++Q.ops)) J D) 52):=by
 have hnn:=hd.nm;have hok:=n0x hz jo Q Q.n (m0c _) happ;refine fEx func15 ?_;repeat' ((conv=>whnf);first|refine a0a ?_|(apply bRx<;>intro h<;>try exact aX))
 all_goals (conv=>whnf)
 all_goals first
  |exact aX
  |skip
 refine a0h (k1S u A (j.with (Q.txt 0)) d Q) (fun k=>k<=Q.n) (fun k=>Q.n-k) 0 [0,1,2,3,4,5,6,7,8,9,10,11,12,13,14,15,16,17,18,19,20,21,22,23,24,25,26,27,28,29,30,4,5,6,7,8,9,10,11,12,13,14,15,16,17,18,19,20,21] [] wHx (b1f _) ?_;intro k hk;by_cases hk2:k<Q.n
 .exact l0g u (Su.ok hq.e) A (j.with (Q.txt 0)) d Q k h16 hk2 (hall k hk2).1 (hall k hk2).2 _ (fun v ⟨l,U,hw⟩=>⟨k+1,l,U,hk2,by omega,hw⟩)
 have ek:k=Q.n:=oM
 subst ek;unfold k1S;rw [i0a];repeat' ((conv=>whnf);first|refine a0a ?_|(apply bRx<;>intro h<;>try exact aX))
 all_goals (conv=>whnf)
 all_goals first
  |exact aX
  |skip
 refine a0h (k2S u A j d Q) (fun k=>k<=Q.n) (fun k=>Q.n-k) 0 [0,1,2,3,4,5,6,7,8,9,10,11,12,13,14,15,16,17,18,19,20,21,22,23,24,25,26,27,28,29,30,31,32,33,34,35,36,37,38,39,40,41,42,43,44,45,46,47,48,24] [] wHx (b1f _) ?_;intro k hk;by_cases hk2:k<Q.n
 .exact r0d u A j d Q k h16 oM (z0l (hall k oM).2) (hok k oM) hnn (happ k hk2) _ (fun v ⟨l,U,hw⟩=>⟨k+1,l,U,hk2,by omega,hw⟩)
 have ek:k=Q.n:=oM
 subst ek;have c1:=s0Z (j.with (Q.txt Q.n)) d (hok _ (m0c _)) hd;rw [hR] at c1;dsimp only at c1;have hl3:=hq.l;have hw:i64.wrap ((A.length:Int)+(Q.n:Int))=((A.length+Q.n:Nat):Int):=by rw [a0l oM oM];omega
 unfold k2S;clear hR;generalize j.with (Q.txt Q.n)=j1 at*
 generalize a0y u.w (A++Q.ops)=s at*;repeat' ((conv=>whnf);first|refine cOx (l:= xAs) c1 ?_|refine a0a ?_|(apply bRx<;>intro h<;>try exact aX)|exact aX|(exfalso;exact h rfl)|(rw [hw];exact rOx [0,1,2,3,4,5,6,7,8,9,10,11,12,13,14,15,16,17,18,19,20,21,22,23,24,25,26,27,28,29,30,31,32,33,34,35,36,37,38,39,40,41,42,43,44,45,46,47,48,50,51,52] g0E))
end
section
attribute [local irreducible] seq ByteArray.extract
theorem m1s {D:BA} {c0 c1 c2 c3:Int} (d0:a0d D ((0:Nat):Int)=c0) (d1:a0d D ((1:Nat):Int)=c1) (d2:a0d D ((2:Nat):Int)=c2) (d3:a0d D ((3:Nat):Int)=c3):
  a0R D 4=(((decide (48<=c0/\c0<=57)&&decide (48<=c1/\c1<=57))&&decide (48<=c2/\c2<=57))&&decide (48<=c3/\c3<=57))/\d0z D 4=(c0-48)*1000+(c1-48)*100+(c2-48)*10+(c3-48):=by
 subst d0 d1 d2 d3;refine ⟨by rfl,?_⟩;simp only [d0z];omega
theorem m1t {s:BA} (h:4<=s.size):(nuE s 4=0↔a0R (s.extract 0 4) 4=true)/\(nuE s 4=0->nuV s 4=(a0d s 0-48)*1000+(a0d s 1-48)*100+(a0d s 2-48)*10+(a0d s 3-48)/\(48<=a0d s 0/\a0d s 0<=57)/\(48<=a0d s 1/\a0d s 1<=57)/\(48<=a0d s 2/\a0d s 2<=57)/\48<=a0d s 3/\a0d s 3<=57):=by
 have hd:a0R (s.extract 0 4) 4=a0R s 4:=(h0c (s:=s) (w:=4) h 4 (m0c _)).1;obtain ⟨g1,g2⟩:=m1s (D:=s) (c0:=a0d s 0) (c1:=a0d s 1) (c2:=a0d s 2) (c3:=a0d s 3) rfl rfl rfl rfl;have key:(nuE s 4=0↔a0R s 4=true)/\(nuE s 4=0->nuV s 4=d0z s 4):=by
  grind [j0a]
 simp_all
theorem e1B {s:BA} {i j k:Nat} (h:i+k<=s.size) (hj:j<=k):(s.extract i s.size).extract j k=s.extract (i+j) (i+k):=by
 apply g0r;simp_all
theorem p1k {s:BA} {n:Nat} (h4:4+n<=s.size) (hn:nuV s 4=(n:Int)):q0L s=s.extract 4 (4+n)/\ucT s=s.extract (4+n) s.size:=by
 unfold q0L ucT ucN;rw [hn,u0f];refine ⟨by rw [e1B h4 (b1f _)],?_⟩;rw [f0v oM (m0c _),e1B oM oM,show 4+(s.size-4)=s.size from by omega]
def rcS (s:BA) (acc:List BA):VS:=⟨[(0,.str s),(4,.sl 1 0 0 acc.length)],[(1,grW acc.length acc)],2⟩
theorem p1l (s:BA) (h0:0<s.size) (hs:s.size<=1000000000):FC prog 1 124 [.str s] [] (s0S (ucG s)):=by
 obtain ⟨R,hR⟩:∃R,ucG s=R:=⟨_,rfl⟩;rw [hR];refine fEx func124 ?_;repeat' ((conv=>whnf);first|refine a0a ?_|(apply bRx<;>intro h<;>try exact aX))
 all_goals (conv=>whnf)
 refine a0h (fun x:Nat×BA×List BA=>rcS x.2.1 x.2.2) (ucI R) (fun x=>x.2.1.size) (s.size+1,s,[]) [0,1] [.slot 4 [.sc (.strs [])]] wHx ⟨t1Q _,hR,b1f _,hs,.inl h0⟩ ?_;rintro ⟨f,t,acc⟩ ⟨hf,hr,hl,hz,hp⟩;dsimp only at hf hr hl hz hp⊢;obtain ⟨f,rfl⟩:∃f',f=f'+1:=⟨f-1,by omega⟩;by_cases hz0:t.size=0
 .rw [d1o hz0 oM] at hr;subst hr;have et:t=⟨#[]⟩:=by
   apply g0r;have:t.data.toList.length=0:=by simpa using hz0
   rw [s1D this]
  subst et;repeat' ((conv=>whnf);first|refine a0a ?_|(apply bRx<;>intro h<;>try exact aX)|exact a0A (l:= [0,1]) rfl (congrArg (fun b=>SV.tup [.sl 1 0 0 acc.length,.bool b]) (decide_eq_true oM)) rX (a0b a0c)|exact aX|(exfalso;exact h rfl))
 .have hne:t≠⟨#[]⟩:=by intro e;rw [e] at hz0;exact hz0 rfl
  by_cases h4:t.size<4
  .have ha:¬ucA t:=fun ha=>by have:=(d1m ha.1).2.1;omega
   rw [s0R hz0 ha] at hr;subst hr;let l:=[0];exact Vx
  .obtain ⟨u1,u2⟩:=m1t (s:=t) oM;have c1:=k0z (t.extract 0 4) (by rw [f0v oM oM];omega);rw [f0v oM oM] at c1;by_cases hd:nuE t 4=0
   .obtain ⟨uv,b0,b1,b2,b3⟩:=u2 hd;rw [show a0R (t.extract 0 4) (4-0)=true from u1.1 hd] at c1;have d0:=p0e b0;have d1:=p0e b1;have d2:=p0e b2;have d3:=p0e b3;obtain ⟨n,hn⟩:=r1S (show 0<=nuV t 4 by omega);have hn1:n<=9999:=oM
    have en:i64.wrap (i64.wrap (i64.wrap (i64.wrap (i64.wrap (u8.wrap (a0d t 0-48))*1000)+i64.wrap (i64.wrap (u8.wrap (a0d t 1-48))*100))+i64.wrap (i64.wrap (u8.wrap (a0d t 2-48))*10))+i64.wrap (u8.wrap (a0d t 3-48)))=(n:Int):=by
     rw [d0,d1,d2,d3,d0l (x:=(a0d t 0-48)*1000) oM,d0l (x:=(a0d t 1-48)*100) oM,d0l (x:=(a0d t 2-48)*10) oM,d0l (x:=(a0d t 0-48)*1000+(a0d t 1-48)*100) oM,d0l (x:=(a0d t 0-48)*1000+(a0d t 1-48)*100+(a0d t 2-48)*10) oM,d0l oM];omega
    have e4:i64.wrap (4+(n:Int))=((4+n:Nat):Int):=by rw [d0l oM];omega
    have zN:=k0Y t;have en4:i64.wrap (4+i64.wrap (i64.wrap (i64.wrap (i64.wrap (i64.wrap (u8.wrap (a0d t 0-48))*1000)+i64.wrap (i64.wrap (u8.wrap (a0d t 1-48))*100))+i64.wrap (i64.wrap (u8.wrap (a0d t 2-48))*10))+i64.wrap (u8.wrap (a0d t 3-48))))=((4+n:Nat):Int):=by rw [en,e4]
    have zN:=k0Y t;have kz:(0:Int)<=0/\(0:Int)<=4/\(4:Int)<=(t.size:Int):=oM
    by_cases hok:n<=4000/\4+n<=t.size/\acc.length<256
    .obtain ⟨x1,x2,x3⟩:=hok;obtain ⟨r1,r2⟩:=p1k x2 hn;have zt:=q0M (s:=t);rw [hn,u0f] at zt;have ha:ucA t:=⟨hd,by rw [hn];omega⟩;have hb:ucB t acc.length:=⟨by rw [hn];omega,x3⟩;rw [v0h hz0 ha hb] at hr;have k1:(0:Int)<=4/\(4:Int)<=i64.wrap (4+i64.wrap (i64.wrap (i64.wrap (i64.wrap (i64.wrap (u8.wrap (a0d t 0-48))*1000)+i64.wrap (i64.wrap (u8.wrap (a0d t 1-48))*100))+i64.wrap (i64.wrap (u8.wrap (a0d t 2-48))*10))+i64.wrap (u8.wrap (a0d t 3-48))))/\i64.wrap (4+i64.wrap (i64.wrap (i64.wrap (i64.wrap (i64.wrap (u8.wrap (a0d t 0-48))*1000)+i64.wrap (i64.wrap (u8.wrap (a0d t 1-48))*100))+i64.wrap (i64.wrap (u8.wrap (a0d t 2-48))*10))+i64.wrap (u8.wrap (a0d t 3-48))))<=(t.size:Int):=by rw [en4];omega
     have k2:(0:Int)<=i64.wrap (4+i64.wrap (i64.wrap (i64.wrap (i64.wrap (i64.wrap (u8.wrap (a0d t 0-48))*1000)+i64.wrap (i64.wrap (u8.wrap (a0d t 1-48))*100))+i64.wrap (i64.wrap (u8.wrap (a0d t 2-48))*10))+i64.wrap (u8.wrap (a0d t 3-48))))/\i64.wrap (4+i64.wrap (i64.wrap (i64.wrap (i64.wrap (i64.wrap (u8.wrap (a0d t 0-48))*1000)+i64.wrap (i64.wrap (u8.wrap (a0d t 1-48))*100))+i64.wrap (i64.wrap (u8.wrap (a0d t 2-48))*10))+i64.wrap (u8.wrap (a0d t 3-48))))<=(t.size:Int)/\(t.size:Int)<=(t.size:Int):=by rw [en4];omega
     repeat' ((conv=>whnf);first|refine cPx c1 ?_|(refine a0f kz ?_)|(refine a0f k1 ?_)|(refine a0f k2 ?_)|refine a0a ?_|(apply bRx<;>intro h<;>try exact aX))
     all_goals (conv=>whnf)
     all_goals first
      |exact aX
      |(exfalso;exact hne h)
      |(exfalso;have h':(4000:Int)<i64.wrap (i64.wrap (i64.wrap (i64.wrap (i64.wrap (u8.wrap (a0d t 0-48))*1000)+i64.wrap (i64.wrap (u8.wrap (a0d t 1-48))*100))+i64.wrap (i64.wrap (u8.wrap (a0d t 2-48))*10))+i64.wrap (u8.wrap (a0d t 3-48))):=h;rw [en] at h';omega)
      |(exfalso;have h':(t.size:Int)<i64.wrap (4+i64.wrap (i64.wrap (i64.wrap (i64.wrap (i64.wrap (u8.wrap (a0d t 0-48))*1000)+i64.wrap (i64.wrap (u8.wrap (a0d t 1-48))*100))+i64.wrap (i64.wrap (u8.wrap (a0d t 2-48))*10))+i64.wrap (u8.wrap (a0d t 3-48)))):=h;rw [en4] at h';omega)
      |(exfalso;have h':(256:Int)<=(acc.length:Int):=h;omega)
      |skip
     refine ⟨(f,ucT t,acc++ [q0L t]),[0,3],[],⟨by dsimp only;omega,hr,by rw [s0c];show acc.length+1<=256;omega,by dsimp only;omega,.inr (by rw [s0c];show 0<acc.length+1;omega)⟩,by dsimp only;omega,⟨rfl,⟨?_,?_,trivial⟩,⟨?_,trivial⟩⟩⟩
     .exact congrArg (fun z=>some (SV.str z)) (show t.extract (i64.wrap (4+i64.wrap (i64.wrap (i64.wrap (i64.wrap (i64.wrap (u8.wrap (a0d t 0-48))*1000)+i64.wrap (i64.wrap (u8.wrap (a0d t 1-48))*100))+i64.wrap (i64.wrap (u8.wrap (a0d t 2-48))*10))+i64.wrap (u8.wrap (a0d t 3-48))))).toNat t.size=ucT t by rw [en4,u0f,r2])
     .dsimp only;rw [s0c];rfl
     .dsimp only;rw [s0c];exact congrArg (fun z=>some (HB.one false (.cols (acc.length+1) [.sc (.strs (acc++ [z]))]))) (show t.extract 4 (i64.wrap (4+i64.wrap (i64.wrap (i64.wrap (i64.wrap (i64.wrap (u8.wrap (a0d t 0-48))*1000)+i64.wrap (i64.wrap (u8.wrap (a0d t 1-48))*100))+i64.wrap (i64.wrap (u8.wrap (a0d t 2-48))*10))+i64.wrap (u8.wrap (a0d t 3-48))))).toNat=q0L t by rw [en4,u0f,r1])
    .by_cases x1:n<=4000
     .have hrn:R=none:=by
       rw [d1n hz0 (fun hb=>by
        have b1:=hb.1;have b2:=hb.2;rw [hn] at b1;omega)] at hr
       exact hr.symm
      subst hrn;by_cases x2:4+n<=t.size
      .have x3:256<=acc.length:=oM
       repeat' ((conv=>whnf);first|refine cPx c1 ?_|(refine a0f kz ?_)|((first|apply f0E|apply q0a)<;>intro h<;>try (exfalso;(first|omega|(have h':(4000:Int)<i64.wrap (i64.wrap (i64.wrap (i64.wrap (i64.wrap (u8.wrap (a0d t 0-48))*1000)+i64.wrap (i64.wrap (u8.wrap (a0d t 1-48))*100))+i64.wrap (i64.wrap (u8.wrap (a0d t 2-48))*10))+i64.wrap (u8.wrap (a0d t 3-48))):=h;rw [en] at h';omega)|(have h':¬(4000:Int)<i64.wrap (i64.wrap (i64.wrap (i64.wrap (i64.wrap (u8.wrap (a0d t 0-48))*1000)+i64.wrap (i64.wrap (u8.wrap (a0d t 1-48))*100))+i64.wrap (i64.wrap (u8.wrap (a0d t 2-48))*10))+i64.wrap (u8.wrap (a0d t 3-48))):=h;rw [en] at h';omega)|(have h':(t.size:Int)<i64.wrap (4+i64.wrap (i64.wrap (i64.wrap (i64.wrap (i64.wrap (u8.wrap (a0d t 0-48))*1000)+i64.wrap (i64.wrap (u8.wrap (a0d t 1-48))*100))+i64.wrap (i64.wrap (u8.wrap (a0d t 2-48))*10))+i64.wrap (u8.wrap (a0d t 3-48)))):=h;rw [en4] at h';omega)|(have h':¬(t.size:Int)<i64.wrap (4+i64.wrap (i64.wrap (i64.wrap (i64.wrap (i64.wrap (u8.wrap (a0d t 0-48))*1000)+i64.wrap (i64.wrap (u8.wrap (a0d t 1-48))*100))+i64.wrap (i64.wrap (u8.wrap (a0d t 2-48))*10))+i64.wrap (u8.wrap (a0d t 3-48)))):=h;rw [en4] at h';omega)|(have h':(256:Int)<=(acc.length:Int):=h;omega)|(have h':¬(256:Int)<=(acc.length:Int):=h;omega))))|refine a0a ?_|(apply bRx<;>intro h<;>try exact aX)|exact rOx [0] a0c|exact aX|(exfalso;exact hne h))
      .skip
       repeat' ((conv=>whnf);first|refine cPx c1 ?_|(refine a0f kz ?_)|((first|apply f0E|apply q0a)<;>intro h<;>try (exfalso;(first|omega|(have h':(4000:Int)<i64.wrap (i64.wrap (i64.wrap (i64.wrap (i64.wrap (u8.wrap (a0d t 0-48))*1000)+i64.wrap (i64.wrap (u8.wrap (a0d t 1-48))*100))+i64.wrap (i64.wrap (u8.wrap (a0d t 2-48))*10))+i64.wrap (u8.wrap (a0d t 3-48))):=h;rw [en] at h';omega)|(have h':¬(4000:Int)<i64.wrap (i64.wrap (i64.wrap (i64.wrap (i64.wrap (u8.wrap (a0d t 0-48))*1000)+i64.wrap (i64.wrap (u8.wrap (a0d t 1-48))*100))+i64.wrap (i64.wrap (u8.wrap (a0d t 2-48))*10))+i64.wrap (u8.wrap (a0d t 3-48))):=h;rw [en] at h';omega)|(have h':(t.size:Int)<i64.wrap (4+i64.wrap (i64.wrap (i64.wrap (i64.wrap (i64.wrap (u8.wrap (a0d t 0-48))*1000)+i64.wrap (i64.wrap (u8.wrap (a0d t 1-48))*100))+i64.wrap (i64.wrap (u8.wrap (a0d t 2-48))*10))+i64.wrap (u8.wrap (a0d t 3-48)))):=h;rw [en4] at h';omega)|(have h':¬(t.size:Int)<i64.wrap (4+i64.wrap (i64.wrap (i64.wrap (i64.wrap (i64.wrap (u8.wrap (a0d t 0-48))*1000)+i64.wrap (i64.wrap (u8.wrap (a0d t 1-48))*100))+i64.wrap (i64.wrap (u8.wrap (a0d t 2-48))*10))+i64.wrap (u8.wrap (a0d t 3-48)))):=h;rw [en4] at h';omega)|(have h':(256:Int)<=(acc.length:Int):=h;omega)|(have h':¬(256:Int)<=(acc.length:Int):=h;omega))))|refine a0a ?_|(apply bRx<;>intro h<;>try exact aX)|exact rOx [0] a0c|exact aX|(exfalso;exact hne h))
     .have hrn:R=none:=by
       rw [s0R hz0 (fun ha=>by
        have b2:=ha.2;rw [hn] at b2;omega)] at hr
       exact hr.symm
      subst hrn;repeat' ((conv=>whnf);first|refine cPx c1 ?_|(refine a0f kz ?_)|((first|apply f0E|apply q0a)<;>intro h<;>try (exfalso;(first|omega|(have h':(4000:Int)<i64.wrap (i64.wrap (i64.wrap (i64.wrap (i64.wrap (u8.wrap (a0d t 0-48))*1000)+i64.wrap (i64.wrap (u8.wrap (a0d t 1-48))*100))+i64.wrap (i64.wrap (u8.wrap (a0d t 2-48))*10))+i64.wrap (u8.wrap (a0d t 3-48))):=h;rw [en] at h';omega)|(have h':¬(4000:Int)<i64.wrap (i64.wrap (i64.wrap (i64.wrap (i64.wrap (u8.wrap (a0d t 0-48))*1000)+i64.wrap (i64.wrap (u8.wrap (a0d t 1-48))*100))+i64.wrap (i64.wrap (u8.wrap (a0d t 2-48))*10))+i64.wrap (u8.wrap (a0d t 3-48))):=h;rw [en] at h';omega)|(have h':(t.size:Int)<i64.wrap (4+i64.wrap (i64.wrap (i64.wrap (i64.wrap (i64.wrap (u8.wrap (a0d t 0-48))*1000)+i64.wrap (i64.wrap (u8.wrap (a0d t 1-48))*100))+i64.wrap (i64.wrap (u8.wrap (a0d t 2-48))*10))+i64.wrap (u8.wrap (a0d t 3-48)))):=h;rw [en4] at h';omega)|(have h':¬(t.size:Int)<i64.wrap (4+i64.wrap (i64.wrap (i64.wrap (i64.wrap (i64.wrap (u8.wrap (a0d t 0-48))*1000)+i64.wrap (i64.wrap (u8.wrap (a0d t 1-48))*100))+i64.wrap (i64.wrap (u8.wrap (a0d t 2-48))*10))+i64.wrap (u8.wrap (a0d t 3-48)))):=h;rw [en4] at h';omega)|(have h':(256:Int)<=(acc.length:Int):=h;omega)|(have h':¬(256:Int)<=(acc.length:Int):=h;omega))))|refine a0a ?_|(apply bRx<;>intro h<;>try exact aX)|exact rOx [0] a0c|exact aX|(exfalso;exact hne h))
   .have ha:¬ucA t:=fun ha=>hd ha.1
    rw [s0R hz0 ha] at hr;subst hr;have hf2:a0R (t.extract 0 4) (4-0)=false:=by
     cases h:a0R (t.extract 0 4) (4-0) with
     |false=>rfl
     |true=>exact absurd (u1.2 h) hd
    rw [hf2] at c1;repeat' ((conv=>whnf);first|refine cPx c1 ?_|(refine a0f (show (0:Int)<=0/\(0:Int)<=4/\(4:Int)<=(t.size:Int) from by omega) ?_)|refine a0a ?_|(apply bRx<;>intro h<;>try exact aX)|exact rOx [0] a0c|exact aX|(exfalso;exact hne h))
end
section
theorem n0y {α:Type} (l m:List α) (i:Nat) (d:α) (h:i<l.length):(l++m).getD i d=l.getD i d:=by
 grind
theorem n0z {α:Type} (l:List α) (x:α) (i:Nat) (d:α) (h:i=l.length):(l++ [x]).getD i d=x:=by
 simp_all
theorem n0A (b:Nat->Bool) (pn pn':List Int) (ps ps' l:List BA):∀k,(∀i,i<k->pn.getD i 0=pn'.getD i 0)->(∀i,i<k->ps.getD i ⟨#[]⟩=ps'.getD i ⟨#[]⟩)->
  a0W b pn ps k l=a0W b pn' ps' k l
 |0,_,_=>rfl
 |k+1,h1,h2=>by
  simp only [a0W];rw [n0A b pn pn' ps ps' l k (fun i hi=>h1 i oM) (fun i hi=>h2 i oM),h1 k oM,h2 k oM]
def t0y (d:Dk):Prop:=a0W x0z d.pn d.ps d.np d.kept=d.now
theorem z0S {d:Dk} (h:d.ok) (w:t0y d) (n:Int) (s:BA):t0y (o0Y d n s):=by
 unfold t0y at*;show a0W x0z (d.pn++ [n]) (d.ps++ [s]) (d.np+1) d.kept=d.now.set n.toNat s;simp only [a0W,x0z];rw [n0z _ _ _ _ h.pl.symm,n0z _ _ _ _ h.sl.symm,
  n0A _ (d.pn++ [n]) d.pn (d.ps++ [s]) d.ps d.kept d.np (fun i hi=>n0y _ _ _ _ (by rw [h.pl];omega)) (fun i hi=>n0y _ _ _ _ (by rw [h.sl];omega))]
 simp_all
end
end Go.Proofs.YtmnjebhdclmcfaaGreatDoor
