/- Several texts in one: Cp3. -/
import Derived.Test.YtegbehopnoocnaaGreatDoorP6
import Derived.WalkKit
import Derived.StillTailTactics
set_option linter.unusedVariables false
set_option linter.unusedSimpArgs false
set_option maxRecDepth 100000
namespace Go.Sy
abbrev j1Q:=@Classical.not_not
abbrev j1q:=@List.mem_append_left
abbrev k1E:=@List.filter_sublist
abbrev k1Z:=@List.mem_append_right
abbrev k1g:=@List.takeWhile_cons
abbrev l1y:=@Int.add_zero
end Go.Sy
namespace Go.Proofs.YtegbehopnoocnaaGreatDoor
open Go.RowKit Go.Sy
section
theorem e1G (R:List Px) (p c:ByteArray):∀m k,b1i R p c m k=match (seg k m R).find? (fun x=>decide (x.p=p/\x.c=c)) with|some x=>x.a|none=>0:=by
 intro m;induction m with
 |zero=>intro k;simp [b1i,seg]
 |succ m ih=>
  intro k;by_cases hk:k<R.length
  .have e:seg k (m+1) R=R.getD k px0::seg (k+1) m R:=by
    unfold seg;rw [l1d hk,k1y,List.getD,k0n hk];rfl
   rw [e,List.find?_cons,b1i,ih (k+1)];by_cases g:(R.getD k px0).p=p/\(R.getD k px0).c=c
   .rw [if_pos g,decide_eq_true g]
   .rw [if_neg g,decide_eq_false g]
  .have e1:seg k (m+1) R= []:=by unfold seg;rw [l1M (by omega)];rfl
   have e2:seg (k+1) m R= []:=by unfold seg;rw [l1M (by omega)];exact List.take_nil
   have e3:R.getD k px0=px0:=by rw [List.getD,r0b (by omega)];rfl
   rw [e1,b1i,ih (k+1),e2,e3];split<;>rfl
theorem x0Z (R:List Px) (p c:ByteArray):c0b R p c=match R.find? (fun x=>decide (x.p=p/\x.c=c)) with|some x=>x.a|none=>0:=by
 unfold c0b;rw [e1G];have e:seg 0 R.length R=R:=by unfold seg;rw [k1X,g1y]
 rw [e]
theorem b0W {R:List Px} (hd:g0A R) {x:Px} (hx:x∈R):c0b R x.p x.c=x.a:=by
 rw [x0Z];induction R with
 |nil=>cases hx
 |cons y R ih=>
  rw [List.find?_cons];by_cases g:y.p=x.p/\y.c=x.c
  .rw [decide_eq_true g];rcases a1q.1 hx with e|e
   .rw [e]
   .exact absurd g ((k1Y.1 hd).1 x e)
  .rw [decide_eq_false g];rcases a1q.1 hx with e|e
   .exact absurd ⟨by rw [e],by rw [e]⟩ g
   .exact ih (k1Y.1 hd).2 e
theorem f0z {R:List Px} {p c:ByteArray} (h:∀x∈R,¬(x.p=p/\x.c=c)):c0b R p c=0:=by
 rw [x0Z,List.find?_eq_none.2 (fun x hx=>by simpa using h x hx)]
theorem e0r (R:List Px) (p c:ByteArray):(∃x∈R,x.p=p/\x.c=c)\/(∀x∈R,¬(x.p=p/\x.c=c)):=by
 by_cases h:∃x∈R,x.p=p/\x.c=c
 .exact .inl h
 .exact .inr fun x hx hh=>h ⟨x,hx,hh⟩
theorem t0A (R:List Px) (p c:ByteArray) (n:Int):∀k,k<=R.length->ptK R p c n k=(R.take k).map (ptX p c n)
 |0,_=>rfl
 |k+1,h=>by
  simp only [ptK];rw [t0A R p c n k (by omega),c0K h,h1W];rfl
theorem g1S (R:List Px) (p c:ByteArray):∀k,k<=R.length->(ptD R p c k=true↔∃x∈R.take k,x.p=p/\x.c=c)
 |0,_=>by simp [ptD]
 |k+1,h=>by
  simp only [ptD];rw [j1E,g1S R p c k (by omega),c0K h,decide_eq_true_eq];constructor
  .rintro (⟨x,hx,hh⟩|hh)
   .exact ⟨x,j1q _ hx,hh⟩
   .exact ⟨_,k1Z _ (a1A.2 rfl),hh⟩
  .rintro ⟨x,hx,hh⟩;rcases g1h.1 hx with q|q
   .exact .inl ⟨x,q,hh⟩
   .rw [a1A] at q;subst q;exact .inr hh
theorem r0M (R:List Px) (p c:ByteArray) (n:Int):(j0o R p c n=R.map (ptX p c n)/\∃x∈R,x.p=p/\x.c=c)\/(j0o R p c n=R++ [⟨p,n,c⟩]/\∀x∈R,¬(x.p=p/\x.c=c)):=by
 have h1:=t0A R p c n R.length (n0q _);have h2:=g1S R p c R.length (n0q _);rw [g1y] at h1 h2;unfold j0o;cases hd:ptD R p c R.length with
 |true=>exact .inl ⟨by rw [if_pos rfl,h1],h2.1 hd⟩
 |false=>
  have hn:∀x∈R,¬(x.p=p/\x.c=c):=fun x hx hh=>by
   have:=h2.2 ⟨x,hx,hh⟩;rw [hd] at this;cases this
  refine .inr ⟨?_,hn⟩;rw [if_neg (by simp),h1];congr 1;refine (m1D fun x hx=> ?_).trans (List.map_id R);unfold ptX;rw [if_neg (hn x hx)];rfl
theorem d0c (p c:ByteArray) (n:Int) (x:Px):(ptX p c n x).p=x.p/\(ptX p c n x).c=x.c:=by unfold ptX;split<;>exact ⟨rfl,rfl⟩
theorem e0K {R:List Px} (hd:g0A R) (p c:ByteArray) (n:Int):g0A (j0o R p c n):=by
 rcases r0M R p c n with ⟨e,_⟩|⟨e,hn⟩
 .rw [e];unfold g0A;rw [List.pairwise_map];refine hd.imp fun {a b} h q=>h ?_
  unfold p0T at*;rw [(d0c p c n a).1,(d0c p c n a).2,(d0c p c n b).1,(d0c p c n b).2] at q;exact q
 .rw [e];refine j1z.2 ⟨hd,k1f _ _,fun a ha b hb=> ?_⟩;rw [a1A] at hb;subst hb;exact hn a ha
theorem n0T {R:List Px} (hd:g0A R) (p c:ByteArray) (n:Int) (p' c':ByteArray):c0b (j0o R p c n) p' c'=if p'=p/\c'=c then n else c0b R p' c':=by
 have hd2:=e0K hd p c n;rcases r0M R p c n with ⟨e,x,hx,hx1,hx2⟩|⟨e,hn⟩
 .rcases e0r R p' c' with ⟨y,hy,hy1,hy2⟩|h
  .have hm:ptX p c n y∈j0o R p c n:=by rw [e];exact l1a hy
   have h1:=b0W hd2 hm;rw [(d0c p c n y).1,(d0c p c n y).2,hy1,hy2] at h1;have h2:=b0W hd hy;rw [hy1,hy2] at h2;rw [h1,h2];unfold ptX;rw [hy1,hy2];split<;>rfl
  .rw [f0z h,f0z,if_neg]
   .rintro ⟨q1,q2⟩;exact h x hx ⟨by rw [hx1,q1],by rw [hx2,q2]⟩
   .intro z hz;rw [e] at hz;obtain ⟨y,hy,rfl⟩:=h1T.1 hz;rw [(d0c p c n y).1,(d0c p c n y).2];exact h y hy
 .by_cases g:p'=p/\c'=c
  .rw [if_pos g];have hm:(⟨p,n,c⟩:Px)∈j0o R p c n:=by rw [e];exact k1Z _ (a1A.2 rfl)
   have:=b0W hd2 hm;rw [g.1,g.2];exact this
  .rw [if_neg g];rcases e0r R p' c' with ⟨y,hy,hy1,hy2⟩|h
   .have hm:y∈j0o R p c n:=by rw [e];exact j1q _ hy
    have h1:=b0W hd2 hm;have h2:=b0W hd hy;rw [hy1,hy2] at h1 h2;rw [h1,h2]
   .rw [f0z h,f0z];intro z hz;rw [e] at hz;rcases g1h.1 hz with q|q
    .exact h z q
    .rw [a1A] at q;subst q;exact fun w=>g ⟨w.1.symm,w.2.symm⟩
structure RlB (b:Bk) (R:List Px):Prop where
 d:g0A R
 net:∀p c,c0b R p c=q0B b p c
theorem e1H {b:Bk} {B:Int} (h:BkI b B) (hB:0<=B) (p c:ByteArray): -B<=q0B b p c/\q0B b p c<=B:=by
 unfold q0B;split
 .exact h.rb _ _
 .omega
theorem n0U {b:Bk} {B:Int} (h:BkI b B) (hnd:b.ps.Nodup) (x:Px):x∈b.list↔x.a≠0/\q0B b x.p x.c=x.a:=by
 have hA:∀cs k,x∈liA b cs k↔∃j,j<k/\x∈liR (b.row (cs.getD j ⟨#[]⟩)) b.ps (cs.getD j ⟨#[]⟩) b.n:=by
  intro cs k;induction k with
  |zero=>simp [liA]
  |succ k ih=>
   simp only [liA,g1h,ih];constructor
   .rintro (⟨j,hj,q⟩|q)
    .exact ⟨j,by omega,q⟩
    .exact ⟨k,by omega,q⟩
   .rintro ⟨j,hj,q⟩;by_cases e:j=k
    .subst e;exact .inr q
    .exact .inl ⟨j,by omega,q⟩
 have hR:∀(r:List Int) (c:ByteArray) (n:Nat),x∈liR r b.ps c n↔x.c=c/\x.a≠0/\∃j,j<n/\x.p=b.ps.getD j ⟨#[]⟩/\x.a=r.getD j 0:=by
  intro r c n;refine ⟨c0k n x,?_⟩;rintro ⟨h1,h2,j,hj,h3,h4⟩;induction n with
  |zero=>omega
  |succ n ih=>
   simp only [liR];by_cases e:j=n
   .subst e;rw [if_neg (by rw [<-h4];exact h2)];refine k1Z _ (a1A.2 ?_);rw [<-h3,<-h4,<-h1]
   .split
    .exact ih (by omega)
    .exact j1q _ (ih (by omega))
 have hsl:(sortS b.cs).length=b.m:=by rw [a0S,h.C.cl]
 unfold Bk.list;rw [hA];constructor
 .rintro ⟨j,hj,q⟩;obtain ⟨h1,h2,i,hi,h3,h4⟩:=(hR _ _ _).1 q;refine ⟨h2,?_⟩;have hps:b.ps[i]? =some x.p:=by
   rw [h3,List.getD,k0n (by rw [h.psl];exact hi)];rfl
  have e:=Go.Sy.sidx_of_get hnd hps;unfold q0B;rw [e,if_pos hi,h1,h4]
 .rintro ⟨h1,h2⟩;unfold q0B at h2;by_cases hp:a0o b.ps x.p<b.n
  .rw [if_pos hp] at h2;have hc:x.c∈b.cs:=by
    rw [x0w h];intro e;rw [e,b0Y] at h2;exact h1 h2.symm
   have hc2:x.c∈sortS b.cs:=(b0L b.cs).mem_iff.2 hc;obtain ⟨j,hj,e⟩:=d1O hc2;have e2:(sortS b.cs).getD j ⟨#[]⟩=x.c:=by rw [List.getD,k0n hj];exact e
   refine ⟨j,by omega,?_⟩;rw [e2,hR];exact ⟨rfl,h1,_,hp,(d0u b.ps (by rw [h.psl];exact hp)).symm,h2.symm⟩
  .rw [if_neg hp] at h2;exact absurd h2.symm h1
theorem t0B {b:Bk} {B:Int} (h:BkI b B) (hps:b.ps.Pairwise (fun a b=>a0D a b=true)):Asc b.list:=by
 have hpl:∀i j,i<j->j<b.n->a0D (b.ps.getD i ⟨#[]⟩) (b.ps.getD j ⟨#[]⟩)=true:=by
  intro i j hij hj;have:=g1z.1 hps i j (by rw [h.psl];omega) (by rw [h.psl];exact hj) hij;rw [List.getD,List.getD,k0n (by rw [h.psl];omega),k0n (by rw [h.psl];exact hj)];exact this
 have hsl:(sortS b.cs).length=b.m:=by rw [a0S,h.C.cl]
 have hm:∀k x,x∈liA b (sortS b.cs) k->∃j,j<k/\x.c=(sortS b.cs).getD j ⟨#[]⟩:=by
  intro k;induction k with
  |zero=>intro x hx;simp [liA] at hx
  |succ k ih=>
   intro x hx;simp only [liA] at hx;rcases g1h.1 hx with q|q
   .obtain ⟨j,hj,e⟩:=ih x q;exact ⟨j,by omega,e⟩
   .exact ⟨k,by omega,(c0k _ _ q).1⟩
 have:∀k,k<=b.m->Asc (liA b (sortS b.cs) k):=by
  intro k;induction k with
  |zero=>intro _;exact List.Pairwise.nil
  |succ k ih=>
   intro hk;simp only [liA];refine j1z.2 ⟨ih (by omega),?_,fun x hx y hy=> ?_⟩
   .have ha:=r0L (r:=b.row ((sortS b.cs).getD k ⟨#[]⟩)) (c:=(sortS b.cs).getD k ⟨#[]⟩) hpl b.n (n0q _);refine ha.imp_of_mem fun {x y} hx hy q=>d0z.2 (.inr ⟨?_,q⟩)
    rw [(c0k _ _ hx).1,(c0k _ _ hy).1]
   .obtain ⟨j,hj,e⟩:=hm k x hx;refine d0z.2 (.inl ?_);rw [e,(c0k _ _ hy).1];exact a1F h.C.nd hj (by rw [h.C.cl];omega)
 exact this b.m (n0q _)
theorem r0N {b:Bk} {R:List Px} {B:Int} (h:BkI b B) (hps:b.ps.Pairwise (fun a b=>a0D a b=true)) (hr:RlB b R):srt (nz R)=b.list/\(nz R).length=b.list.length:=by
 have hnd:b.ps.Nodup:=hps.imp (fun {a b} h e=>by subst e;rw [a0p] at h;cases h);have ha:=t0B h hps;have nd1:b.list.Nodup:=ha.imp (fun {a b} h e=>by subst e;rw [i0l] at h;cases h);have nd2:(nz R).Nodup:=(hr.d.imp (fun {a b} h e=>h (by subst e;exact ⟨rfl,rfl⟩))).sublist k1E;have hp:b.list.Perm (nz R):=(k1S nd1 nd2).2 fun x=>by
  rw [n0U h hnd];unfold nz;rw [j1j,decide_eq_true_eq];constructor
  .rintro ⟨h1,h2⟩;rw [<-hr.net] at h2;refine ⟨?_,h1⟩;rcases e0r R x.p x.c with ⟨y,hy,hy1,hy2⟩|q
   .have:=b0W hr.d hy;rw [hy1,hy2,h2] at this;have e:x=y:=by cases x;cases y;simp_all
    rw [e];exact hy
   .rw [f0z q] at h2;exact absurd h2.symm h1
  .rintro ⟨h1,h2⟩;refine ⟨h2,?_⟩;rw [<-hr.net];exact b0W hr.d h1
 exact ⟨x0S hp ha,hp.length_eq.symm⟩
theorem n0V (L:List Px):∀k,k<=L.length->∀s,s∈cuK L k↔∃x∈L.take k,x.c=s
 |0,_,s=>by simp [cuK]
 |k+1,h,s=>by
  have ih:=n0V L k (by omega) s;have ih2:=n0V L k (by omega) (L.getD k px0).c;rw [c0K h];simp only [cuK];split
  .rename_i g;rw [r0J rfl] at g;rw [ih];constructor
   .rintro ⟨x,hx,e⟩;exact ⟨x,j1q _ hx,e⟩
   .rintro ⟨x,hx,e⟩;rcases g1h.1 hx with q|q
    .exact ⟨x,q,e⟩
    .rw [a1A] at q;subst q;rw [<-e];exact ih2.1 g
  .rw [g1h,ih,a1A];constructor
   .rintro (⟨x,hx,e⟩|e)
    .exact ⟨x,j1q _ hx,e⟩
    .exact ⟨_,k1Z _ (a1A.2 rfl),e.symm⟩
   .rintro ⟨x,hx,e⟩;rcases g1h.1 hx with q|q
    .exact .inl ⟨x,q,e⟩
    .rw [a1A] at q;subst q;exact .inr e.symm
theorem y0a {L:List Px} (ha:Asc L):∀k,k<=L.length->(cuK L k).Pairwise (fun a b=>a0D a b=true)
 |0,_=>List.Pairwise.nil
 |k+1,h=>by
  have ih:=y0a ha k (by omega);simp only [cuK];split
  .exact ih
  .rename_i g;rw [r0J rfl] at g;refine j1z.2 ⟨ih,k1f _ _,fun x hx y hy=> ?_⟩;rw [a1A] at hy;subst hy;obtain ⟨z,hz,e⟩:=(n0V L k (by omega) x).1 hx;obtain ⟨j,hj,e2⟩:=d1O hz;rw [d1P] at hj;rw [k1N] at e2;have hlt:=c1L ha (show j<k by omega) h;rw [List.getD,k0n (show j<L.length by omega)] at hlt;simp only [j1A] at hlt;rw [e2] at hlt;rcases d0z.1 hlt with q|⟨q,_⟩
   .rw [<-e];exact q
   .exfalso;apply g;rw [<-q,e];exact hx
theorem g1T {b:Bk} {R:List Px} {B:Int} (h:BkI b B) (hps:b.ps.Pairwise (fun a b=>a0D a b=true)) (hr:RlB b R):cuR R=sortS b.cs/\(cuR R).length=b.m:=by
 have hnd:b.ps.Nodup:=hps.imp (fun {a b} h e=>by subst e;rw [a0p] at h;cases h);obtain ⟨e1,e2⟩:=r0N h hps hr;have ha:=t0B h hps;have hc:cuR R=sortS b.cs:=by
  unfold cuR;rw [e1,e2];have hasc:=y0a ha b.list.length (n0q _);refine (n0x ?_ hasc).symm;refine (k1S (hasc.imp (fun {a b} h e=>by subst e;rw [a0p] at h;cases h)) h.C.nd).2 fun s=> ?_
  rw [n0V _ _ (n0q _),g1y];constructor
  .rintro ⟨x,hx,rfl⟩;obtain ⟨q1,q2⟩:=(n0U h hnd x).1 hx;rw [x0w h];intro e;unfold q0B at q2;rw [e,b0Y] at q2;split at q2<;>exact q1 q2.symm
  .intro hs;have hz:=h.nz s hs;have:∃j,j<16/\(b.row s).getD j 0≠0:=by
    refine Classical.byContradiction fun q=>hz ?_
    refine t0m (h.rl s) rfl fun j=> ?_
    rw [b0Y];by_cases hj:j<16
    .exact Classical.byContradiction fun w=>q ⟨j,hj,w⟩
    .rw [List.getD,r0b (by rw [h.rl];omega)];rfl
   obtain ⟨j,_,hj⟩:=this;have hjn:j<b.n:=k1U fun q=>hj (h.rt s j q)
   refine ⟨⟨b.ps.getD j ⟨#[]⟩,(b.row s).getD j 0,s⟩,(n0U h hnd _).2 ⟨hj,?_⟩,rfl⟩;have e:=Go.Sy.sidx_of_get (s:=b.ps.getD j ⟨#[]⟩) hnd (show b.ps[j]? =some (b.ps.getD j ⟨#[]⟩) by rw [List.getD,k0n (by rw [h.psl];exact hjn)];rfl);unfold q0B;dsimp only;rw [e,if_pos hjn]
 exact ⟨hc,by rw [hc,a0S,h.C.cl]⟩
theorem y0b {ps sp:List ByteArray} {n:Nat} (hp:sp.Perm ps) (hn:ps.length=n) (s:ByteArray):inK ps s n=false↔idI sp s n<0:=by
 have hl:sp.length=n:=hp.length_eq.trans hn;rw [<-Bool.not_eq_true,r0J hn,<-hp.mem_iff,<-Go.Sy.sidx_lt,hl];unfold idI;split
 .rename_i h;constructor
  .intro q;exact absurd h q
  .intro q;omega
 .rename_i h;exact ⟨fun _=>by decide,fun _=>h⟩
theorem y0c {b:Bk} {R:List Px} (h:BkI b 4503599627370496) {ps:List ByteArray} (hp:b.ps.Perm ps) (hr:RlB b R) (f t c:ByteArray) (a:Int):rmE b.n ps R f t c a=mvE b f t c a/\(mvE b f t c a=0->RlB (b.mv f t c a) (rmR R f t c a)):=by
 have hpl:ps.length=b.n:=by rw [<-hp.length_eq];exact h.psl
 have i1:=y0b hp hpl f;have i2:=y0b hp hpl t;have e0:rmE b.n ps R f t c a=mvE b f t c a:=by
  unfold rmE mvE;by_cases q:idI b.ps f b.n<0\/idI b.ps t b.n<0
  .rw [if_pos q,if_pos (q.elim (fun w=> .inl (i1.2 w)) (fun w=> .inr (i2.2 w)))]
  .rw [if_neg q,if_neg (fun w=>q (w.elim (fun w=> .inl (i1.1 w)) (fun w=> .inr (i2.1 w))))];have q1:a0o b.ps f<b.n:=by
    rcases f1L (a0o b.ps f) b.n with w|w
    .exact w
    .exact absurd (.inl (by rw [i0K (by omega)];decide)) q
   have q2:a0o b.ps t<b.n:=by
    rcases f1L (a0o b.ps t) b.n with w|w
    .exact w
    .exact absurd (.inr (by rw [i0K (by omega)];decide)) q
   have e3:f=t↔idI b.ps f b.n=idI b.ps t b.n:=by
    constructor
    .intro e;rw [e]
    .intro e;rw [i0J q1,i0J q2] at e;have g1:=d0u (s:=f) b.ps (by rw [h.psl];exact q1);have g2:=d0u (s:=t) b.ps (by rw [h.psl];exact q2);rw [<-g1,<-g2];congr 1;omega
   rw [hr.net,hr.net];unfold q0B;rw [if_pos q1,if_pos q2];by_cases w:f=t
   .rw [if_pos w,if_pos (e3.1 w)]
   .rw [if_neg w,if_neg (fun z=>w (e3.2 z))]
 refine ⟨e0,fun he=> ?_⟩;have s:stE b f t c a=0:=by
  rw [c1G] at he;by_cases q:stE b f t c a=0
  .exact q
  .rw [if_pos q] at he;exact he
 obtain ⟨hF,hT,hne,_⟩:=x0z s;have hft:f≠t:=fun e=>hne (by rw [e])
 have hrow:=g1D h (by rw [he,s]);have hmp:=e1l b f t c a;refine ⟨e0K (e0K hr.d _ _ _) _ _ _,fun p' c'=> ?_⟩;unfold rmR;rw [n0T (e0K hr.d _ _ _),n0T hr.d];have hN:q0B (b.mv f t c a) p' c'=if a0o b.ps p'<b.n then (b.row c').getD (a0o b.ps p') 0+dM b f t c a c' (a0o b.ps p') else 0:=by
  unfold q0B;rw [hmp.1,hmp.2];split
  .exact hrow c' _
  .rfl
 have hd:dM b f t c a c' (a0o b.ps p')=if c'=c then (if a0o b.ps p'=a0o b.ps f then-a else 0)+(if a0o b.ps p'=a0o b.ps t then a else 0) else 0:=by
  unfold dM;by_cases q:c'=c
  .rw [if_pos ⟨s,q⟩,if_pos q]
  .rw [if_neg (fun w=>q w.2),if_neg q]
 have inj:∀x,a0o b.ps p'<b.n->a0o b.ps x<b.n->a0o b.ps p'=a0o b.ps x->p'=x:=fun x g1 g2 e=>by
  have k1:=d0u (s:=p') b.ps (by rw [h.psl];exact g1);have k2:=d0u (s:=x) b.ps (by rw [h.psl];exact g2);rw [<-k1,<-k2,e]
 rw [hN,hd];by_cases q1:p'=t/\c'=c
 .obtain ⟨rfl,rfl⟩:=q1;rw [if_pos ⟨rfl,rfl⟩,if_pos hT,if_pos rfl,if_neg (fun e=>hne e.symm),if_pos rfl,hr.net];unfold q0B;rw [if_pos hT];omega
 .rw [if_neg q1];by_cases q2:p'=f/\c'=c
  .obtain ⟨rfl,rfl⟩:=q2;rw [if_pos ⟨rfl,rfl⟩,if_pos hF,if_pos rfl,if_pos rfl,if_neg hne,hr.net];unfold q0B;rw [if_pos hF];omega
  .rw [if_neg q2,hr.net];unfold q0B;split
   .rename_i hP;by_cases q3:c'=c
    .rw [if_pos q3,if_neg (fun e=>q2 ⟨inj f hP hF e,q3⟩),if_neg (fun e=>q1 ⟨inj t hP hT e,q3⟩)];omega
    .rw [if_neg q3];omega
   .rfl
end
section
attribute [local irreducible] sortI
structure Rc where
 d:Int
 mv:Bool
 cl:Bool
 R:List Px
def rc0:Rc:=⟨0,false,false,[]⟩
abbrev rcD (L:List Rc):List Int:=L.map Rc.d
def d0Z (d:Int):Rc:=⟨d,false,false,[]⟩
def b0a (L:List Rc) (d:Int):Rc:=if d∈rcD L then L.getD (a0F (rcD L) d) rc0 else d0Z d
def rcW (L:List Rc) (d:Int):List Rc:=if d∈rcD L then L else L++ [d0Z d]
def h0A (L:List Rc) (d:Int) (x:Rc):List Rc:=(rcW L d).set (a0F (rcD (rcW L d)) d) x
def rcX (L:List Rc):List Int:=(L.filter Rc.cl).map Rc.d
theorem e0a (L:List Rc):(rcD L).length=L.length:=j1G ..
theorem d0O {L:List Rc} {d:Int} (h:d∈rcD L):a0F (rcD L) d<L.length/\(L.getD (a0F (rcD L) d) rc0).d=d:=by
 have hi:=b0e.2 h;have e:=e0D hi;rw [e0a] at hi;refine ⟨hi,?_⟩;rw [a1u,k0n hi] at e;rw [List.getD,k0n hi];exact Option.some.inj e
theorem e1I {L:List Rc} (hn:(rcD L).Nodup) {x:Rc} (h:x∈L):b0a L x.d=x:=by
 have hm:x.d∈rcD L:=h1T.2 ⟨x,h,rfl⟩;obtain ⟨i,hi,e⟩:=k1J.1 h;have e2:(rcD L)[i]? =some x.d:=by rw [a1u,k0n hi,e];rfl
 have e3:=r0c hn e2;unfold b0a;rw [if_pos hm,e3,List.getD,k0n hi,e];rfl
theorem k0O {L:List Rc} (hn:(rcD L).Nodup) {d:Int}:d∈rcX L↔(b0a L d).cl=true:=by
 unfold rcX;constructor
 .intro h;obtain ⟨x,hx,rfl⟩:=h1T.1 h;obtain ⟨h1,h2⟩:=j1j.1 hx;rw [e1I hn h1];exact h2
 .intro h;by_cases hd:d∈rcD L
  .obtain ⟨hi,e⟩:=d0O hd;unfold b0a at h;rw [if_pos hd] at h;refine h1T.2 ⟨_,j1j.2 ⟨?_,h⟩,e⟩;rw [List.getD,k0n hi];exact g1v _
  .unfold b0a at h;rw [if_neg hd] at h;cases h
theorem f0A (L:List Rc) (d:Int):d∈rcD (rcW L d):=by
 unfold rcW;split
 .assumption
 .simp [d0Z]
theorem q0b {L:List Rc} (hn:(rcD L).Nodup) (d:Int):(rcD (rcW L d)).Nodup:=by
 unfold rcW;split
 .exact hn
 .rename_i h;simp only [rcD,h1W,j1D,k1H];exact k1t.2 ⟨hn,by simp,fun a ha b hb e=>by simp [d0Z] at hb;subst hb;subst e;exact h ha⟩
theorem k0P {l m:List Int} {x:Int} (h:a0F l x<l.length):a0F (l++m) x=a0F l x:=by
 induction l with
 |nil=>simp at h
 |cons a l ih=>
  simp only [g1u,a0F] at h⊢;cases he:decide (a=x) with
  |true=>rfl
  |false=>
   rw [he] at h;simp only [cond_false,d1G] at h⊢;rw [ih (by omega)]
theorem k0Q {L:List Rc} (d x:Int):b0a (rcW L d) x=b0a L x:=by
 unfold rcW;by_cases h:d∈rcD L
 .rw [if_pos h]
 .rw [if_neg h];unfold b0a;by_cases hx:x∈rcD L
  .have hi:=b0e.2 hx;rw [if_pos (by simp only [rcD,h1W];exact j1q _ hx),if_pos hx];have e:a0F (rcD (L++ [d0Z d])) x=a0F (rcD L) x:=by
    simp only [rcD,h1W];exact k0P hi
   rw [e0a] at hi;rw [e,List.getD,List.getD,c1u hi]
  .rw [if_neg hx];by_cases e:x=d
   .subst e;have hm:x∈rcD (L++ [d0Z x]):=by simp [d0Z]
    rw [if_pos hm];obtain ⟨hi,e2⟩:=d0O hm;have e3:a0F (rcD (L++ [d0Z x])) x=L.length:=by
     have h1:=w0I (rcD (L++ [d0Z x])) x;rw [e0a,a1N,f1M] at h1;rcases f1L (a0F (rcD (L++ [d0Z x])) x) L.length with q|q
     .exfalso;rw [List.getD,c1u q,k0n q] at e2;exact hx (h1T.2 ⟨_,g1v q,e2⟩)
     .rw [a1N,f1M] at hi;omega
    rw [e3,List.getD,c1l (n0q _),j1k];rfl
   .rw [if_neg (by simp only [rcD,h1W,g1h,d0Z,j1D,k1H,a1A];exact fun q=>q.elim hx e)]
theorem y0d {L:List Rc} {d:Int} {x:Rc} (hx:x.d=d):rcD (h0A L d x)=rcD (rcW L d):=by
 obtain ⟨hi,e⟩:=d0O (f0A L d);unfold h0A;simp only [rcD,l1g];refine k1M fun j=> ?_
 rw [j1H];split
 .rename_i h;subst h;rw [j1G,if_pos hi,hx];exact (e0D (b0e.2 (f0A L d))).symm
 .rfl
theorem d0d {L:List Rc} (hn:(rcD L).Nodup) {d:Int} {x:Rc} (hx:x.d=d) (e:Int):b0a (h0A L d x) e=if e=d then x else b0a L e:=by
 have hD:=y0d (L:=L) hx;obtain ⟨hi,hg⟩:=d0O (f0A L d);by_cases h:e=d
 .subst h;rw [if_pos rfl];unfold b0a;rw [hD,if_pos (f0A L _)];unfold h0A;rw [List.getD,j1S hi];rfl
 .rw [if_neg h,<-k0Q (L:=L) d e];unfold b0a;rw [hD];by_cases he:e∈rcD (rcW L d)
  .rw [if_pos he,if_pos he];obtain ⟨hj,hg2⟩:=d0O he;unfold h0A;rw [List.getD,List.getD,j1R (fun q=>h (by rw [<-hg2,<-q,hg]))]
  .rw [if_neg he,if_neg he]
theorem k0R {L:List Rc} (hn:(rcD L).Nodup) {d:Int} {x:Rc} (hx:x.d=d):(rcD (h0A L d x)).Nodup:=by rw [y0d hx];exact q0b hn d
theorem n0W (L:List Rc) (d:Int):(rcW L d).length<=L.length+1:=by unfold rcW;split<;>simp
theorem q0c (L:List Rc) (d:Int) (x:Rc):(h0A L d x).length<=L.length+1:=by unfold h0A;rw [j1B];exact n0W L d
theorem y0e (L:List Rc) (d:Int):(b0a L d).d=d:=by
 unfold b0a;by_cases h:d∈rcD L
 .rw [if_pos h];exact (d0O h).2
 .rw [if_neg h];rfl
theorem q0d {hs cd cd':List Int} (h:∀d,d∈cd↔d∈cd'):∀k x,mvF hs cd k x=mvF hs cd' k x
 |0,_=>rfl
 |k+1,x=>by
  simp only [mvF];rw [q0d h k];by_cases q:x∈cd
  .rw [if_pos q,if_pos ((h x).1 q)]
  .rw [if_neg q,if_neg (fun w=>q ((h x).2 w))]
theorem y0f {hs cd cd':List Int} (h:∀d,d∈cd↔d∈cd') (x:Int):mvD hs cd x=mvD hs cd' x:=by unfold mvD;exact q0d h _ _
theorem b1n {ds:List Int} {D d:Int}:d∈t0s ds D↔d∈ds\/d=D:=by
 unfold t0s;split
 .rename_i h;exact ⟨.inl,fun q=>q.elim id (fun e=>by rw [e];exact h)⟩
 .simp
theorem y0g {ds:List Int} {B:List Bk} (hl:ds.length=B.length) (pr:List ByteArray) (D:Int) (b:Bk) (d:Int):c0V (t0s ds D) (z0C ds B D b) pr d=if d=D then b else c0V ds B pr d:=by
 unfold t0s z0C;by_cases hD:D∈ds
 .rw [if_pos hD,if_pos hD];have hi:=b0e.2 hD;unfold c0V;by_cases e:d=D
  .subst e;rw [if_pos rfl,if_pos hD,List.getD,j1S (by omega)];rfl
  .rw [if_neg e];by_cases hd:d∈ds
   .have hj:=b0e.2 hd;rw [if_pos hd,if_pos hd,List.getD,List.getD,j1R (fun q=>e ?_)];have e1:=e0D hi;have e2:=e0D hj;rw [q,e2] at e1;exact Option.some.inj e1
   .rw [if_neg hd,if_neg hd]
 .rw [if_neg hD,if_neg hD];unfold c0V;by_cases e:d=D
  .subst e;have hm:d∈ds++ [d]:=by simp
   have e3:a0F (ds++ [d]) d=ds.length:=by
    have h1:=b0e.2 hm;have e2:=e0D h1;rw [a1N,f1M] at h1;rcases f1L (a0F (ds++ [d]) d) ds.length with q|q
    .exfalso;rw [c1u q,k0n q] at e2;exact hD (by rw [<-Option.some.inj e2];exact g1v q)
    .omega
   rw [if_pos rfl,if_pos hm,e3,List.getD,c1l (by omega),hl,j1k];rfl
  .rw [if_neg e];by_cases hd:d∈ds
   .have hj:=b0e.2 hd;rw [if_pos (j1q _ hd),if_pos hd,k0P hj,List.getD,List.getD,c1u (by omega)]
   .rw [if_neg (by simp [hd,e]),if_neg hd]
def rcO (L:List Rc):List Int:=sortI ((L.filter fun x=>x.mv&& !x.cl).map Rc.d)
end
section
attribute [local irreducible] a0q a0r a0k a0P sortI
theorem b1o (ks:List Int) (n:Nat) (hl:ks.length=n) (hn:n<=100000) (d:Int):FC Tryz.prog 3 69 [.ptr 1 0 0 0,.int .i64 d] [(1,rcC true 2 n),(2,inB n ks)] (a0h (if isD d=true then nxV (nxI ks d) else nxV (-1)) [] 3):=by
 have c1:=e0q d;cases h:isD d with
 |false=>
  rw [h] at c1;rw [if_neg (by simp)];refine fEx Tryz.func69 ?_;repeat' ((conv=>whnf);first|refine cPx c1 ?_|refine a0a ?_|(apply bRx<;>intro h<;>try (exfalso;(try dsimp only at h);omega)))
  all_goals (conv=>whnf)
  all_goals first
   |exact rOx [0,1,2] a0b
   |(exfalso;omega)
   |trace_state
 |true=>
  have hd:=f0o.1 h;rw [h] at c1;rw [if_pos rfl];obtain ⟨a,ea⟩:=j1F hd.1;subst ea;generalize hX:nxI ks (a:Int)=X;refine fEx Tryz.func69 ?_;repeat' ((conv=>whnf);first|refine cPx c1 ?_|refine a0a ?_|(apply bRx<;>intro h<;>try (exfalso;(try dsimp only at h);omega)))
  all_goals (conv=>whnf)
  refine a0f (fun k:Nat=>⟨[(0,.ptr 1 0 0 0),(6,.int .i64 k)],[(1,rcC true 2 n),(2,inB n ks)],3⟩) (fun k=>k<=100000/\nxI ks (k:Int)=X) (fun k=>100000-k) a [0,1,2] [] wHx ⟨by omega,hX⟩ ?_;rintro k ⟨hk,hx⟩;have c:=f0x ks n hl hn k;by_cases hk2:k<=99999
  .cases hb:j0g ks k with
   |true=>
    rw [n0z hb (by omega)] at hx;subst hx;rw [hb] at c;unfold nxV;rw [if_neg (by omega)];repeat' ((conv=>whnf);first|refine cOx (l:= [0,1,2]) c ?_|refine a0a ?_|(apply bRx<;>intro h<;>try (exfalso;(try dsimp only at h);omega)))
    all_goals (conv=>whnf)
    all_goals first
     |exact rOx [0,1,2] a0b
     |(exfalso;omega)
     |trace_state
   |false=>
    rw [s0W hb (by omega)] at hx;rw [hb] at c;repeat' ((conv=>whnf);first|refine cOx (l:= [0,1,2]) c ?_|refine a0a ?_|(apply bRx<;>intro h<;>try (exfalso;(try dsimp only at h);omega)))
    all_goals (conv=>whnf)
    all_goals first
     |exact ⟨k+1,[0,1,2],[],⟨by omega,hx⟩,(show 100000-(k+1)<100000-k by omega),⟨rfl,⟨rfl,congrArg (fun z=>some (SV.int .i64 z)) (a0e (by omega)),trivial⟩,⟨rfl,rfl,trivial⟩⟩⟩
     |(exfalso;omega)
     |trace_state
  .rw [n0A (by omega)] at hx;subst hx;repeat' ((conv=>whnf);first|refine a0a ?_|(apply bRx<;>intro h<;>try (exfalso;(try dsimp only at h);omega)))
   all_goals (conv=>whnf)
   all_goals first
    |exact rOx [0,1,2] a0b
    |(exfalso;omega)
    |trace_state
abbrev rgC (ro:Bool) (h5 np m:Nat) (cut:Int):Option HB:=some (.one ro (.cells [.ptr 2 0 0 0,.int .i64 cut,.sl 4 0 0 np,.sl h5 0 0 m]))
abbrev rgR (np hn m:Nat) (cut:Int) (hs:List Int):a0j:= [(1,rgC true 5 np m cut),(2,rcC true 3 hn),(3,inB hn hs)]
abbrev rgP (ro:Bool) (h m:Nat):Option HB:=some (.one ro (.cols m [.ptrs h m]))
def g6 (L:List Rc) (hb:Nat) (x:Nat):Blk:= .cells [.int .i64 (L.getD x rc0).d,.ptr hb x 0 0,.bool (L.getD x rc0).mv,.bool (L.getD x rc0).cl]
def g7 (L:List Rc) (hl np:Nat) (x:Nat):Blk:= .cells [.sl 4 0 0 np,.sl hl x 0 (L.getD x rc0).R.length]
def g8 (L:List Rc) (x:Nat):Blk:=pxB (L.getD x rc0).R.length (a0y (L.getD x rc0).R)
theorem q0e (np hn m:Nat) (cut:Int) (hs:List Int) (hh:hs.length=hn) (hn4:hn<=100000) (d:Int) (hd:0<=d) (hd2:d<=99999):FC Tryz.prog 9 46 [.ptr 1 0 0 0,.int .i64 d] (rgR np hn m cut hs) (a0h (ofV (nxI hs (d+1))) [] 9):=by
 have e:IntKind.i64.wrap (d+1)=d+1:=a0m (by omega) (by omega);have c:=b1o hs hn hh hn4 (d+1);have hv:(if isD (d+1)=true then nxV (nxI hs (d+1)) else nxV (-1))=nxV (nxI hs (d+1)):=by
  cases h:isD (d+1) with
  |true=>rw [if_pos rfl]
  |false=>rw [if_neg (by simp),n0A (by have:=c1p.1 h;omega)]
 rw [hv] at c;unfold nxV at c;unfold ofV;by_cases h:nxI hs (d+1)<0
 .rw [if_pos h] at c⊢;refine fEx Tryz.func46 ?_;repeat' ((conv=>whnf);first|(simp only [e])|refine cOx (l:= [0,2,3]) c ?_|refine a0a ?_|(apply bRx<;>intro h<;>try (exfalso;(try dsimp only at h);omega)))
  all_goals (conv=>whnf)
  all_goals first
   |exact rOx [0,1,2,3,4,5,6,7,8] a0b
   |(exfalso;omega)
   |trace_state
 .rw [if_neg h] at c⊢;refine fEx Tryz.func46 ?_;repeat' ((conv=>whnf);first|(simp only [e])|refine cOx (l:= [0,2,3]) c ?_|refine a0a ?_|(apply bRx<;>intro h<;>try (exfalso;(try dsimp only at h);omega)))
  all_goals (conv=>whnf)
  all_goals first
   |exact rOx [0,1,2,3,4,5,6,7,8] a0b
   |(exfalso;omega)
   |trace_state
theorem c1P (np hn m:Nat) (cut:Int) (hs:List Int) (hh:hs.length=hn) (hn4:hn<=100000) (t:Int):FC Tryz.prog 9 30 [.ptr 1 0 0 0,.int .i64 t] (rgR np hn m cut hs) (a0h (ofV (ofI hs cut t)) [] 9):=by
 have c1:=e1v t;unfold ofI;by_cases h:j0f t<0
 .rw [if_pos h];generalize j0f t=d at*;refine fEx Tryz.func30 ?_;repeat' ((conv=>whnf);first|refine cPx c1 ?_|refine a0a ?_|(apply bRx<;>intro h<;>try (exfalso;(try dsimp only at h);omega)))
  all_goals (conv=>whnf)
  all_goals first
   |exact rOx [0,1,2,3,4,5,6,7,8] a0b
   |(exfalso;omega)
   |trace_state
 .have hd:=r0F h;rw [if_neg h];have c2:=f0x hs hn hh hn4 (j0f t);have c3:=q0e np hn m cut hs hh hn4 (j0f t) hd.2.1 hd.2.2.1;generalize j0f t=d at*;generalize a1I t=s at*;cases hb:j0g hs d with
  |true=>
   rw [hb] at c2;by_cases hq:s<cut
   .rw [if_pos ⟨rfl,hq⟩];unfold ofV;rw [if_neg h];refine fEx Tryz.func30 ?_;repeat' ((conv=>whnf);first|refine cPx c1 ?_|refine cOx (l:= [0,2,3]) c2 ?_|refine a0a ?_|(apply bRx<;>intro h<;>try (exfalso;(try dsimp only at h);omega)))
    all_goals (conv=>whnf)
    all_goals first
     |exact rOx [0,1,2,3,4,5,6,7,8] a0b
     |(exfalso;omega)
     |trace_state
   .rw [if_neg (fun w=>hq w.2)];unfold ofV at c3⊢;by_cases hx:nxI hs (d+1)<0
    .rw [if_pos hx] at c3⊢;refine fEx Tryz.func30 ?_;repeat' ((conv=>whnf);first|refine cPx c1 ?_|refine cOx (l:= [0,2,3]) c2 ?_|refine cOx (l:= [0,1,2,3,4,5,6,7,8]) c3 ?_|refine a0a ?_|(apply bRx<;>intro h<;>try (exfalso;(try dsimp only at h);omega)))
     all_goals (conv=>whnf)
     all_goals first
      |exact rOx [0,1,2,3,4,5,6,7,8] a0b
      |(exfalso;omega)
      |trace_state
    .rw [if_neg hx] at c3⊢;refine fEx Tryz.func30 ?_;repeat' ((conv=>whnf);first|refine cPx c1 ?_|refine cOx (l:= [0,2,3]) c2 ?_|refine cOx (l:= [0,1,2,3,4,5,6,7,8]) c3 ?_|refine a0a ?_|(apply bRx<;>intro h<;>try (exfalso;(try dsimp only at h);omega)))
     all_goals (conv=>whnf)
     all_goals first
      |exact rOx [0,1,2,3,4,5,6,7,8] a0b
      |(exfalso;omega)
      |trace_state
  |false=>
   rw [hb] at c2;rw [if_neg (fun w=>by simp at w)];unfold ofV at c3⊢;by_cases hx:nxI hs (d+1)<0
   .rw [if_pos hx] at c3⊢;refine fEx Tryz.func30 ?_;repeat' ((conv=>whnf);first|refine cPx c1 ?_|refine cOx (l:= [0,2,3]) c2 ?_|refine cOx (l:= [0,1,2,3,4,5,6,7,8]) c3 ?_|refine a0a ?_|(apply bRx<;>intro h<;>try (exfalso;(try dsimp only at h);omega)))
    all_goals (conv=>whnf)
    all_goals first
     |exact rOx [0,1,2,3,4,5,6,7,8] a0b
     |(exfalso;omega)
     |trace_state
   .rw [if_neg hx] at c3⊢;refine fEx Tryz.func30 ?_;repeat' ((conv=>whnf);first|refine cPx c1 ?_|refine cOx (l:= [0,2,3]) c2 ?_|refine cOx (l:= [0,1,2,3,4,5,6,7,8]) c3 ?_|refine a0a ?_|(apply bRx<;>intro h<;>try (exfalso;(try dsimp only at h);omega)))
    all_goals (conv=>whnf)
    all_goals first
     |exact rOx [0,1,2,3,4,5,6,7,8] a0b
     |(exfalso;omega)
     |trace_state
def rfV (L:List Rc) (h:Nat) (d:Int):SV:=if d∈rcD L then .ptr h (a0F (rcD L) d) 0 0 else .nptr
theorem m0z {l:List Int} {d:Int} {k:Nat} (hk:k<l.length) (he:l.getD k 0=d) (hn:∀i,i<k->l.getD i 0≠d):a0F l d=k:=by
 induction l generalizing k with
 |nil=>simp at hk
 |cons a l ih=>
  simp only [a0F];cases k with
  |zero=>
   have:a=d:=he;rw [decide_eq_true this];rfl
  |succ k=>
   have h0:a≠d:=hn 0 (Nat.succ_pos k);rw [decide_eq_false h0,cond_false,ih (by simpa using hk) he (fun i hi=>hn (i+1) (by omega))]
theorem h0B (L:List Rc) (m:Nat) (hL:L.length=m) (hm:m<=100000) (np:Nat) (cut:Int) (d:Int):FC Tryz.prog 9 52 [.ptr 1 0 0 0,.int .i64 d] [(1,rgC true 5 np m cut),(5,rgP true 6 m),(6,fmB true m (g6 L 7))] (a0h (rfV L 6 d) [] 9):=by
 have hg:∀k,(rcD L).getD k 0=if k<m then (L.getD k rc0).d else 0:=by
  intro k;split
  .rename_i h;rw [List.getD,a1u,k0n (by omega),List.getD,k0n (by omega)];rfl
  .rename_i h;rw [List.getD,a1u,r0b (by omega)];rfl
 refine fEx Tryz.func52 ?_;repeat' ((conv=>whnf);first|refine a0a ?_|(apply bRx<;>intro h<;>try (exfalso;(try dsimp only at h);omega)))
 all_goals (conv=>whnf)
 all_goals first
  |(exfalso;omega)
  |skip
 refine a0f (fun k:Nat=>⟨[(0,.ptr 1 0 0 0),(1,.int .i64 d),(5,.int .i64 k)],[(1,rgC true 5 np m cut),(5,rgP true 6 m),(6,fmB true m (g6 L 7))],9⟩) (fun k=>k<=m/\∀i,i<k->(rcD L).getD i 0≠d) (fun k=>m-k) 0 [0,1,2,3,4,5,6,7,8] [] wHx ⟨w0F _,fun i hi=>absurd hi (k1G _)⟩ ?_;rintro k ⟨hk,hn⟩;by_cases hk2:k<m
 .have hk3:=hg k;rw [if_pos hk2] at hk3;by_cases e:(L.getD k rc0).d=d
  .have hm2:d∈rcD L:=by rw [<-e];exact h1T.2 ⟨_,by rw [List.getD,k0n (by omega)];exact g1v _,rfl⟩
   have hi:a0F (rcD L) d=k:=m0z (by rw [e0a];omega) (hk3.trans e) hn;unfold rfV;rw [if_pos hm2,hi];repeat' ((conv=>whnf);first|refine a0a ?_|(apply bRx<;>intro h<;>try (exfalso;(try dsimp only at h);omega)))
   all_goals (conv=>whnf)
   all_goals first
    |(exfalso;first|omega|contradiction)
    |exact rOx [0,1,2,3,4,5,6,7,8] a0b
    |trace_state
  .have hn2:∀i,i<k+1->(rcD L).getD i 0≠d:=fun i hi=>by
    by_cases w:i=k
    .rw [w,hk3];exact e
    .exact hn i (by omega)
   repeat' ((conv=>whnf);first|refine a0a ?_|(apply bRx<;>intro h<;>try (exfalso;(try dsimp only at h);omega)))
   all_goals (conv=>whnf)
   all_goals first
    |(exfalso;first|omega|contradiction)
    |exact ⟨k+1,[0,1,2,3,4,5,6,7,8],[],⟨hk2,hn2⟩,(show m-(k+1)<m-k by omega),⟨rfl,⟨rfl,rfl,congrArg (fun z=>some (SV.int .i64 z)) (a0e (by omega)),trivial⟩,⟨rfl,rfl,rfl,trivial⟩⟩⟩
    |trace_state
 .have hm2:¬d∈rcD L:=fun h=>by
   obtain ⟨h1,h2⟩:=d0O h;have:=hn (a0F (rcD L) d) (by omega);rw [hg,if_pos (by omega)] at this;exact this h2
  unfold rfV;rw [if_neg hm2];repeat' ((conv=>whnf);first|refine a0a ?_|(apply bRx<;>intro h<;>try (exfalso;(try dsimp only at h);omega)))
  all_goals (conv=>whnf)
  all_goals first
   |(exfalso;omega)
   |exact rOx [0,1,2,3,4,5,6,7,8] a0b
   |trace_state
theorem f0R (L:List Rc) (m:Nat) (hL:L.length=m) (hm:m<=100000) (np:Nat) (cut:Int) (d:Int):FC Tryz.prog 9 33 [.ptr 1 0 0 0,.int .i64 d] [(1,rgC true 5 np m cut),(5,rgP true 6 m),(6,fmB true m (g6 L 7))] (a0h (.bool (b0a L d).cl) [] 9):=by
 have c:=h0B L m hL hm np cut d;unfold b0a;by_cases h:d∈rcD L
 .have hi:=(d0O h).1;unfold rfV at c;rw [if_pos h] at c;rw [if_pos h];refine fEx Tryz.func33 ?_;repeat' ((conv=>whnf);first|refine cOx (l:= [0,1,2,3,4,5,6,7,8]) c ?_|refine a0a ?_|(apply bRx<;>intro h<;>try (exfalso;(try dsimp only at h);omega)))
  all_goals (conv=>whnf)
  all_goals first
   |(exfalso;omega)
   |exact rOx [0,1,2,3,4,5,6,7,8] a0b
   |trace_state
 .unfold rfV at c;rw [if_neg h] at c;rw [if_neg h];refine fEx Tryz.func33 ?_;repeat' ((conv=>whnf);first|refine cOx (l:= [0,1,2,3,4,5,6,7,8]) c ?_|refine a0a ?_|(apply bRx<;>intro h<;>try (exfalso;(try dsimp only at h);omega)))
  all_goals (conv=>whnf)
  all_goals first
   |(exfalso;omega)
   |exact rOx [0,1,2,3,4,5,6,7,8] a0b
   |trace_state
end
section
attribute [local irreducible] a0q a0r a0k a0P sortI
theorem k0S {L:List Rc} {x:Rc} {q:Nat} (h:q<L.length):(L++ [x]).getD q rc0=L.getD q rc0:=by
 rw [List.getD,List.getD,c1u h]
theorem k0T {L:List Rc} {x:Rc} {m:Nat} (h:L.length=m):(L++ [x]).getD m rc0=x:=by
 rw [List.getD,c1l (by omega),<-h,j1k];rfl
abbrev rnD (n hc hb hl np:Nat) (L:List Rc):List GD:= [⟨6,hc,g6 L (n+1)⟩,⟨7,hb,g7 L (n+2) np⟩,⟨8,hl,g8 L⟩]
theorem e1J {H:a0j} {n m np th hc hb hl:Nat} {L:List Rc} {x:Rc} (hn:9<=n) (ht:9<=th/\th<n) (hc9:9<=hc/\hc≠th) (hb9:9<=hb/\hb≠th) (hl9:9<=hl/\hl≠th) (hL:L.length=m)
  (h5:a0s H th=some (.one false (.cols (m+1) [.svs (e0d 6 m++ [.ptr hc 0 0 0])]))) (h6:a0s H 6=fmB false m (g6 L 7)) (h7:a0s H 7=fmB false m (g7 L 8 np)) (h8:a0s H 8=fmB false m (g8 L))
  (k6:a0s H hc=some (.one false (.cells [.int .i64 x.d,.ptr hb 0 0 0,.bool x.mv,.bool x.cl]))) (k7:a0s H hb=some (.one false (.cells [.sl 4 0 0 np,.sl hl 0 0 x.R.length]))) (k8:a0s H hl=some (.one false (pxB x.R.length (a0y x.R))))
  (hdist:x0i (rnD n hc hb hl np (L++ [x]))=true):
  Relab H n (gdR n m (rnD n hc hb hl np (L++ [x]))) (fun _=>0) ((th,rgP false n (m+1))::gdN n (m+1) 0 (rnD n hc hb hl np (L++ [x]))) [6,hc,7,hb,8,hl] 3:=by
 have r0:∀q,q<m->gdR n m (rnD n hc hb hl np (L++ [x])) n q=some (6,q):=fun q hq=>g0y (D:=rnD n hc hb hl np (L++ [x])) (i:=0) (d:=⟨6,hc,g6 (L++ [x]) (n+1)⟩) rfl hq
 have r1:∀q,q<m->gdR n m (rnD n hc hb hl np (L++ [x])) (n+1) q=some (7,q):=fun q hq=>g0y (D:=rnD n hc hb hl np (L++ [x])) (i:=1) (d:=⟨7,hb,g7 (L++ [x]) (n+2) np⟩) rfl hq
 have r2:∀q,q<m->gdR n m (rnD n hc hb hl np (L++ [x])) (n+2) q=some (8,q):=fun q hq=>g0y (D:=rnD n hc hb hl np (L++ [x])) (i:=2) (d:=⟨8,hl,g8 (L++ [x])⟩) rfl hq
 have s0:gdR n m (rnD n hc hb hl np (L++ [x])) n m=some (hc,0):=f0s (D:=rnD n hc hb hl np (L++ [x])) (i:=0) (d:=⟨6,hc,g6 (L++ [x]) (n+1)⟩) rfl;have s1:gdR n m (rnD n hc hb hl np (L++ [x])) (n+1) m=some (hb,0):=f0s (D:=rnD n hc hb hl np (L++ [x])) (i:=1) (d:=⟨7,hb,g7 (L++ [x]) (n+2) np⟩) rfl;have s2:gdR n m (rnD n hc hb hl np (L++ [x])) (n+2) m=some (hl,0):=f0s (D:=rnD n hc hb hl np (L++ [x])) (i:=2) (d:=⟨8,hl,g8 (L++ [x])⟩) rfl;have e6:∀q,q<m->g6 (L++ [x]) (n+1) q= .cells [.int .i64 (L.getD q rc0).d,.ptr (n+1) q 0 0,.bool (L.getD q rc0).mv,.bool (L.getD q rc0).cl]:=fun q hq=>by unfold g6;rw [k0S (by omega)]
 have e7:∀q,q<m->g7 (L++ [x]) (n+2) np q= .cells [.sl 4 0 0 np,.sl (n+2) q 0 (L.getD q rc0).R.length]:=fun q hq=>by unfold g7;rw [k0S (by omega)]
 have e8:∀q,q<m->g8 (L++ [x]) q=g8 L q:=fun q hq=>by unfold g8;rw [k0S (by omega)]
 have f6:g6 (L++ [x]) (n+1) m= .cells [.int .i64 x.d,.ptr (n+1) m 0 0,.bool x.mv,.bool x.cl]:=by unfold g6;rw [k0T hL]
 have f7:g7 (L++ [x]) (n+2) np m= .cells [.sl 4 0 0 np,.sl (n+2) m 0 x.R.length]:=by unfold g7;rw [k0T hL]
 have f8:g8 (L++ [x]) m=pxB x.R.length (a0y x.R):=by unfold g8;rw [k0T hL]
 exact m0r (n:=n) (th:=th) (rnD n hc hb hl np (L++ [x])) (by omega) h5 (j0k ⟨⟨fun _=>rfl,t0e (by omega) r0 s0⟩,trivial⟩)
  ⟨⟨(show (6:Nat)≠th by omega),hc9.2,⟨_,_,h6,fun q hq=>⟨hq,by dsimp only;rw [e6 q hq];exact b0k ⟨a0H _,c0U (by omega) (r1 q hq),a0H _,a0H _,trivial⟩⟩⟩,_,k6,by dsimp only;rw [f6];exact b0k ⟨a0H _,c0U (by omega) s1,a0H _,a0H _,trivial⟩⟩,
    ⟨(show (7:Nat)≠th by omega),hb9.2,⟨_,_,h7,fun q hq=>⟨hq,by dsimp only;rw [e7 q hq];exact b0k ⟨a0H _,h0i (by omega) (r2 q hq),trivial⟩⟩⟩,_,k7,by dsimp only;rw [f7];exact b0k ⟨a0H _,h0i (by omega) s2,trivial⟩⟩,
    ⟨(show (8:Nat)≠th by omega),hl9.2,⟨_,_,h8,fun q hq=>⟨hq,.inl (e8 q hq)⟩⟩,_,k8,.inl f8⟩,trivial⟩ hdist
abbrev roD (n np:Nat) (L:List Rc):List RD:= [⟨6,g6 L (n+1)⟩,⟨7,g7 L (n+2) np⟩,⟨8,g8 L⟩]
theorem e1K {H:a0j} {n m np th:Nat} {L:List Rc} (hn:9<=n) (ht:th<n/\th≠6/\th≠7/\th≠8)
  (h5:a0s H th=rgP false 6 m) (h6:a0s H 6=fmB false m (g6 L 7)) (h7:a0s H 7=fmB false m (g7 L 8 np)) (h8:a0s H 8=fmB false m (g8 L)):
  Relab H n (rdR n m (roD n np L)) (fun _=>0) ((th,rgP false n m)::rdN n m 0 (roD n np L)) [6,7,8] 3:=by
 have r0:∀q,q<m->rdR n m (roD n np L) n q=some (6,q):=fun q hq=>i0M (D:=roD n np L) (i:=0) (d:=⟨6,g6 L (n+1)⟩) rfl hq
 have r1:∀q,q<m->rdR n m (roD n np L) (n+1) q=some (7,q):=fun q hq=>i0M (D:=roD n np L) (i:=1) (d:=⟨7,g7 L (n+2) np⟩) rfl hq
 have r2:∀q,q<m->rdR n m (roD n np L) (n+2) q=some (8,q):=fun q hq=>i0M (D:=roD n np L) (i:=2) (d:=⟨8,g8 L⟩) rfl hq
 exact p0K (n:=n) (th:=th) (roD n np L) ht.1 h5 (j0k ⟨⟨fun _=>rfl,fun i hi=>c0U (by omega) (r0 i hi)⟩,trivial⟩)
  ⟨⟨(show (6:Nat)≠th by omega),_,_,h6,fun q hq=>⟨hq,b0k ⟨a0H _,c0U (by omega) (r1 q hq),a0H _,a0H _,trivial⟩⟩⟩,⟨(show (7:Nat)≠th by omega),_,_,h7,fun q hq=>⟨hq,b0k ⟨a0H _,h0i (by omega) (r2 q hq),trivial⟩⟩⟩,⟨(show (8:Nat)≠th by omega),_,_,h8,fun q hq=>⟨hq,.inl rfl⟩⟩,trivial⟩ rfl
end
section
attribute [local irreducible] a0q a0r a0k a0P sortI
abbrev rgH (h5 h6 h7 h8 np m:Nat) (cut:Int) (L:List Rc):a0j:= [(1,rgC false h5 np m cut),(h5,rgP false h6 m),(h6,fmB false m (g6 L h7)),(h7,fmB false m (g7 L h8 np)),(h8,fmB false m (g8 L))]
theorem k0U {h5 h6 h7 h8 np m:Nat} {cut:Int} {L:List Rc}:g0h (rgH h5 h6 h7 h8 np m cut L):=a0d (a0d (a0C (a0C (a0C a0b))))
abbrev rgI (np m:Nat) (cut:Int) (L:List Rc) (pr:List ByteArray):a0j:=(4,cyP true np pr)::rgH 5 6 7 8 np m cut L
theorem b1p {ρ:Nat->Nat} {h h' m hc hc':Nat} (e1:ρ h=h') (e2:ρ hc=hc'):SV.rens ρ (e0d h m++ [.ptr hc 0 0 0])=e0d h' m++ [.ptr hc' 0 0 0]:=by
 rw [g0n];simp [e0d,SV.ren,e1,e2]
theorem q0f (L:List Rc) (m:Nat) (hL:L.length=m) (hm:m<=100000) (pr:List ByteArray) (np:Nat) (cut d:Int) (h:d∈rcD L):FC Tryz.prog 9 47 [.ptr 1 0 0 0,.int .i64 d] (rgI np m cut L pr) (a0h (.ptr 6 (a0F (rcD L) d) 0 0) (rgH 12 6 7 8 np m cut L) 13):=by
 have c:=h0B L m hL hm np cut d;unfold rfV at c;rw [if_pos h] at c;refine fEx Tryz.func47 ?_;repeat' ((conv=>whnf);first|refine cOx (l:= [0,1,2,3,4,5,6,7,8]) c ?_|refine a0a ?_|(apply bRx<;>intro h<;>try (exfalso;(try dsimp only at h);omega)))
 all_goals (conv=>whnf)
 all_goals first
  |(exfalso;omega)
  |exact rOx [0,1,2,3,4,5,6,7,8,0,0,0,5] k0U
  |trace_state
abbrev rgN (h5 hc m:Nat):Nat×Option HB:=(h5,some (.one false (.cols (m+1) [.svs (e0d 6 m++ [.ptr hc 0 0 0])])))
theorem q0g (L:List Rc) (m:Nat) (hL:L.length=m) (hm:m<=100000) (pr:List ByteArray) (np:Nat) (hp:pr.length=np) (he:b0u pr=0) (hsz:∀k,(pr.getD k ⟨#[]⟩).size<=9223372036854775807) (cut d:Int) (h:¬d∈rcD L):
  FC Tryz.prog 9 47 [.ptr 1 0 0 0,.int .i64 d] (rgI np m cut L pr)
   (a0h (.ptr 9 0 0 0) [(1,rgC false 12 np (m+1) cut),rgN 12 9 m,(9,some (.one false (.cells [.int .i64 d,.ptr 10 0 0 0,.bool false,.bool false]))),(10,some (.one false (.cells [.sl 4 0 0 np,.sl 11 0 0 0]))),(11,some (.one false (pxB 0 (a0y [])))),(6,fmB false m (g6 L 7)),(7,fmB false m (g7 L 8 np)),(8,fmB false m (g8 L))] 13):=by
 have c:=h0B L m hL hm np cut d;unfold rfV at c;rw [if_neg h] at c;have cN:=p0X pr np hp hsz;unfold b1h at cN;rw [if_neg (by rw [he];simp)] at cN;refine fEx Tryz.func47 ?_;repeat' ((conv=>whnf);first|refine cOx (l:= [0,1,2,3,4,5,6,7,8]) c ?_|refine cOx (l:= [0,4]) cN ?_|refine a0a ?_|(apply bRx<;>intro h<;>try (exfalso;(try dsimp only at h);omega)))
 all_goals (conv=>whnf)
 refine m0e (l:= [0,1,2,3,4,5,6,7,8,10,9,13,12]) [.cell 9 1 [.sc (.strs []),.sc (.ints .i64 []),.sc (.strs [])]] ⟨rfl,rfl,?_⟩ (a0d (a0d (a0d (a0d (a0d (a0C (a0C (a0C a0b))))))));refine ⟨rfl,?_,rfl,rfl,rfl,rfl,rfl,rfl,trivial⟩;exact (congrArg (fun x=>some (HB.one false (Blk.cols (m+1) [BCol.svs x]))) (b1p (h':=6) (hc':=10) rfl rfl)).symm
theorem t0C (L:List Rc) (m m':Nat) (hL:L.length=m) (hm:m<=100000) (pr:List ByteArray) (np:Nat) (hp:pr.length=np) (he:b0u pr=0) (hsz:∀k,(pr.getD k ⟨#[]⟩).size<=9223372036854775807) (cut d:Int) (hm':(rcW L d).length=m'):
  FC Tryz.prog 9 47 [.ptr 1 0 0 0,.int .i64 d] (rgI np m cut L pr) (a0h (.ptr 13 (a0F (rcD (rcW L d)) d) 0 0) (rgH 12 13 14 15 np m' cut (rcW L d)) 16):=by
 by_cases h:d∈rcD L
 .have e:rcW L d=L:=if_pos h;rw [e] at hm'⊢;rw [hL] at hm';subst hm';have hi:a0F (rcD L) d<m:=by have:=(d0O h).1;omega
  exact p0Z [(1,rgC false 12 np m cut)] (q0f L m hL hm pr np cut d h) (e1K (n:=13) (np:=np) (L:=L) (by omega) (by omega) rfl rfl rfl rfl)
   (c0U (n0q 13) (i0M (D:=roD 13 np L) (i:=0) (d:=⟨6,g6 L 14⟩) rfl hi)) (fun h hh=>by
    simp only [a0n,a1A] at hh;subst hh;exact ⟨rfl,by simp [a0n,rdN],by simp⟩)
 .have e:rcW L d=L++ [d0Z d]:=if_neg h;rw [e] at hm'⊢;rw [a1N,hL,f1M] at hm';subst hm';have hi:a0F (rcD (L++ [d0Z d])) d=m:=by
   have e3:rcD (L++ [d0Z d])=rcD L++ [d]:=by simp [d0Z]
   rw [e3];refine m0z (by rw [a1N,e0a,hL];simp) ?_ (fun i hi q=>h ?_)
   .rw [List.getD,c1l (by rw [e0a];omega),e0a,hL,j1k];rfl
   .have hl:i<(rcD L).length:=by rw [e0a];omega
    rw [List.getD,c1u hl,k0n hl] at q;rw [<-q];exact g1v hl
  rw [hi];exact p0Z [(1,rgC false 12 np (m+1) cut)] (q0g L m hL hm pr np hp he hsz cut d h) (e1J (n:=13) (th:=12) (hc:=9) (hb:=10) (hl:=11) (np:=np) (L:=L) (x:=d0Z d) (by omega) (by omega) (by omega) (by omega) (by omega) hL rfl rfl rfl rfl rfl rfl rfl rfl)
   (c0U (n0q 13) (f0s (D:=rnD 13 9 10 11 np (L++ [d0Z d])) (i:=0) (d:=⟨6,9,g6 (L++ [d0Z d]) 14⟩) rfl)) (fun h hh=>by
    simp only [a0n,a1A] at hh;subst hh;exact ⟨rfl,by simp [a0n,gdN],by simp⟩)
end
section
attribute [local irreducible] a0q a0r a0k a0P sortI
def g7q (hp:Nat) (L:List Rc) (hl np:Nat) (x:Nat):Blk:= .cells [.sl hp 0 0 np,.sl hl x 0 (L.getD x rc0).R.length]
def g1U (x:Rc) (f t c:ByteArray) (a:Int):Rc:= { x with mv:=true,R:=rmR x.R f t c a}
theorem r0O {L:List Rc} {m i np:Nat} (hi:i<m) (pr:List ByteArray) (hnp:np<=1000000) (hr:(L.getD i rc0).R.length<=10000) (f t c:ByteArray) (a:Int) (hb:∀p c,-4503599627370496<=c0b (L.getD i rc0).R p c/\c0b (L.getD i rc0).R p c<=4503599627370496) (he:rmE np pr (L.getD i rc0).R f t c a≠0):
  FC Tryz.prog 4 48 [.ptr 1 i 0 0,.str f,.str t,.agg [.int .i64 a,.str c]] [(1,fmB false m (g7q 2 L 3 np)),(2,some (.one true (.cols np [.sc (.strs pr)]))),(3,fmB true m (g8 L))] (a0h (.int .i64 (rmE np pr (L.getD i rc0).R f t c a)) [(1,fmB false m (g7q 2 L 3 np))] 4):=by
 have cM:=m0v np pr hnp (L.getD i rc0).R _ rfl hr f t c a hb;unfold b1j at cM;rw [if_neg he] at cM;have c0:=f0r [(1,⟨i,fun x=>x<m,g7q 2 L 3 np⟩),(3,⟨i,fun x=>x<m,g8 L⟩)] (by
  refine ⟨⟨by decide,by decide,_,_,rfl,hi,?_,.inr ⟨rfl,_,rfl⟩⟩,⟨by decide,by decide,_,_,rfl,hi,rfl,.inl rfl⟩,trivial⟩;show Blk.cells [.sl 2 0 0 np,.sl 3 i 0 _]= .cells [.sl 2 0 0 np,.sl 3 (0+i) 0 _];rw [z0z]) (by exact ⟨rfl,rfl,rfl,trivial⟩) (by exact ⟨rfl,trivial⟩) (a0d a0b) cM
 have e:SV.mems (fmu [(1,⟨i,fun x=>x<m,g7q 2 L 3 np⟩),(3,⟨i,fun x=>x<m,g8 L⟩)]) [.ptr 1 0 0 0,.str f,.str t,.agg [.int .i64 a,.str c]]= [.ptr 1 i 0 0,.str f,.str t,.agg [.int .i64 a,.str c]]:=by
  show [SV.ptr 1 (0+i) 0 0,.str f,.str t,.agg [.int .i64 a,.str c]]=_;rw [z0z]
 rw [e] at c0;have e2:(fmB false m (g7q 2 L 3 np))=fmB false m (fun x=>if x=i then .cells [.sl 2 0 0 np,.sl 3 (0+i) 0 (L.getD i rc0).R.length] else g7q 2 L 3 np x):=by
  refine congrArg (fun f=>some (HB.fam false (fun x=>x<m) f)) (funext fun x=> ?_);split
  .rename_i h;subst h;rw [z0z];rfl
  .rfl
 have c1:FC Tryz.prog 4 48 [.ptr 1 i 0 0,.str f,.str t,.agg [.int .i64 a,.str c]] [(1,fmB false m (g7q 2 L 3 np)),(2,some (.one true (.cols np [.sc (.strs pr)]))),(3,fmB true m (g8 L))] (a0h (.int .i64 (rmE np pr (L.getD i rc0).R f t c a)) [(1,fmB false m (fun x=>if x=i then .cells [.sl 2 0 0 np,.sl 3 (0+i) 0 (L.getD i rc0).R.length] else g7q 2 L 3 np x))] 4):=c0;rw [<-e2] at c1;exact c1
abbrev g7n (hp nw hl:Nat) (L:List Rc) (i np k:Nat):Nat->Blk:=fun x=>if x=i then .cells [.sl hp 0 0 np,.sl nw 0 0 k] else g7q hp L hl np x
theorem r0P {L:List Rc} {m i np:Nat} (hi:i<m) (pr:List ByteArray) (hnp:np<=1000000) (hr:(L.getD i rc0).R.length<=10000) (f t c:ByteArray) (a:Int) (hb:∀p c,-4503599627370496<=c0b (L.getD i rc0).R p c/\c0b (L.getD i rc0).R p c<=4503599627370496) (he:rmE np pr (L.getD i rc0).R f t c a=0):
  FC Tryz.prog 4 48 [.ptr 1 i 0 0,.str f,.str t,.agg [.int .i64 a,.str c]] [(1,fmB false m (g7q 2 L 3 np)),(2,some (.one true (.cols np [.sc (.strs pr)]))),(3,fmB true m (g8 L))]
   (a0h (.int .i64 0) [(1,fmB false m (g7n 2 4 3 L i np (rmR (L.getD i rc0).R f t c a).length)),(4,some (.one false (pxB (rmR (L.getD i rc0).R f t c a).length (a0y (rmR (L.getD i rc0).R f t c a)))))] 5):=by
 have cM:=m0v np pr hnp (L.getD i rc0).R _ rfl hr f t c a hb;unfold b1j at cM;rw [if_pos he] at cM;have c0:=f0r [(1,⟨i,fun x=>x<m,g7q 2 L 3 np⟩),(3,⟨i,fun x=>x<m,g8 L⟩)] (by
  refine ⟨⟨by decide,by decide,_,_,rfl,hi,?_,.inr ⟨rfl,_,rfl⟩⟩,⟨by decide,by decide,_,_,rfl,hi,rfl,.inl rfl⟩,trivial⟩;show Blk.cells [.sl 2 0 0 np,.sl 3 i 0 _]= .cells [.sl 2 0 0 np,.sl 3 (0+i) 0 _];rw [z0z]) (by exact ⟨rfl,rfl,rfl,trivial⟩) (by exact ⟨rfl,rfl,trivial⟩) (a0d (a0d a0b)) cM
 have e:SV.mems (fmu [(1,⟨i,fun x=>x<m,g7q 2 L 3 np⟩),(3,⟨i,fun x=>x<m,g8 L⟩)]) [.ptr 1 0 0 0,.str f,.str t,.agg [.int .i64 a,.str c]]= [.ptr 1 i 0 0,.str f,.str t,.agg [.int .i64 a,.str c]]:=by
  show [SV.ptr 1 (0+i) 0 0,.str f,.str t,.agg [.int .i64 a,.str c]]=_;rw [z0z]
 rw [e] at c0;exact c0
abbrev spD (n a b c nw i np:Nat) (L:List Rc):List SD:= [⟨fun q=>(a,q),g6 L (n+1)⟩,⟨fun q=>(b,q),g7 L (n+2) np⟩,⟨fun q=>if q=i then (nw,0) else (c,q),g8 L⟩]
theorem h0C {L:List Rc} {i:Nat} (hi:i<L.length) (y:Rc) (q:Nat):(L.set i y).getD q rc0=if q=i then y else L.getD q rc0:=by
 split
 .rename_i h;subst h;rw [List.getD,j1S hi];rfl
 .rename_i h;rw [List.getD,List.getD,j1R (fun w=>h w.symm)]
theorem e1L {H:a0j} {n m np th a b c nw i:Nat} {L:List Rc} {y:Rc} (hL:L.length=m) (hi:i<m) (hn:th<n/\a<n/\b<n/\c<n/\nw<n/\4<n) (hd:a≠th/\b≠th/\c≠th/\nw≠th) (hd2:a≠b/\a≠c/\a≠nw/\b≠c/\b≠nw/\c≠nw) {f6 f7:Nat->Blk}
  (h5:a0s H th=rgP false a m) (h6:a0s H a=fmB false m f6) (h7:a0s H b=fmB false m f7) (h8:a0s H c=fmB false m (g8 L)) (h9:a0s H nw=some (.one false (pxB y.R.length (a0y y.R))))
  (e6:∀q,f6 q=if q=i then .cells [.int .i64 y.d,.ptr b i 0 0,.bool y.mv,.bool y.cl] else g6 L b q) (e7:∀q,f7 q=if q=i then .cells [.sl 4 0 0 np,.sl nw 0 0 y.R.length] else g7 L c np q):
  Relab H n (sdR n m (spD n a b c nw i np (L.set i y))) (fun _=>0) ((th,rgP false n m)::sdN n m 0 (spD n a b c nw i np (L.set i y))) [a,b,c,nw] 3:=by
 have r0:∀q,q<m->sdR n m (spD n a b c nw i np (L.set i y)) n q=some (a,q):=fun q hq=>t0y (D:=spD n a b c nw i np (L.set i y)) (i:=0) (d:=⟨fun q=>(a,q),g6 (L.set i y) (n+1)⟩) rfl hq
 have r1:∀q,q<m->sdR n m (spD n a b c nw i np (L.set i y)) (n+1) q=some (b,q):=fun q hq=>t0y (D:=spD n a b c nw i np (L.set i y)) (i:=1) (d:=⟨fun q=>(b,q),g7 (L.set i y) (n+2) np⟩) rfl hq
 have r2:∀q,q<m->sdR n m (spD n a b c nw i np (L.set i y)) (n+2) q=some (if q=i then (nw,0) else (c,q)):=fun q hq=>t0y (D:=spD n a b c nw i np (L.set i y)) (i:=2) (d:=⟨fun q=>if q=i then (nw,0) else (c,q),g8 (L.set i y)⟩) rfl hq
 have hs:=h0C (L:=L) (i:=i) (by omega) y;refine x0W (n:=n) (th:=th) (spD n a b c nw i np (L.set i y)) [a,b,c,nw] hn.1 h5 (j0k ⟨⟨fun _=>rfl,fun i hi=>c0U (by omega) (r0 i hi)⟩,trivial⟩) ?_ ?_
 .intro j d hj q hq
  match j,hj with
  |0,hj=>
   simp only [nth,Option.some.injEq] at hj;subst hj;refine ⟨hd.1,by simp,f6 q,⟨_,h6,⟨hq,rfl⟩,rfl⟩,?_⟩;dsimp only;rw [e6];unfold g6;rw [hs];by_cases e:q=i
   .subst e;rw [if_pos rfl,if_pos rfl];exact b0k ⟨a0H _,c0U (by omega) (r1 q hq),a0H _,a0H _,trivial⟩
   .rw [if_neg e,if_neg e];exact b0k ⟨a0H _,c0U (by omega) (r1 q hq),a0H _,a0H _,trivial⟩
  |1,hj=>
   simp only [nth,Option.some.injEq] at hj;subst hj;refine ⟨hd.2.1,by simp,f7 q,⟨_,h7,⟨hq,rfl⟩,rfl⟩,?_⟩;dsimp only;rw [e7];have r2q:=r2 q hq;unfold g7;rw [hs];by_cases e:q=i
   .subst e;rw [if_pos rfl] at r2q;rw [if_pos rfl,if_pos rfl];exact b0k ⟨a0H _,h0i (by omega) r2q,trivial⟩
   .rw [if_neg e] at r2q;rw [if_neg e,if_neg e];exact b0k ⟨a0H _,h0i (by omega) r2q,trivial⟩
  |2,hj=>
   simp only [nth,Option.some.injEq] at hj;subst hj;dsimp only;unfold g8;rw [hs];by_cases e:q=i
   .subst e;rw [if_pos rfl,if_pos rfl];exact ⟨hd.2.2.2,by simp,_,⟨_,h9,⟨rfl,rfl⟩,rfl⟩,.inl rfl⟩
   .rw [if_neg e,if_neg e];exact ⟨hd.2.2.1,by simp,_,⟨_,h8,⟨hq,rfl⟩,rfl⟩,.inl rfl⟩
  |j+3,hj=>simp [nth] at hj
 .intro j k d e q q' hj hk hq hq' heq;have hall:∀(j:Nat) (d:SD) (q:Nat),nth (spD n a b c nw i np (L.set i y)) j=some d->(j=0/\d.src q=(a,q))\/(j=1/\d.src q=(b,q))\/(j=2/\d.src q=if q=i then (nw,0) else (c,q)):=by
   intro j d q hj
   match j,hj with
   |0,hj=>simp only [nth,Option.some.injEq] at hj;subst hj;exact .inl ⟨rfl,rfl⟩
   |1,hj=>simp only [nth,Option.some.injEq] at hj;subst hj;exact .inr (.inl ⟨rfl,rfl⟩)
   |2,hj=>simp only [nth,Option.some.injEq] at hj;subst hj;exact .inr (.inr ⟨rfl,rfl⟩)
   |j+3,hj=>simp [nth] at hj
  obtain ⟨x1,x2,x3,x4,x5,x6⟩:=hd2;rcases hall j d q hj with ⟨rfl,h1⟩|⟨rfl,h1⟩|⟨rfl,h1⟩<;>rcases hall k e q' hk with ⟨rfl,h2⟩|⟨rfl,h2⟩|⟨rfl,h2⟩<;>rw [h1,h2] at heq
  .simp only [Prod.mk.injEq] at heq;exact ⟨rfl,heq.2⟩
  .simp only [Prod.mk.injEq] at heq;omega
  .split at heq<;>simp only [Prod.mk.injEq] at heq<;>omega
  .simp only [Prod.mk.injEq] at heq;omega
  .simp only [Prod.mk.injEq] at heq;exact ⟨rfl,heq.2⟩
  .split at heq<;>simp only [Prod.mk.injEq] at heq<;>omega
  .split at heq<;>simp only [Prod.mk.injEq] at heq<;>omega
  .split at heq<;>simp only [Prod.mk.injEq] at heq<;>omega
  .split at heq<;>split at heq<;>simp only [Prod.mk.injEq] at heq<;>omega
end
section
attribute [local irreducible] a0q a0r a0k a0P sortI
def b1q (L:List Rc) (pr:List ByteArray) (np:Nat) (D:Int) (f t c:ByteArray) (a:Int):Int:=if D<0 then 14 else rmE np pr (b0a L D).R f t c a
def t0D (L:List Rc) (pr:List ByteArray) (np:Nat) (D:Int) (f t c:ByteArray) (a:Int):List Rc:=if D<0 then L else if rmE np pr (b0a L D).R f t c a=0 then h0A L D (g1U (b0a L D) f t c a) else rcW L D
def g1V (L:List Rc) (pr:List ByteArray) (np:Nat) (cut D:Int) (f t c:ByteArray) (a:Int):SV->a0j->Nat->Prop:=
 a0h (.tup [.int .i64 (if b1q L pr np D f t c a=0 then D else 0),.int .i64 (b1q L pr np D f t c a)]) (rgH 9 10 11 12 np (t0D L pr np D f t c a).length cut (t0D L pr np D f t c a)) 13
abbrev i1v (np m hn:Nat) (cut:Int) (hs:List Int) (L:List Rc) (pr:List ByteArray):a0j:=(2,rcC true 3 hn)::(3,inB hn hs)::rgI np m cut L pr
theorem e1M {ρ:Nat->Nat} {i:Nat} {A:Blk} {F:Nat->Blk} {B:Blk} {G:Nat->Blk} (h:Blk.ren ρ A=B/\∀q,Blk.ren ρ (F q)=G q) (q:Nat):Blk.ren ρ (if q=i then A else F q)=if q=i then B else G q:=by
 split
 .exact h.1
 .exact h.2 q
set_option maxHeartbeats 1000000 in
theorem b1r {np m hn:Nat} {hs:List Int} {L:List Rc} {pr:List ByteArray} (hL:L.length=m) (hm:m<=1000) (hN:(rcD L).Nodup) (hh:hs.length=hn) (hn4:hn<=100000) (hp:pr.length=np) (he:b0u pr=0) (hsz:∀k,(pr.getD k ⟨#[]⟩).size<=9223372036854775807) (hnp:np<=1000)
  (hR:∀d,(b0a L d).R.length<=10000) (hB:∀d p c,-4503599627370496<=c0b (b0a L d).R p c/\c0b (b0a L d).R p c<=4503599627370496) (cut t:Int) (f g c:ByteArray) (a:Int):
  FC Tryz.prog 9 24 [.ptr 1 0 0 0,.int .i64 t,.str f,.str g,.agg [.int .i64 a,.str c]] (i1v np m hn cut hs L pr) (g1V L pr np cut (mvD hs (rcX L) (ofI hs cut t)) f g c a):=by
 have c1:=c1P np hn m cut hs hh hn4 t;rw [p0S] at c1;have hX:=c1J (hs:=hs) (cut:=cut) (t:=t);generalize ofI hs cut t=X at*;have hD:mvF hs (rcX L) 100001 X=mvD hs (rcX L) X:=by unfold mvD;rfl
 generalize mvD hs (rcX L) X=D at*;obtain ⟨K0,hK⟩:∃K:Nat,K=100001:=⟨_,rfl⟩;rw [<-hK] at hD;refine fEx Tryz.func24 ?_;repeat' ((conv=>whnf);first|refine cOx (l:= [0,1,2,3,4,5,6,7,8]) c1 ?_|refine a0a ?_|(apply bRx<;>intro h<;>try (exfalso;(try dsimp only at h);omega)))
 all_goals (conv=>whnf)
 refine a0E (fun x:Nat×Int=>⟨[(0,.ptr 1 0 0 0),(2,.str f),(3,.str g),(9,.ptr 9 0 0 0),(12,.int .i64 (ofP x.2)),(13,.int .i64 (ofQ x.2))],(9,some (.one false (.cells [.int .i64 a,.str c])))::i1v np m hn cut hs L pr,10⟩) (fun x=>mvF hs (rcX L) x.1 x.2=D/\x.2<=99999/\(x.2<0\/100001-x.2<=(x.1:Int))) (fun x=>x.1) (K0,X) [0,1,2,3,4,5,6,7,8,9] [] wHx ⟨hD,hX,by dsimp only;omega⟩ ?_;rintro ⟨k,x⟩ ⟨hF,hx,hk⟩;dsimp only at hF hx hk;clear hD hX hK c1;by_cases h0:x<0
 .have e1:ofP x=0:=if_pos h0;have e2:ofQ x=14:=if_pos h0;dsimp only;rw [e1,e2];rw [x0I h0] at hF;subst hF;have o1:b1q L pr np (-1) f g c a=14:=if_pos (by decide);have o2:t0D L pr np (-1) f g c a=L:=if_pos (by decide);unfold g1V;rw [o1,o2,if_neg (by decide),hL];repeat' ((conv=>whnf);first|refine a0a ?_|(apply bRx<;>intro h<;>try (exfalso;(try dsimp only at h);omega)))
  all_goals (conv=>whnf)
  all_goals first
   |exact rOx [0,1,2,3,4,5,6,7,8,5,6,7,8] k0U
   |(exfalso;omega)
   |trace_state
 .have e1:ofP x=x:=if_neg h0;have e2:ofQ x=0:=if_neg h0;dsimp only;rw [e1,e2];obtain ⟨k,rfl⟩:∃j,k=j+1:=⟨k-1,by omega⟩;simp only [mvF] at hF;rw [if_neg h0] at hF;have c2:=f0R L m hL (by omega) np cut x;by_cases hxc:x∈rcX L
  .rw [if_pos hxc] at hF;rw [(k0O hN).1 hxc] at c2;have c3:=q0e np hn m cut hs hh hn4 x (by omega) hx;rw [p0S] at c3;have hN2:nxI hs (x+1)<=99999/\(nxI hs (x+1)<0\/x+1<=nxI hs (x+1)):=by
    by_cases q:nxI hs (x+1)<0
    .exact ⟨by omega,.inl q⟩
    .have:=x0C q;exact ⟨this.2.1,.inr this.1⟩
   generalize nxI hs (x+1)=y at*;repeat' ((conv=>whnf);first|refine cOx (l:= [0,1,2,3,4,5,6,7,8]) c2 ?_|refine cOx (l:= [0,1,2,3,4,5,6,7,8]) c3 ?_|refine a0a ?_|(apply bRx<;>intro h<;>try (exfalso;(try dsimp only at h);omega)))
   all_goals (conv=>whnf)
   all_goals first
    |exact ⟨(k,y),[0,1,2,3,4,5,6,7,8,9],[],⟨hF,hN2.1,by dsimp only;omega⟩,l1q k,⟨rfl,⟨rfl,rfl,rfl,rfl,rfl,rfl,trivial⟩,⟨rfl,rfl,rfl,rfl,rfl,rfl,rfl,rfl,rfl,trivial⟩⟩⟩
    |(exfalso;omega)
    |trace_state
  .rw [if_neg hxc] at hF;have hcl:(b0a L x).cl=false:=by
    cases q:(b0a L x).cl with
    |false=>rfl
    |true=>exact absurd ((k0O hN).2 q) hxc
   rw [hcl] at c2;subst hF;have hlen:=n0W L x;have hat:b0a L x=(rcW L x).getD (a0F (rcD (rcW L x)) x) rc0:=by
    rw [<-k0Q x x];exact if_pos (f0A L x)
   have hi:a0F (rcD (rcW L x)) x<(rcW L x).length:=(d0O (f0A L x)).1;have c3:=t0C L m (rcW L x).length hL (by omega) pr np hp he hsz cut x rfl;have hRx:=hR x;have hBx:=hB x;have oX:b1q L pr np x f g c a=rmE np pr (b0a L x).R f g c a:=if_neg h0;by_cases hz:rmE np pr (b0a L x).R f g c a=0
   .have oL:t0D L pr np x f g c a=(rcW L x).set (a0F (rcD (rcW L x)) x) (g1U (b0a L x) f g c a):=by
     unfold t0D;rw [if_neg h0,if_pos hz];rfl
    unfold g1V;rw [oX,oL,hz,if_pos rfl,j1B];rw [hat] at hz hRx hBx⊢;clear oX oL hat;generalize a0F (rcD (rcW L x)) x=i at*;generalize rcW L x=L2 at*;obtain ⟨m2,hm2⟩:∃m2,L2.length=m2:=⟨_,rfl⟩;rw [hm2] at hi c3⊢;have c4:=r0P hi pr (by omega) hRx f g c a hBx hz;repeat' ((conv=>whnf);first|refine cOx (l:= [0,1,2,3,4,5,6,7,8]) c2 ?_|refine cOx (l:= [0,1,2,3,4,5,6,7,8]) c3 ?_|refine cOx (l:= [0,15,4,16]) c4 ?_|refine a0a ?_|(apply bRx<;>intro h<;>try (exfalso;(try dsimp only at h);omega)))
    all_goals (conv=>whnf)
    all_goals first
     |exact m0e (l:= [0,1,2,3,4,5,6,7,8,13,18,19,20]) [.relab (sdR 18 m2 (spD 18 14 15 16 17 i np (L2.set i (g1U (L2.getD i rc0) f g c a)))) (fun _=>0) ((13,rgP false 18 m2)::sdN 18 m2 0 (spD 18 14 15 16 17 i np (L2.set i (g1U (L2.getD i rc0) f g c a)))) [14,15,16,17] 3] ⟨e1L (n:=18) (y:=g1U (L2.getD i rc0) f g c a) hm2 hi (by decide) (by decide) (by decide) rfl rfl rfl rfl rfl (fun q=>rfl) (e1M ⟨rfl,fun _=>rfl⟩),rfl,rfl,⟨rfl,rfl,rfl,rfl,rfl,trivial⟩⟩ k0U
     |(exfalso;omega)
     |trace_state
   .have oL:t0D L pr np x f g c a=rcW L x:=by
     unfold t0D;rw [if_neg h0,if_neg hz]
    unfold g1V;rw [oX,oL,if_neg hz];rw [hat] at hz hRx hBx⊢;clear oX oL hat;generalize a0F (rcD (rcW L x)) x=i at*;generalize rcW L x=L2 at*;obtain ⟨m2,hm2⟩:∃m2,L2.length=m2:=⟨_,rfl⟩;rw [hm2] at hi c3⊢;have c4:=r0O hi pr (by omega) hRx f g c a hBx hz;generalize rmE np pr (L2.getD i rc0).R f g c a=e at*;repeat' ((conv=>whnf);first|refine cOx (l:= [0,1,2,3,4,5,6,7,8]) c2 ?_|refine cOx (l:= [0,1,2,3,4,5,6,7,8]) c3 ?_|refine cOx (l:= [0,15,4,16]) c4 ?_|refine a0a ?_|(apply bRx<;>intro h<;>try (exfalso;(try dsimp only at h);omega)))
    all_goals (conv=>whnf)
    all_goals first
     |exact rOx [0,1,2,3,4,5,6,7,8,13,14,15,16] k0U
     |(exfalso;omega)
     |trace_state
end
section
attribute [local irreducible] a0q a0r a0k a0P sortI
def opF (L:List Rc):List Int:=(L.filter fun x=>x.mv&& !x.cl).map Rc.d
structure OoI (L:List Rc) (i m:Nat) (O:List Int):Prop where
 le:i<=L.length
 m:O.length=m
 asc:O.Pairwise (fun a b=>a<=b)
 perm:O.Perm (opF (L.take i))
theorem e1N (L:List Rc):(opF L).length<=L.length:=by unfold opF;rw [j1G];exact j1L _ _
theorem y0h {L:List Rc} {i:Nat} (hi:i<L.length):L.take (i+1)=L.take i++ [L.getD i rc0]:=by
 rw [List.take_add_one,List.getD,k0n hi];rfl
theorem b1s {L:List Rc} {i m:Nat} {O:List Int} (h:OoI L i m O) (hi:i<L.length) (ho:((L.getD i rc0).mv&& !(L.getD i rc0).cl)=false):OoI L (i+1) m O:=by
 refine ⟨hi,h.m,h.asc,?_⟩;rw [y0h hi];unfold opF;rw [j1v,j1y,ho];simp only [j1i,if_false,l1x,l1K];exact h.perm
theorem e1O {L:List Rc} {i m k:Nat} {O:List Int} (h:OoI L i m O) (hi:i<L.length) (ho:((L.getD i rc0).mv&& !(L.getD i rc0).cl)=true) (hk:k<=m) (h1:0<k->O.getD (k-1) 0<=(L.getD i rc0).d) (h2:k<m->(L.getD i rc0).d<=O.getD k 0):OoI L (i+1) (k+1+(m-k)) (O.take k++(L.getD i rc0).d::O.drop k):=by
 have hm:=h.m;have asc:∀{a b:Nat},a<b->b<O.length->O.getD a 0<=O.getD b 0:=fun {a b} hab hb=>by
  have:=g1z.1 h.asc a b (by omega) hb hab;rw [List.getD,List.getD,k0n (by omega),k0n hb];exact this
 refine ⟨hi,by simp;omega,?_,?_⟩
 .refine j1z.2 ⟨h.asc.sublist (l1O _ _),k1Y.2 ⟨fun b hb=> ?_,h.asc.sublist (l1l _ _)⟩,fun a ha b hb=> ?_⟩
  .obtain ⟨j,hj,e⟩:=k1J.1 hb;rw [j1C] at hj;rw [List.getElem_drop] at e;have e2:O.getD (k+j) 0=b:=by rw [List.getD,k0n (by omega),e];rfl
   have:=h2 (by omega);by_cases q:j=0
   .subst q;rw [<-e2];exact this
   .have:=asc (show k<k+j by omega) (by omega);omega
  .obtain ⟨j,hj,e⟩:=k1J.1 ha;rw [d1P] at hj;rw [k1N] at e;have e2:O.getD j 0=a:=by rw [List.getD,k0n (by omega),e];rfl
   have hb1:=h1 (by omega);have hle:a<=O.getD (k-1) 0:=by
    by_cases q:j=k-1
    .rw [<-q,e2];exact j1T _
    .rw [<-e2];exact asc (show j<k-1 by omega) (by omega)
   rcases a1q.1 hb with rfl|hb
   .omega
   .obtain ⟨j',hj',e'⟩:=k1J.1 hb;rw [j1C] at hj';rw [List.getElem_drop] at e';have e3:O.getD (k+j') 0=b:=by rw [List.getD,k0n (by omega),e'];rfl
    rw [<-e2,<-e3];exact asc (show j<k+j' by omega) (by omega)
 .rw [y0h hi];have e:opF (L.take i++ [L.getD i rc0])=opF (L.take i)++ [(L.getD i rc0).d]:=by
   unfold opF;rw [j1v,j1y,ho];simp only [if_true,l1x,h1W,j1D,k1H]
  rw [e];have p1:(O.take k++(L.getD i rc0).d::O.drop k).Perm ((L.getD i rc0).d::(O.take k++O.drop k)):=List.perm_middle;rw [k1o] at p1;exact p1.trans ((List.Perm.cons _ h.perm).trans (List.perm_append_singleton _ _).symm)
theorem e1P {O:List Int} {m k:Nat} (hm:O.length=m) (hk:k<=m) {d:Int}:
  (some (HB.one false (.cols (0+k+1+(m-k)) [.sc (.ints .i64 (seg 0 k O++ [d]++seg (k+0) (m-k) O))])):Option HB)=some (.one false (.cols (0+k+1+(m-k)) [.sc (.ints .i64 (O.take k++d::O.drop k))])):=by
 rw [j0m (l:=O) (by simp [hm])];simp [t0u]
theorem y0i {l m:List Int} (hp:m.Perm l) (hm:m.Pairwise (fun a b=>a<=b)):sortI l=m:=
 (f0H l|>.trans hp.symm).eq_of_pairwise (le:=fun a b=>a<=b) (fun a b _ _ h1 h2=>Int.le_antisymm h1 h2) (d0V l) hm
theorem t0E (L:List Rc) (n:Nat) (hn:L.length=n) (hl:n<=100000) (np:Nat) (cut:Int):FC Tryz.prog 9 13 [.ptr 1 0 0 0] [(1,rgC true 5 np n cut),(5,rgP true 6 n),(6,fmB true n (g6 L 7))] (a0h (.sl 9 0 0 (rcO L).length) [(9,some (.one false (.cols (rcO L).length [.sc (.ints .i64 (rcO L))])))] 10):=by
 refine fEx Tryz.func13 ?_;repeat' ((conv=>whnf);first|refine a0a ?_|(apply bRx<;>intro h<;>try (exfalso;(try dsimp only at h);omega)))
 all_goals (conv=>whnf)
 refine a0f (fun x:Nat×Nat×List Int=>⟨[(0,.ptr 1 0 0 0),(3,.sl 9 0 0 x.2.1),(4,.int .i64 x.1)],[(1,rgC true 5 np n cut),(5,rgP true 6 n),(6,fmB true n (g6 L 7)),(9,some (.one false (.cols x.2.1 [.sc (.ints .i64 x.2.2)])))],10⟩) (fun x=>OoI L x.1 x.2.1 x.2.2) (fun x=>n-x.1) (0,0,[]) [0,1,2,3,4,5,6,7,8,9] [.slot 3 [.sc (.ints .i64 [])]] wHx ⟨w0F _,rfl,List.Pairwise.nil,List.Perm.refl _⟩ ?_;rintro ⟨i,m,O⟩ hI;dsimp only at hI⊢;have hi:=hI.le;rw [hn] at hi;have hmn:m<=n:=by
  have h1:=hI.perm.length_eq;have h2:=e1N (L.take i);rw [d1P] at h2;have:=hI.m;omega
 by_cases hi2:i<n
 .cases ho:((L.getD i rc0).mv&& !(L.getD i rc0).cl) with
  |false=>
   have hs:=b1s hI (by omega) ho;repeat' ((conv=>whnf);first|refine a0a ?_|(apply bRx<;>intro h<;>try (exfalso;(try dsimp only at h);omega)))
   all_goals (conv=>whnf)
   all_goals first
    |exact ⟨(i+1,m,O),[0,1,2,3,4,5,6,7,8,9],[],hs,(show n-(i+1)<n-i by omega),⟨rfl,⟨rfl,rfl,congrArg (fun z=>some (SV.int .i64 z)) (a0e (by omega)),trivial⟩,⟨rfl,rfl,rfl,rfl,trivial⟩⟩⟩
    |(exfalso;first|omega|contradiction)
    |(exfalso;simp_all;done)
    |trace_state
  |true=>
   obtain ⟨hmv,hcl⟩:(L.getD i rc0).mv=true/\(L.getD i rc0).cl=false:=by simpa using ho
   repeat' ((conv=>whnf);first|refine a0a ?_|(apply bRx<;>intro h<;>try (exfalso;(try dsimp only at h);omega)))
   all_goals (conv=>whnf)
   all_goals first
    |(exfalso;first|omega|contradiction)
    |(exfalso;simp_all;done)
    |skip
   refine a0f (fun k:Nat=>⟨[(0,.ptr 1 0 0 0),(3,.sl 9 0 0 m),(4,.int .i64 i),(5,.ptr 6 i 0 0),(6,.int .i64 k)],[(1,rgC true 5 np n cut),(5,rgP true 6 n),(6,fmB true n (g6 L 7)),(9,some (.one false (.cols m [.sc (.ints .i64 O)])))],10⟩) (fun k=>k<=m/\(k<m->(L.getD i rc0).d<=O.getD k 0)) (fun k=>k) m [0,1,2,3,4,5,6,7,8,9] [] wHx ⟨n0q _,fun h=>absurd h (k1r _)⟩ ?_;rintro k ⟨hk,hge⟩;have e1:IntKind.i64.wrap ((k:Int)-1)=(k:Int)-1:=a0m (by omega) (by omega);have e2:((k:Int)-1).toNat=k-1:=by omega
   have hq:O.getD (k-1+0) 0=O.getD (k-1) 0:=rfl;have hput:=fun (h1:0<k->O.getD (k-1) 0<=(L.getD i rc0).d)=>(show k+1+(m-k)=0+k+1+(m-k) by omega)▸e1O hI (by omega) ho hk h1 hge
   have hrow:=e1P hI.m hk (d:=(L.getD i rc0).d);by_cases hk2:0<k
   .by_cases hlt:(L.getD i rc0).d<O.getD (k-1) 0
    .have hn2:k-1<=m/\(k-1<m->(L.getD i rc0).d<=O.getD (k-1) 0):=⟨by omega,fun _=>by omega⟩;have e3:(k:Int)-1=((k-1:Nat):Int):=by omega
     repeat' ((conv=>whnf);first|(simp only [e1,e2])|(refine And.intro ⟨?_,trivial,?_⟩ ?_;omega;omega)|refine a0a ?_|(apply bRx<;>intro h<;>try (exfalso;(try dsimp only at h);omega)))
     all_goals (conv=>whnf)
     all_goals first
      |exact ⟨k-1,[0,1,2,3,4,5,6,7,8,9],[],hn2,(show k-1<k by omega),⟨rfl,⟨rfl,rfl,rfl,rfl,congrArg (fun z=>some (SV.int .i64 z)) (e1.trans e3),trivial⟩,⟨rfl,rfl,rfl,rfl,trivial⟩⟩⟩
      |exact ⟨k-1,[0,1,2,3,4,5,6,7,8,9],[],hn2,(show k-1<k by omega),⟨rfl,⟨rfl,rfl,rfl,rfl,congrArg (fun z=>some (SV.int .i64 z)) e3,trivial⟩,⟨rfl,rfl,rfl,rfl,trivial⟩⟩⟩
      |(exfalso;first|omega|contradiction)
      |trace_state
    .have hp:=hput (fun _=>by omega);repeat' ((conv=>whnf);first|(simp only [e1,e2])|(refine And.intro ⟨?_,trivial,?_⟩ ?_;omega;omega)|refine a0a ?_|(apply bRx<;>intro h<;>try (exfalso;(try dsimp only at h);omega)))
     all_goals (conv=>whnf)
     all_goals first
      |(exfalso;first|omega|contradiction)
      |exact ⟨(i+1,0+k+1+(m-k),O.take k++(L.getD i rc0).d::O.drop k),[0,1,2,3,4,5,6,7,8,14],[],hp,(show n-(i+1)<n-i by omega),⟨rfl,⟨rfl,rfl,congrArg (fun z=>some (SV.int .i64 z)) (a0e (by omega)),trivial⟩,⟨rfl,rfl,rfl,hrow,trivial⟩⟩⟩
      |trace_state
   .have hp:=hput (fun h=>absurd h hk2);repeat' ((conv=>whnf);first|(simp only [e1,e2])|(refine And.intro ⟨?_,trivial,?_⟩ ?_;omega;omega)|refine a0a ?_|(apply bRx<;>intro h<;>try (exfalso;(try dsimp only at h);omega)))
    all_goals (conv=>whnf)
    all_goals first
     |(exfalso;first|omega|contradiction)
     |exact ⟨(i+1,0+k+1+(m-k),O.take k++(L.getD i rc0).d::O.drop k),[0,1,2,3,4,5,6,7,8,14],[],hp,(show n-(i+1)<n-i by omega),⟨rfl,⟨rfl,rfl,congrArg (fun z=>some (SV.int .i64 z)) (a0e (by omega)),trivial⟩,⟨rfl,rfl,rfl,hrow,trivial⟩⟩⟩
     |trace_state
 .have e:i=n:=by omega
  subst e;have e1:rcO L=O:=by
   have:=hI.perm;rw [<-hn,g1y] at this;exact y0i this hI.asc
  have e2:=hI.m;rw [e1,e2];repeat' ((conv=>whnf);first|refine a0a ?_|(apply bRx<;>intro h<;>try (exfalso;(try dsimp only at h);omega)))
  all_goals (conv=>whnf)
  all_goals first
   |exact rOx [0,1,2,3,4,5,6,7,8,9] (a0d a0b)
   |(exfalso;omega)
   |trace_state
end
section
attribute [local irreducible] a0q a0r a0k a0P sortI
theorem r0Q {L:List Rc} {m i np:Nat} (hi:i<m) (pr:List ByteArray) (hr:(L.getD i rc0).R.length<=100000) (hd:g0A (L.getD i rc0).R):
  FC Tryz.prog 4 56 [.ptr 1 i 0 0] [(1,fmB true m (g7q 2 L 3 np)),(2,some (.one true (.cols np [.sc (.strs pr)]))),(3,fmB true m (g8 L))] (a0h (.sl 4 0 0 (nz (L.getD i rc0).R).length) [(4,some (.one false (pxB (nz (L.getD i rc0).R).length (a0y (srt (nz (L.getD i rc0).R))))))] 5):=by
 have cM:=i0n np pr (L.getD i rc0).R _ rfl hr hd;have c0:=f0r [(1,⟨i,fun x=>x<m,g7q 2 L 3 np⟩),(3,⟨i,fun x=>x<m,g8 L⟩)] (by
  refine ⟨⟨by decide,by decide,_,_,rfl,hi,?_,.inl rfl⟩,⟨by decide,by decide,_,_,rfl,hi,rfl,.inl rfl⟩,trivial⟩;show Blk.cells [.sl 2 0 0 np,.sl 3 i 0 _]= .cells [.sl 2 0 0 np,.sl 3 (0+i) 0 _];rw [z0z]) (by exact ⟨rfl,rfl,rfl,trivial⟩) (by exact ⟨rfl,trivial⟩) (a0d a0b) cM
 have e:SV.mems (fmu [(1,⟨i,fun x=>x<m,g7q 2 L 3 np⟩),(3,⟨i,fun x=>x<m,g8 L⟩)]) [.ptr 1 0 0 0]= [.ptr 1 i 0 0]:=by
  show [SV.ptr 1 (0+i) 0 0]=_;rw [z0z]
 rw [e] at c0;exact c0
def rpL (L:List Rc) (d:Int):List Px:=if (b0a L d).mv=true then srt (nz (b0a L d).R) else []
abbrev rpR (np m:Nat) (cut:Int) (L:List Rc) (pr:List ByteArray):a0j:= [(1,rgC true 5 np m cut),(4,cyP true np pr),(5,rgP true 6 m),(6,fmB true m (g6 L 7)),(7,fmB true m (g7 L 8 np)),(8,fmB true m (g8 L))]
theorem h0D (L:List Rc) (m:Nat) (hL:L.length=m) (hm:m<=100000) (np:Nat) (pr:List ByteArray) (cut d:Int) (hr:(b0a L d).R.length<=100000) (hd:g0A (b0a L d).R):
  FC Tryz.prog 9 31 [.ptr 1 0 0 0,.int .i64 d] (rpR np m cut L pr) (a0h (.sl 9 0 0 (rpL L d).length) [(9,some (.one false (pxB (rpL L d).length (a0y (rpL L d)))))] 10):=by
 have c:=h0B L m hL hm np cut d;unfold rfV at c;unfold rpL;by_cases h:d∈rcD L
 .have hi:a0F (rcD L) d<m:=by have:=(d0O h).1;omega
  have hat:b0a L d=L.getD (a0F (rcD L) d) rc0:=if_pos h;rw [if_pos h] at c;rw [hat] at hr hd⊢;clear hat;generalize a0F (rcD L) d=i at*;cases hmv:(L.getD i rc0).mv with
  |true=>
   rw [if_pos rfl];have c2:=r0Q (np:=np) hi pr hr hd;have el:(nz (L.getD i rc0).R).length=(srt (nz (L.getD i rc0).R)).length:=(h0y _).length_eq.symm;rw [el] at c2;refine fEx Tryz.func31 ?_;repeat' ((conv=>whnf);first|refine cOx (l:= [0,1,2,3,4,5,6,7,8]) c ?_|refine cOx (l:= [0,7,4,8]) c2 ?_|refine a0a ?_|(apply bRx<;>intro h<;>try (exfalso;(try dsimp only at h);omega)))
   all_goals (conv=>whnf)
   all_goals first
    |(exfalso;first|omega|contradiction)
    |exact rOx [0,1,2,3,4,5,6,7,8,9] (a0d a0b)
    |(exfalso;simp_all;done)
    |trace_state
  |false=>
   rw [if_neg (by simp)];refine p0s rfl ?_;refine fEx Tryz.func31 ?_;repeat' ((conv=>whnf);first|refine cOx (l:= [0,1,2,3,4,5,6,7,8]) c ?_|refine a0a ?_|(apply bRx<;>intro h<;>try (exfalso;(try dsimp only at h);omega)))
   all_goals (conv=>whnf)
   all_goals first
    |(exfalso;first|omega|contradiction)
    |exact d0q (fun _ _ _ h=> .inl h) (rOx [0,1,2,3,4,5,6,7,8] a0b)
    |(exfalso;simp_all;done)
    |trace_state
 .rw [if_neg h] at c;have hmv:¬(b0a L d).mv=true:=by unfold b0a;rw [if_neg h];simp [d0Z]
  rw [if_neg hmv];refine p0s rfl ?_;refine fEx Tryz.func31 ?_;repeat' ((conv=>whnf);first|refine cOx (l:= [0,1,2,3,4,5,6,7,8]) c ?_|refine a0a ?_|(apply bRx<;>intro h<;>try (exfalso;(try dsimp only at h);omega)))
  all_goals (conv=>whnf)
  all_goals first
   |(exfalso;first|omega|contradiction)
   |exact d0q (fun _ _ _ h=> .inl h) (rOx [0,1,2,3,4,5,6,7,8] a0b)
   |trace_state
end
section
attribute [local irreducible] a0q a0r a0k a0P sortI
theorem g1W {L:List Rc} {h i:Nat} (hi:i<L.length) (y:Rc):(fun x=>if x=i then Blk.cells [.int .i64 y.d,.ptr h i 0 0,.bool y.mv,.bool y.cl] else g6 L h x)=g6 (L.set i y) h:=by
 funext x;unfold g6;rw [h0C hi];by_cases e:x=i
 .subst e;rw [if_pos rfl,if_pos rfl]
 .rw [if_neg e,if_neg e]
theorem g1X {L:List Rc} {h np i:Nat} (hi:i<L.length) {y:Rc} (hy:y.R=(L.getD i rc0).R):g7 (L.set i y) h np=g7 L h np:=by
 funext x;unfold g7;rw [h0C hi];by_cases e:x=i
 .subst e;rw [if_pos rfl,hy]
 .rw [if_neg e]
theorem g1Y {L:List Rc} {i:Nat} (hi:i<L.length) {y:Rc} (hy:y.R=(L.getD i rc0).R):g8 (L.set i y)=g8 L:=by
 funext x;unfold g8;rw [h0C hi];by_cases e:x=i
 .subst e;rw [if_pos rfl,hy]
 .rw [if_neg e]
def e1Q (x:Rc):Rc:=⟨x.d,x.mv,true,x.R⟩
def g1Z (hs:List Int) (L:List Rc) (d:Int):Int:=if j0g hs d=false then 14 else if d∈rcX L then 23 else if 0<(rcO L).length/\(rcO L).getD 0 0<d then 8 else 0
def v0E (L:List Rc) (d:Int):List Rc:=h0A L d (e1Q (b0a L d))
def i1w (np m:Nat) (cut:Int) (hs:List Int) (L:List Rc) (d:Int):SV->a0j->Nat->Prop:=
 if g1Z hs L d=0 then a0h (.tup [.sl 13 0 0 (rpL L d).length,.int .i64 0]) ((13,some (.one false (pxB (rpL L d).length (a0y (rpL L d)))))::rgH 9 10 11 12 np (v0E L d).length cut (v0E L d)) 14
 else a0h (.tup [.nsl,.int .i64 (g1Z hs L d)]) (rgH 9 10 11 12 np m cut L) 13
set_option maxHeartbeats 1000000 in
theorem y0j {np m hn:Nat} {hs:List Int} {L:List Rc} {pr:List ByteArray} (hL:L.length=m) (hm:m<=1000) (hN:(rcD L).Nodup) (hh:hs.length=hn) (hn4:hn<=100000) (hp:pr.length=np) (he:b0u pr=0) (hsz:∀k,(pr.getD k ⟨#[]⟩).size<=9223372036854775807) (cut d:Int)
  (hr:(b0a L d).R.length<=100000) (hd:g0A (b0a L d).R):
  FC Tryz.prog 9 25 [.ptr 1 0 0 0,.int .i64 d] (i1v np m hn cut hs L pr) (i1w np m cut hs L d):=by
 have c1:=f0x hs hn hh hn4 d;have c2:=f0R L m hL (by omega) np cut d;unfold i1w g1Z;cases hq:j0g hs d with
 |false=>
  rw [hq] at c1;rw [if_pos rfl,if_neg (by decide)];refine fEx Tryz.func25 ?_;repeat' ((conv=>whnf);first|refine cOx (l:= [0,2,3]) c1 ?_|refine a0a ?_|(apply bRx<;>intro h<;>try (exfalso;(try dsimp only at h);omega)))
  all_goals (conv=>whnf)
  all_goals first
   |exact rOx [0,1,2,3,4,5,6,7,8,5,6,7,8] k0U
   |(exfalso;omega)
   |trace_state
 |true=>
  rw [hq] at c1;rw [if_neg (show¬true=false by simp)];by_cases hX:d∈rcX L
  .rw [(k0O hN).1 hX] at c2;rw [if_pos hX,if_neg (by decide)];refine fEx Tryz.func25 ?_;repeat' ((conv=>whnf);first|refine cOx (l:= [0,2,3]) c1 ?_|refine cOx (l:= [0,1,2,3,4,5,6,7,8]) c2 ?_|refine a0a ?_|(apply bRx<;>intro h<;>try (exfalso;(try dsimp only at h);omega)))
   all_goals (conv=>whnf)
   all_goals first
    |exact rOx [0,1,2,3,4,5,6,7,8,5,6,7,8] k0U
    |(exfalso;omega)
    |trace_state
  .have hcl:(b0a L d).cl=false:=by
    cases q:(b0a L d).cl with
    |false=>rfl
    |true=>exact absurd ((k0O hN).2 q) hX
   rw [hcl] at c2;rw [if_neg hX];have c3:=t0E L m hL (by omega) np cut;have hol:(rcO L).length<=1000:=by
    unfold rcO;rw [f0k,j1G];exact g1x (j1L _ _) (by omega)
   generalize rcO L=S at*;by_cases hS:0<S.length/\S.getD 0 0<d
   .rw [if_pos hS,if_neg (by decide)];refine fEx Tryz.func25 ?_;repeat' ((conv=>whnf);first|refine cOx (l:= [0,2,3]) c1 ?_|refine cOx (l:= [0,1,2,3,4,5,6,7,8]) c2 ?_|refine cOx (l:= [0,1,2,3,4,5,6,7,8]) c3 ?_|refine a0a ?_|(apply bRx<;>intro h<;>try (exfalso;(try dsimp only at h);omega)))
    all_goals (conv=>whnf)
    all_goals first
     |exact rOx [0,1,2,3,4,5,6,7,8,5,6,7,8] k0U
     |exact absurd hS.2 h
     |exact absurd ⟨by omega,h⟩ hS
     |(exfalso;omega)
     |trace_state
   .rw [if_neg hS,if_pos rfl];have hat:b0a L d=(rcW L d).getD (a0F (rcD (rcW L d)) d) rc0:=by
     rw [<-k0Q d d];exact if_pos (f0A L d)
    have hi:a0F (rcD (rcW L d)) d<(rcW L d).length:=(d0O (f0A L d)).1;have hlen:=n0W L d;have hx:(e1Q (b0a L d)).d=d:=y0e L d;have c4:=t0C L m (rcW L d).length hL (by omega) pr np hp he hsz cut d rfl;have hR2:b0a (v0E L d) d=(e1Q (b0a L d)):=by unfold v0E;rw [d0d hN hx,if_pos rfl]
    have hP:rpL (v0E L d) d=rpL L d:=by unfold rpL;rw [hR2];rfl
    have hlc:(v0E L d).length=(rcW L d).length:=by unfold v0E h0A;rw [j1B]
    have c5:=h0D (v0E L d) (rcW L d).length hlc (by omega) np pr cut d (by rw [hR2];exact hr) (by rw [hR2];exact hd);rw [hP] at c5;rw [hlc];have eL:v0E L d=(rcW L d).set (a0F (rcD (rcW L d)) d) (e1Q ((rcW L d).getD (a0F (rcD (rcW L d)) d) rc0)):=by unfold v0E;rw [hat];rfl
    generalize rpL L d=P at*;rw [eL] at c5⊢;clear hR2 hP hlc eL hat hx;generalize a0F (rcD (rcW L d)) d=i at*;generalize rcW L d=L2 at*;have e6:=g1W (h:=15) hi (e1Q (L2.getD i rc0));have e7:=fun h=>g1X (h:=h) (np:=np) hi (y:=(e1Q (L2.getD i rc0))) rfl
    have e8:=g1Y hi (y:=(e1Q (L2.getD i rc0))) rfl;unfold rpR at c5;rw [e7,e8] at c5;obtain ⟨m2,hm2⟩:∃m2,L2.length=m2:=⟨_,rfl⟩;rw [hm2] at hi c4 c5⊢;unfold rgH;rw [e7,e8];refine fEx Tryz.func25 ?_;repeat' ((conv=>whnf);first|refine cOx (l:= [0,2,3]) c1 ?_|refine cOx (l:= [0,1,2,3,4,5,6,7,8]) c2 ?_|refine cOx (l:= [0,1,2,3,4,5,6,7,8]) c3 ?_|refine cOx (l:= [0,1,2,3,4,5,6,7,8]) c4 ?_|(refine d1K (l:= [0,1,2,3,4,13,14,15,16]) c5 ?_ (h6:=by (repeat' (first|exact trivial|exact e6|constructor));first|done|fail))|(refine a1v (l:= [0,1,2,3,4,13,14,15,16]) c5 ?_ (h6:=by (repeat' (first|exact trivial|exact e6|constructor));first|done|fail))|refine a0a ?_|(apply bRx<;>intro h<;>try (exfalso;(try dsimp only at h);omega)))
    all_goals (conv=>whnf)
    .exact absurd ⟨by omega,h⟩ hS
    all_goals exact c0S (l:= [0,1,2,3,4,5,6,7,8,13,14,15,16,17]) rfl rfl ⟨rfl,rfl,rfl,(congrArg (fun f=>some (HB.fam false (fun x=>x<m2) f)) e6),rfl,rfl,trivial⟩ (a0d (a0d (a0d (a0C (a0C (a0C a0b))))))
end
section
attribute [local irreducible] a0q a0r a0k a0P
theorem i0P {b:Bk} (h:BkI b 4503599627370496) {np:Nat} {ps:List ByteArray} (hn:b.n=np) (hp:b.ps=ps) (hm:b.m<=100000) (q:RL) (hq:q.l<=1000) (t p:ByteArray):FC Tryz.prog 5 50 [.ptr 1 0 0 0,.sl 4 0 0 q.l,.str t,.str p] ((0,some (GB glT))::(4,some (.one true (rlB q)))::bkX true np ps b) (i0V b q t p):=by
 subst hn hp;exact r0D b (h.ok (j1T _)) (h.cok hm) q hq t p
end
section
attribute [local irreducible] a0q a0r a0k a0P sortI
theorem q0h {B:List Bk} {m i np:Nat} {sp:List ByteArray} (hi:i<m) (h:BkI (B.getD i bk0) 4503599627370496) (hn:(B.getD i bk0).n=np) (hp:(B.getD i bk0).ps=sp) (hm:(B.getD i bk0).m<=100000) (q:RL) (hq:q.l<=1000) (t p:ByteArray):FC Tryz.prog 5 50 [.ptr 1 i 0 0,.sl 4 0 0 q.l,.str t,.str p] [(0,some (GB glT)),(4,some (.one true (rlB q))),(1,fmB true m (f7 2 3 np)),(2,fmB true m (f8 np sp)),(3,fmB true m (f9 B))] (i0V (B.getD i bk0) q t p):=by
 have c0:=i0P h hn hp hm q hq t p;have e:SV.mems (fmu [(1,⟨i,fun x=>x<m,f7 2 3 np⟩),(2,⟨i,fun x=>x<m,f8 np sp⟩),(3,⟨i,fun x=>x<m,f9 B⟩)]) [.ptr 1 0 0 0,.sl 4 0 0 q.l,.str t,.str p]= [.ptr 1 i 0 0,.sl 4 0 0 q.l,.str t,.str p]:=by
  show [SV.ptr 1 (0+i) 0 0,.sl 4 (0+0) 0 q.l,.str t,.str p]=_;rw [z0z]
 have eH:a1P [(1,⟨i,fun x=>x<m,f7 2 3 np⟩),(2,⟨i,fun x=>x<m,f8 np sp⟩),(3,⟨i,fun x=>x<m,f9 B⟩)] ((0,some (GB glT))::(4,some (.one true (rlB q)))::bkX true np sp (B.getD i bk0))= [(0,some (GB glT)),(4,some (.one true (rlB q))),(1,fmB true m (f7 2 3 np)),(2,fmB true m (f8 np sp)),(3,fmB true m (f9 B))]:=by
  show (0,some (l0r _ 0 (GB glT)))::_=_;rw [x0X];rfl
 unfold i0V at c0⊢;by_cases hz:(B.getD i bk0).cvE q t p≠0
 .rw [if_pos hz] at c0⊢;have c:=f0r [(1,⟨i,fun x=>x<m,f7 2 3 np⟩),(2,⟨i,fun x=>x<m,f8 np sp⟩),(3,⟨i,fun x=>x<m,f9 B⟩)] (by
   refine ⟨⟨by decide,by decide,_,_,rfl,hi,?_,.inl rfl⟩,⟨by decide,by decide,_,_,rfl,hi,rfl,.inl rfl⟩,⟨by decide,by decide,_,_,rfl,hi,rfl,.inl rfl⟩,trivial⟩;show Blk.cells [.sl 2 i 0 np,.map 3 i]= .cells [.sl 2 (0+i) 0 np,.map 3 (0+i)];rw [z0z]) (by exact ⟨q0a _ _,rfl,rfl,rfl,rfl,trivial⟩) (by exact trivial) a0b c0
  rw [e,eH] at c;exact c
 .rw [if_neg hz] at c0⊢;have c:=f0r [(1,⟨i,fun x=>x<m,f7 2 3 np⟩),(2,⟨i,fun x=>x<m,f8 np sp⟩),(3,⟨i,fun x=>x<m,f9 B⟩)] (by
   refine ⟨⟨by decide,by decide,_,_,rfl,hi,?_,.inl rfl⟩,⟨by decide,by decide,_,_,rfl,hi,rfl,.inl rfl⟩,⟨by decide,by decide,_,_,rfl,hi,rfl,.inl rfl⟩,trivial⟩;show Blk.cells [.sl 2 i 0 np,.map 3 i]= .cells [.sl 2 (0+i) 0 np,.map 3 (0+i)];rw [z0z]) (by exact ⟨q0a _ _,rfl,rfl,rfl,rfl,trivial⟩) (by exact ⟨rfl,trivial⟩) (a0d a0b) c0
  rw [e,eH] at c;exact c
end
section
structure Ps where
 p:ByteArray
 a:Int
 c:ByteArray
structure Pc where
 p:List ByteArray
 a:List Int
 c:List ByteArray
def a0g (l:List Ps):Pc:=⟨l.map Ps.p,l.map Ps.a,l.map Ps.c⟩
abbrev ps0:Ps:=⟨⟨#[]⟩,0,⟨#[]⟩⟩
instance:Inhabited Ps:=⟨ps0⟩
def psB (n:Nat) (r:Pc):Blk:= .cols n [.sc (.strs r.p),.sc (.ints .i64 r.a),.sc (.strs r.c)]
def a0W (x y:Ps):Bool:=a0D x.c y.c||(seq x.c y.c&&a0D x.p y.p)
theorem b0M {a b:ByteArray}:seq a b=true↔a=b:=by unfold seq;exact decide_eq_true_iff
theorem b0T {x y:Ps}:a0W x y=true↔a0D x.c y.c=true\/(x.c=y.c/\a0D x.p y.p=true):=by
 unfold a0W;rw [j1E,k0o,b0M]
theorem i0Q (x:Ps):a0W x x=false:=by
 cases h:a0W x x with
 |false=>rfl
 |true=>
  rcases b0T.1 h with h|⟨_,h⟩
  .rw [a0p] at h;cases h
  .rw [a0p] at h;cases h
theorem d0A {x y z:Ps} (h:a0W x y=true) (k:a0W y z=true):a0W x z=true:=by
 rw [b0T] at*;rcases h with h|⟨h1,h2⟩
 .rcases k with k|⟨k1,k2⟩
  .exact .inl (d0t h k)
  .exact .inl (k1▸h)
 .rcases k with k|⟨k1,k2⟩
  .exact .inl (h1▸k)
  .exact .inr ⟨h1.trans k1,d0t h2 k2⟩
theorem k0V {x y:Ps} (h:a0W x y=true):a0W y x=false:=by
 cases k:a0W y x with
 |false=>rfl
 |true=>
  have:=d0A h k;rw [i0Q] at this;cases this
def e0b (x y:Ps):Prop:=x.p=y.p/\x.c=y.c
theorem e0L {x y:Ps} (h:a0W x y=false) (hne:¬e0b x y):a0W y x=true:=by
 rw [b0T];by_cases hc:x.c=y.c
 .by_cases hp:x.p=y.p
  .exact absurd ⟨hp,hc⟩ hne
  .right;refine ⟨hc.symm,?_⟩;cases k:a0D x.p y.p with
   |true=>rw [b0T.2 (.inr ⟨hc,k⟩)] at h;cases h
   |false=>exact c0w k hp
 .left;cases k:a0D x.c y.c with
  |true=>rw [b0T.2 (.inl k)] at h;cases h
  |false=>exact c0w k hc
theorem q0i {l m:List Ps} (hp:l.Perm m) (hl:l.Pairwise (fun a b=>a0W a b=true)) (hm:m.Pairwise (fun a b=>a0W a b=true)):l=m:=
 k1x (le:=fun a b=>a0W a b=true) (fun a b _ _ h1 h2=>by rw [k0V h1] at h2;cases h2) hl hm hp
def b0c (l:List Ps):Prop:=l.Pairwise (fun a b=>¬e0b a b)
theorem c0L {a b:Ps} (h:e0b a b):e0b b a:=⟨h.1.symm,h.2.symm⟩
theorem g0B {l m:List Ps} (h:l.Perm m) (hl:b0c l):b0c m:=List.Perm.pairwise h hl (fun {a b} h k=>h (c0L k))
theorem m0A {l:List Ps} (h:l.Pairwise (fun a b=>a0W a b=true)):b0c l:=by
 refine h.imp fun {a b} hab e=> ?_
 rcases b0T.1 hab with k|⟨_,k⟩
 .rw [e.2,a0p] at k;cases k
 .rw [e.1,a0p] at k;cases k
def c0M (l:List Ps):List Ps:=l.mergeSort (fun x y=> !a0W y x)
theorem b0b (l:List Ps):(c0M l).Perm l:=l1Z l _
theorem i0R {x y z:Ps} (h:a0W y x=false) (k:a0W z y=false):a0W z x=false:=by
 cases e:a0W z x with
 |false=>rfl
 |true=>
  by_cases hs:e0b x y
  .have:a0W z y=true:=by
    rw [b0T] at e⊢;rw [<-hs.1,<-hs.2];exact e
   rw [this] at k;cases k
  .have:=d0A e (e0L h (fun q=>hs (c0L q)));rw [this] at k;cases k
theorem h0E {l:List Ps} (hd:b0c l):(c0M l).Pairwise (fun a b=>a0W a b=true):=by
 have h1:=l1E (le:=fun x y:Ps=> !a0W y x) (fun a b c h k=>by
  simp only [d1I] at*;exact i0R h k) (fun a b=>by
  cases h:a0W b a with
  |false=>rfl
  |true=>simp [k0V h]) l
 have h2:b0c (c0M l):=g0B (b0b l).symm hd;refine (h1.and h2).imp ?_;rintro a b ⟨k1,k2⟩;simp only [d1I] at k1;exact e0L k1 (fun q=>k2 (c0L q))
theorem j0r {l m:List Ps} (hp:m.Perm l) (hm:m.Pairwise (fun a b=>a0W a b=true)):c0M l=m:=
 q0i ((b0b l).trans hp.symm) (h0E (g0B hp (m0A hm))) hm
end
section
attribute [local irreducible] a0q a0r a0k a0P
def v0F (first:Bool) (b:Int):Bool:=decide (97<=b/\b<=122\/65<=b/\b<=90)||(!first&&decide (b=95\/48<=b/\b<=57))
def y0k (s:ByteArray):Nat->Bool
 |0=>true
 |k+1=>y0k s k&&v0F (decide (k=0)) (a0i s (k:Int))
def b0f (s:ByteArray):Bool:=decide (1<=s.size/\s.size<=16)&&y0k s s.size
theorem m0B {s:ByteArray} {k:Nat} (h:v0F (decide (k=0)) (a0i s (k:Int))=false):∀n,k<n->y0k s n=false
 |0,hh=>by omega
 |n+1,hh=>by
  simp only [y0k];by_cases e:k=n
  .subst e;rw [h,k1L]
  .rw [m0B h n (by omega),j1I]
theorem h1a {s:ByteArray} {k:Nat} (hk:k<s.size) (h:v0F (decide (k=0)) (a0i s (k:Int))=false):b0f s=false:=by
 unfold b0f;rw [m0B h _ hk,k1L]
theorem f0S {f:Bool} {b:Int}:v0F f b=true↔(97<=b/\b<=122\/65<=b/\b<=90)\/(f=false/\(b=95\/48<=b/\b<=57)):=by
 unfold v0F;rw [j1E,k0o,decide_eq_true_eq,decide_eq_true_eq,d1I]
attribute [irreducible] b0f v0F
theorem v0k (s:ByteArray):b0m Tryz.prog 162 [.str s] (.bool (b0f s)):=by
 refine fEx Tryz.func162 ?_;repeat' ((conv=>whnf);first|refine a0a ?_|(apply bRx<;>intro h<;>try (exfalso;(try dsimp only at h);omega)))
 all_goals (conv=>whnf)
 .exact a0c (congrArg SV.bool (by unfold b0f;rw [decide_eq_false (by omega),j1I]))
 .exact a0c (congrArg SV.bool (by unfold b0f;rw [decide_eq_false (by omega),j1I]))
 refine a0E (fun k:Nat=>⟨[(0,.str s),(15,.int .i64 s.size),(16,.int .i64 k)],[],1⟩) (fun k=>k<=s.size/\y0k s k=true) (fun k=>s.size-k) 0 [0] [] wHx ⟨by omega,rfl⟩ ?_;rintro k ⟨hk,hc⟩;have hb:=h0e s (k:Int);by_cases hk2:k<s.size
 .cases ho:v0F (decide (k=0)) (a0i s (k:Int)) with
  |true=>
   have hst:y0k s (k+1)=true:=by simp only [y0k,hc,ho];rfl
   have hoi:=f0S.1 ho;rw [decide_eq_false_iff_not] at hoi;repeat' ((conv=>whnf);first|refine a0a ?_|(apply bRx<;>intro h<;>try (exfalso;(try dsimp only at h);omega)))
   all_goals (conv=>whnf)
   all_goals first
    |exact ⟨k+1,[0],[],⟨by omega,hst⟩,by omega,⟨rfl,⟨rfl,rfl,congrArg (fun z=>some (SV.int .i64 z)) (a0e (by omega)),trivial⟩,trivial⟩⟩
    |(exfalso;omega)
    |trace_state
  |false=>
   rw [h1a hk2 ho];have hoi:¬((97<=a0i s (k:Int)/\a0i s (k:Int)<=122\/65<=a0i s (k:Int)/\a0i s (k:Int)<=90)\/(decide (k=0)=false/\(a0i s (k:Int)=95\/48<=a0i s (k:Int)/\a0i s (k:Int)<=57))):=fun h=>by rw [f0S.2 h] at ho;cases ho
   rw [decide_eq_false_iff_not] at hoi;repeat' ((conv=>whnf);first|refine a0a ?_|(apply bRx<;>intro h<;>try (exfalso;(try dsimp only at h);omega)))
   all_goals (conv=>whnf)
   all_goals first
    |exact a0c rfl
    |(exfalso;omega)
    |trace_state
 .have e:k=s.size:=by omega
  subst e;have:b0f s=true:=by unfold b0f;rw [hc,decide_eq_true (by omega)];rfl
  rw [this];repeat' ((conv=>whnf);first|refine a0a ?_|(apply bRx<;>intro h<;>try (exfalso;(try dsimp only at h);omega)))
  all_goals (conv=>whnf)
  all_goals first
   |exact a0c rfl
   |(exfalso;omega)
theorem m0C (b:Int):b0m Tryz.prog 179 [.int .u8 b] (.bool (decide (97<=b/\b<=122\/65<=b/\b<=90))):=by
 refine fEx Tryz.func179 ?_;repeat' ((conv=>whnf);first|refine a0a ?_|(apply bRx<;>intro h<;>try (exfalso;(try dsimp only at h);omega)))
 all_goals (conv=>whnf)
 all_goals first
  |exact a0c (congrArg SV.bool (by rw [decide_eq_decide];omega))
  |exact a0c (congrArg SV.bool (by rw [decide_eq_true (by omega)]))
  |exact a0c (congrArg SV.bool (by rw [decide_eq_false (by omega)]))
theorem y0l (b:Int):b0m Tryz.prog 205 [.int .u8 b] (.bool (decide (48<=b/\b<=57))):=by
 refine fEx Tryz.func205 ?_;repeat' ((conv=>whnf);first|refine a0a ?_|(apply bRx<;>intro h<;>try (exfalso;(try dsimp only at h);omega)))
 all_goals (conv=>whnf)
 all_goals first
  |exact a0c (congrArg SV.bool (by rw [decide_eq_decide];omega))
  |exact a0c (congrArg SV.bool (by rw [decide_eq_true (by omega)]))
  |exact a0c (congrArg SV.bool (by rw [decide_eq_false (by omega)]))
def wdE (s:ByteArray):Nat->Nat
 |0=>0
 |k+1=>if wdE s k=k/\v0F false (a0i s (k:Int))=true then k+1 else wdE s k
theorem c1Q (s:ByteArray):∀n,wdE s n<=n
 |0=>n0q _
 |n+1=>by
  have:=c1Q s n;simp only [wdE];split<;>omega
theorem t0F {s:ByteArray} {k:Nat} (h:wdE s k=k) (ho:v0F false (a0i s (k:Int))=false):∀n,k<=n->wdE s n=k
 |0,hh=>by have:k=0:=by omega
           subst this;rfl
 |n+1,hh=>by
  by_cases e:k=n+1
  .rw [<-e];exact h
  .have ih:=t0F h ho n (by omega);simp only [wdE,ih];by_cases e2:k=n
   .subst e2;rw [if_neg (by rw [ho];simp)]
   .rw [if_neg (by omega)]
theorem b1t (s:ByteArray) (hs:s.size<=100000):b0m Tryz.prog 180 [.str s,.int .i64 0] (.int .i64 (wdE s s.size:Nat)):=by
 refine fEx Tryz.func180 ?_;repeat' ((conv=>whnf);first|refine a0a ?_|(apply bRx<;>intro h<;>try (exfalso;(try dsimp only at h);omega)))
 all_goals (conv=>whnf)
 refine a0E (fun k:Nat=>⟨[(0,.str s),(1,.int .i64 k)],[],1⟩) (fun k=>k<=s.size/\wdE s k=k) (fun k=>s.size-k) 0 [0] [] wHx ⟨by omega,rfl⟩ ?_;rintro k ⟨hk,hc⟩;have hb:=h0e s (k:Int);have c1:=m0C (a0i s (k:Int));have c2:=y0l (a0i s (k:Int));by_cases hk2:k<s.size
 .cases ho:v0F false (a0i s (k:Int)) with
  |true=>
   have hst:wdE s (k+1)=k+1:=by simp only [wdE];rw [if_pos ⟨hc,ho⟩]
   have hoi:=f0S.1 ho;repeat' ((conv=>whnf);first|refine cPx c1 ?_|refine cPx c2 ?_|refine a0a ?_|(apply bRx<;>intro h<;>try (exfalso;(try dsimp only at h);omega)))
   all_goals (conv=>whnf)
   all_goals first
    |exact ⟨k+1,[0],[],⟨by omega,hst⟩,by omega,⟨rfl,⟨rfl,congrArg (fun z=>some (SV.int .i64 z)) (a0e (by omega)),trivial⟩,trivial⟩⟩
    |(exfalso;omega)
    |trace_state
  |false=>
   rw [t0F hc ho s.size hk];have hoi:¬((97<=a0i s (k:Int)/\a0i s (k:Int)<=122\/65<=a0i s (k:Int)/\a0i s (k:Int)<=90)\/(a0i s (k:Int)=95\/48<=a0i s (k:Int)/\a0i s (k:Int)<=57)):=fun h=>by rw [f0S.2 (h.elim .inl (fun x=> .inr ⟨rfl,x⟩))] at ho;cases ho
   repeat' ((conv=>whnf);first|refine cPx c1 ?_|refine cPx c2 ?_|refine a0a ?_|(apply bRx<;>intro h<;>try (exfalso;(try dsimp only at h);omega)))
   all_goals (conv=>whnf)
   all_goals first
    |exact a0c rfl
    |(exfalso;omega)
    |trace_state
 .have e:k=s.size:=by omega
  subst e;rw [hc];repeat' ((conv=>whnf);first|refine cPx c1 ?_|refine cPx c2 ?_|refine a0a ?_|(apply bRx<;>intro h<;>try (exfalso;(try dsimp only at h);omega)))
  all_goals (conv=>whnf)
  all_goals first
   |exact a0c rfl
   |(exfalso;omega)
theorem b1u (s:ByteArray) (h1:1<=s.size) (h16:s.size<=16):b0f s=(decide (97<=a0i s 0/\a0i s 0<=122\/65<=a0i s 0/\a0i s 0<=90)&&decide (wdE s s.size=s.size)):=by
 have key:∀n,1<=n->y0k s n=(decide (97<=a0i s 0/\a0i s 0<=122\/65<=a0i s 0/\a0i s 0<=90)&&decide (wdE s n=n)):=by
  intro n hn;induction n with
  |zero=>omega
  |succ n ih=>
   by_cases h0:n=0
   .subst h0;simp only [y0k,wdE,j1O,true_and];rw [l1u,f0S,k0o,decide_eq_true_eq,decide_eq_true_eq];simp only [decide_true,Bool.true_eq_false,false_and,or_false];constructor
    .intro h;refine ⟨h,?_⟩;rw [if_pos (f0S.2 (.inl h))]
    .exact fun h=>h.1
   .have e:=ih (by omega);have hle:=c1Q s n;have hw1:wdE s (n+1)=if wdE s n=n/\v0F false (a0i s (n:Int))=true then n+1 else wdE s n:=rfl
    have hn1:y0k s (n+1)=(y0k s n&&v0F (decide (n=0)) (a0i s (n:Int))):=rfl;rw [l1u,hn1,e,decide_eq_false h0];simp only [k0o,decide_eq_true_eq];rw [hw1];constructor
    .rintro ⟨⟨a1,a2⟩,a3⟩;exact ⟨a1,by rw [if_pos ⟨a2,a3⟩]⟩
    .rintro ⟨a1,a2⟩;split at a2
     .rename_i h;exact ⟨⟨a1,h.1⟩,h.2⟩
     .omega
 unfold b0f;rw [decide_eq_true ⟨h1,h16⟩,j1O];exact key _ h1
theorem i0p (s:ByteArray) (hs:s.size<=100000):b0m Tryz.prog 142 [.str s] (.bool (b0f s)):=by
 have c1:=m0C (a0i s 0);have c2:=b1t s hs;have hz:s=⟨#[]⟩↔s.size=0:=⟨fun h=>by rw [h];rfl,fun h=>by
  have:s.data= #[]:=j1Y h;cases s;simp_all⟩
 by_cases h0:s.size=0
 .have e:b0f s=false:=by unfold b0f;rw [decide_eq_false (by omega),j1I]
  rw [e];have hz':=hz.2 h0;refine fEx Tryz.func142 ?_;repeat' ((conv=>whnf);first|refine cPx c1 ?_|refine cPx c2 ?_|refine a0a ?_|(apply bRx<;>intro h<;>try (exfalso;(try dsimp only at h);omega)))
  all_goals (conv=>whnf)
  all_goals first
   |exact a0c rfl
   |(exfalso;first|omega|contradiction)
   |trace_state
 .have hz':¬s=⟨#[]⟩:=fun h=>h0 (hz.1 h)
  by_cases h16:s.size<=16
  .rw [b1u s (by omega) h16];generalize wdE s s.size=wd at*;generalize hl:decide (97<=a0i s 0/\a0i s 0<=122\/65<=a0i s 0/\a0i s 0<=90)=lb at*;cases lb with
   |true=>
    refine fEx Tryz.func142 ?_;repeat' ((conv=>whnf);first|refine cPx c1 ?_|refine cPx c2 ?_|refine a0a ?_|(apply bRx<;>intro h<;>try (exfalso;(try dsimp only at h);omega)))
    all_goals (conv=>whnf)
    all_goals first
     |(exfalso;first|omega|contradiction)
     |exact a0c (congrArg SV.bool (by rw [j1O,decide_eq_true (by omega)]))
     |exact a0c (congrArg SV.bool (by rw [j1O,decide_eq_false (by omega)]))
     |exact a0c (congrArg SV.bool (by rw [j1O];exact decide_eq_decide.2 (by omega)))
     |trace_state
   |false=>
    refine fEx Tryz.func142 ?_;repeat' ((conv=>whnf);first|refine cPx c1 ?_|refine cPx c2 ?_|refine a0a ?_|(apply bRx<;>intro h<;>try (exfalso;(try dsimp only at h);omega)))
    all_goals (conv=>whnf)
    all_goals first
     |(exfalso;first|omega|contradiction)
     |exact a0c rfl
     |trace_state
  .have e:b0f s=false:=by unfold b0f;rw [decide_eq_false (by omega),j1I]
   rw [e];refine fEx Tryz.func142 ?_;repeat' ((conv=>whnf);first|refine cPx c1 ?_|refine cPx c2 ?_|refine a0a ?_|(apply bRx<;>intro h<;>try (exfalso;(try dsimp only at h);omega)))
   all_goals (conv=>whnf)
   all_goals first
    |exact a0c rfl
    |(exfalso;first|omega|contradiction)
    |trace_state
theorem r0R (p:ByteArray) (a:Int) (c:ByteArray):b0m Tryz.prog 84 [.agg [.str p,.int .i64 a,.str c]] (.agg [.str c,.str p]):=by
 refine fEx Tryz.func84 ?_;repeat' ((conv=>whnf);first|refine a0a ?_|(apply bRx<;>intro h<;>try (exfalso;(try dsimp only at h);omega)))
 all_goals (conv=>whnf)
 all_goals exact a0c rfl
theorem b1v (x y:Ps):b0m Tryz.prog 141 [.agg [.str x.p,.int .i64 x.a,.str x.c],.agg [.str y.p,.int .i64 y.a,.str y.c]] (.bool (a0W x y)):=by
 refine fEx Tryz.func141 ?_;repeat' ((conv=>whnf);first|refine a0a ?_|(apply bRx<;>intro h<;>try (exfalso;(try dsimp only at h);omega)))
 all_goals (conv=>whnf)
 all_goals first
  |exact a0c (congrArg SV.bool (by unfold a0W;rw [show seq x.c y.c=false from decide_eq_false h];simp))
  |exact a0c (congrArg SV.bool (by unfold a0W;rw [h,a0p,show seq y.c y.c=true from decide_eq_true rfl];simp))
  |trace_state
end
section
open Go.RowKit Go.Sy Go.Lib Go.Sort Go.Proofs
def n0X (x y:ByteArray):Int:=if a0D x y=true then-1 else if a0D y x=true then 1 else 0
theorem e1R (x:ByteArray) (w:World):Calls Tryz.prog 156 #[.string x] w fun e w'=>e= .returned (.bool false)/\w'=w:=by
 go_enter Tryz.func156,Tryz.ntmps156
 go_wp2
 go_ret
 exact ⟨by simp,rfl⟩
theorem q0j (x y:ByteArray) (w:World):Calls Tryz.prog 133 #[.string x,.string y] w fun e w'=>e= .returned (.int .i64 (n0X x y))/\w'=w:=by
 have hcm:(!Op.bytesLess x.toList y.toList&& !x.toList==y.toList)=(!a0D x y&&a0D y x):=by
  rw [a0Q];change (!a0D x y&& !seq x y)=_;cases h:a0D x y with
  |true=>rfl
  |false=>
   by_cases e:x=y
   .subst e;rw [show seq x x=true from decide_eq_true rfl,a0p];rfl
   .rw [show seq x y=false from decide_eq_false e,c0w h e];rfl
 have hg:∀w,(binOp .gtr 9 (.string x) (.string y)).run Tryz.prog w= .ok (.bool (!a0D x y&&a0D y x)) w:=fun w=>by rw [<-hcm];simp [binOp,Op.stringOp]
 have hl:Op.bytesLess x.toList y.toList=a0D x y:=rfl
 go_enter Tryz.func133,Tryz.ntmps133
 go_wp2_with (go_at_call 156;refine (e1R _ _).mono ?_;rintro e w' ⟨rfl,hw⟩;rw [hw])
 all_goals first
  |(go_ret;refine ⟨?_,rfl⟩;unfold n0X;simp_all;done)
  |trace_state
theorem j1e (b:Nat) (c:Nat) (x y:Int) (w:World) (h0:w.cell? ⟨b,0,none⟩=some (.int .i64 x)) (h1:w.cell? ⟨b,1,none⟩=some (.int .i64 y)):Calls Tryz.prog 132 #[.slice (some ⟨b,0,none⟩) 2 c] w fun e w'=>e= .returned (.int .i64 (if x=0 then y else x))/\w'=w:=by
 go_enter Tryz.func132,Tryz.ntmps132
 go_wp2
 go_loop [8] (fun i=>∃k:Nat,k<=2/\i= .int .i64 k/\(0<k->x=0)/\(1<k->y=0)) (fun i=>2-(intOf i).toNat)
 case atStart=>exact ⟨0,by omega,rfl,by omega,by omega⟩
 case round=>
  obtain ⟨k,hk,rfl,k1,k2⟩:=hrel;have hk3:k=0\/k=1\/k=2:=by omega
  rcases hk3 with rfl|rfl|rfl
  all_goals
   go_wp2
   all_goals first
    |(go_ret;refine ⟨?_,rfl⟩;simp_all;done)
    |(refine ⟨⟨1,by omega,rfl,fun _=>by simp_all,by omega⟩,by simp [intOf]⟩;done)
    |(refine ⟨⟨2,by omega,rfl,fun _=>k1 (by omega),fun _=>by simp_all⟩,by simp [intOf]⟩;done)
    |trace_state
theorem t0G (w:World) (o1 o2:Obj):((w.alloc o1).alloc o2).drew.heap[w.heap.size]? =some o1/\((w.alloc o1).alloc o2).drew.heap[w.heap.size+1]? =some o2:=by
 show ((w.heap.push o1).push o2)[w.heap.size]? =some o1/\((w.heap.push o1).push o2)[w.heap.size+1]? =some o2;refine ⟨?_,?_⟩
 .rw [j1m,if_neg (by simp),j1m,if_pos rfl]
 .rw [j1m,if_pos (by simp)]
set_option maxRecDepth 100000 in
set_option maxHeartbeats 4000000 in
theorem y0m (c1 p1 c2 p2:ByteArray) (w:World):Calls Tryz.prog 83 #[.agg #[.string c1,.string p1],.agg #[.string c2,.string p2]] w fun e w'=>e= .returned (.int .i64 (if n0X c1 c2=0 then n0X p1 p2 else n0X c1 c2))/\∃q os,w'=grow (w.drewN q) os:=by
 have key:∀(W:World) (b1 b2:Nat),W.cell? ⟨b1,0,none⟩=some (.string c1)->W.cell? ⟨b1,1,none⟩=some (.string p1)->W.cell? ⟨b2,0,none⟩=some (.string c2)->W.cell? ⟨b2,1,none⟩=some (.string p2)->True:=fun _ _ _ _ _ _ _=>trivial
 go_enter Tryz.func83,Tryz.ntmps83
 go_wp2_with fail
 refine wp_region_still_tail 10 (by kernel_rfl) (by kernel_rfl) ?_;simp only [k1y,List.take_zero,List.drop_succ_cons,k1X,World.drew_eq];obtain ⟨W,hW⟩:∃W,W=((w.alloc (Obj.cells #[Value.string c1,Value.string p1] 138)).alloc (Obj.cells #[Value.string c2,Value.string p2] 138)).drew:=⟨_,rfl⟩;have h1:W.cell? ⟨w.heap.size,0,none⟩=some (.string c1):=by rw [hW];unfold World.cell?;rw [(t0G w _ _).1];rfl
 have h2:W.cell? ⟨w.heap.size,1,none⟩=some (.string p1):=by rw [hW];unfold World.cell?;rw [(t0G w _ _).1];rfl
 have h3:W.cell? ⟨w.heap.size+1,0,none⟩=some (.string c2):=by rw [hW];unfold World.cell?;rw [(t0G w _ _).2];rfl
 have h4:W.cell? ⟨w.heap.size+1,1,none⟩=some (.string p2):=by rw [hW];unfold World.cell?;rw [(t0G w _ _).2];rfl
 rw [<-hW];have hu:∃os,W=grow (w.drewN 1) os:=⟨_,by rw [hW];exact (by rw [alloc_eq_grow,alloc_eq_grow,grow_grow];rfl)⟩;clear hW;iterate 4 still_step
 still_call (q0j c1 c2 _)
 iterate 4 still_step
 still_call (q0j p1 p2 _)
 refine wpStill_nil ?_
 go_wp2_with fail
 refine (j1e W.heap.size 2 (n0X c1 c2) (n0X p1 p2) (W.alloc (Obj.cells #[Value.int .i64 (n0X c1 c2),Value.int .i64 (n0X p1 p2)] 3)) ?_ ?_).mono ?_
 .unfold World.cell? World.alloc;simp
 .unfold World.cell? World.alloc;simp
 rintro e w' ⟨rfl,rfl⟩
 go_wp2_with fail
 all_goals
  obtain ⟨os,rfl⟩:=hu
  go_ret
  exact ⟨rfl,1,_,by rw [alloc_eq_grow,grow_grow]⟩
theorem q0k (p:ByteArray) (a:Int) (c:ByteArray) (w:World):Calls Tryz.prog 84 #[.agg #[.string p,.int .i64 a,.string c]] w fun e w'=>e= .returned (.agg #[.string c,.string p])/\∃os,w'=grow w os:=by
 go_enter Tryz.func84,Tryz.ntmps84
 go_wp2
 refine bodyPost_ret (results_cell_row (ty:=138) rfl _ _ (w.heap.size+1) 138 #[.string c,.string p] (0,0) _ rfl ?_ Tryz.underlying138 rfl (by kernel_rfl)) rfl ⟨rfl,_,by rw [alloc_eq_grow,alloc_eq_grow,grow_grow]⟩;show ((w.heap.push _).push _)[w.heap.size+1]? =_;rw [j1m,if_pos (by simp)]
theorem h1b (w:World) (a b c:Value) (t:TypeId) (o2:Obj) (n:Nat) (os:Array Obj):∀j v,(#[a,b,c])[j]? =some v->(grow (((w.alloc (.cells #[a,b,c] t)).alloc o2).drewN n) os).cell? ⟨w.heap.size,j,none⟩=some v:=by
 intro j v hv;refine cell_grown (by show w.heap.size<((w.heap.push _).push _).size;simp;omega) ?_ n os;unfold World.cell?;rw [show ((w.alloc (.cells #[a,b,c] t)).alloc o2).heap[w.heap.size]? =some (.cells #[a,b,c] t (0,0)) from (by
  show ((w.heap.push _).push _)[w.heap.size]? =_;rw [j1m,if_neg (by simp),j1m,if_pos rfl])]
 exact hv
theorem e1S (w:World) (a b c:Value) (t:TypeId) (o1:Obj) (n:Nat) (os:Array Obj):∀j v,(#[a,b,c])[j]? =some v->(grow (((w.alloc o1).alloc (.cells #[a,b,c] t)).drewN n) os).cell? ⟨w.heap.size+1,j,none⟩=some v:=by
 intro j v hv;refine cell_grown (by show w.heap.size+1<((w.heap.push _).push _).size;simp) ?_ n os;unfold World.cell?;rw [show ((w.alloc o1).alloc (.cells #[a,b,c] t)).heap[w.heap.size+1]? =some (.cells #[a,b,c] t (0,0)) from (by
  show ((w.heap.push _).push _)[w.heap.size+1]? =_;rw [j1m,if_pos (by simp)])]
 exact hv
set_option maxRecDepth 100000 in
set_option maxHeartbeats 4000000 in
theorem y0n (x y:Ps) (w:World):Calls Tryz.prog 82 #[.agg #[.string x.p,.int .i64 x.a,.string x.c],.agg #[.string y.p,.int .i64 y.a,.string y.c]] w fun e w'=>e= .returned (.int .i64 (if n0X x.c y.c=0 then n0X x.p y.p else n0X x.c y.c))/\∃q os,w'=grow (w.drewN q) os:=by
 have mixed:Tryz.prog.follows .mixedOrders=true:=Tryz.sortF81.mixed
 go_enter Tryz.func82,Tryz.ntmps82
 go_wp2_with fail
 have h1:=h1b w (.string x.p) (.int .i64 x.a) (.string x.c) 60 (.cells #[.string y.p,.int .i64 y.a,.string y.c] 60);have h2:=e1S w (.string y.p) (.int .i64 y.a) (.string y.c) 60 (.cells #[.string x.p,.int .i64 x.a,.string x.c] 60);obtain ⟨W,hW⟩:∃W,W=(w.alloc (Obj.cells #[Value.string x.p,Value.int .i64 x.a,Value.string x.c] 60)).alloc (Obj.cells #[Value.string y.p,Value.int .i64 y.a,Value.string y.c] 60):=⟨_,rfl⟩;have hu:∃os,W=grow w os:=⟨_,by rw [hW,alloc_eq_grow,alloc_eq_grow,grow_grow]⟩;rw [<-hW] at h1 h2⊢;clear hW;have a0:∀n os,(grow (W.drewN n) os).cell? ⟨w.heap.size,0,none⟩=some (.string x.p):=fun n os=>h1 n os 0 _ rfl
 have a1:∀n os,(grow (W.drewN n) os).cell? ⟨w.heap.size,1,none⟩=some (.int .i64 x.a):=fun n os=>h1 n os 1 _ rfl
 have a2:∀n os,(grow (W.drewN n) os).cell? ⟨w.heap.size,2,none⟩=some (.string x.c):=fun n os=>h1 n os 2 _ rfl
 have b0:∀n os,(grow (W.drewN n) os).cell? ⟨w.heap.size+1,0,none⟩=some (.string y.p):=fun n os=>h2 n os 0 _ rfl
 have b1:∀n os,(grow (W.drewN n) os).cell? ⟨w.heap.size+1,1,none⟩=some (.int .i64 y.a):=fun n os=>h2 n os 1 _ rfl
 have b2:∀n os,(grow (W.drewN n) os).cell? ⟨w.heap.size+1,2,none⟩=some (.string y.c):=fun n os=>h2 n os 2 _ rfl
 clear h1 h2;refine wp_region_quiet_grown (by assumption) (by kernel_rfl) ?_;refine wpQuiet_step (fun K hK=> ?_)
 go_simp
 refine hK _ ?_;clear hK K;refine wpQuiet_step (fun K hK=> ?_)
 go_simp
 refine ⟨_,fun g=>Calls.grown_of ((q0k x.p x.a x.c _).mono (R':=fun e w'=>e= .returned (.agg #[.string x.c,.string x.p])/\∃q os',w'=grow ((grow (W.drewN g.n) g.os).drewN q) os') (fun e w' h=>⟨h.1,0,h.2⟩)),hK _ ?_⟩;clear hK K;refine wpQuiet_step (fun K hK=> ?_)
 go_simp
 refine hK _ ?_;clear hK K;refine wpQuiet_step (fun K hK=> ?_)
 go_simp
 refine ⟨_,fun g=>Calls.grown_of ((q0k y.p y.a y.c _).mono (R':=fun e w'=>e= .returned (.agg #[.string y.c,.string y.p])/\∃q os',w'=grow ((grow (W.drewN g.n) g.os).drewN q) os') (fun e w' h=>⟨h.1,0,h.2⟩)),hK _ ?_⟩;clear hK K;refine wpQuiet_step (fun K hK=> ?_)
 go_simp
 refine ⟨_,fun g=>Calls.grown_of (y0m x.c x.p y.c y.p _),hK _ ?_⟩;clear hK K;refine wpQuiet_step (fun K hK=> ?_)
 go_simp
 refine hK _ ?_;clear hK K;refine wpQuiet_nil ?_;intro _ hw';obtain ⟨⟨nq,osq⟩,hw''⟩:=hw';subst hw''
 go_wp2_with fail
 all_goals
  obtain ⟨os,rfl⟩:=hu
  go_ret
  exact ⟨rfl,nq,_,by show grow (grow (w.drewN nq) os) osq=_;rw [grow_grow]⟩
def cfP (x y:Ps):Int:=if n0X x.c y.c=0 then n0X x.p y.p else n0X x.c y.c
theorem t0H {x y:ByteArray}:n0X x y<0↔a0D x y=true:=by
 unfold n0X;split
 .rename_i h;simp [h]
 .rename_i h;split<;>simp [h]
theorem q0l {x y:ByteArray}:n0X x y=0↔x=y:=by
 unfold n0X;constructor
 .intro h;split at h
  .omega
  .rename_i h1;split at h
   .omega
   .rename_i h2;refine Classical.byContradiction fun e=> ?_
    exact h2 (c0w (by simpa using h1) e)
 .rintro rfl;rw [if_neg (by rw [a0p];decide),if_neg (by rw [a0p];decide)]
theorem t0I (x y:Ps):ltOf cfP x y=a0W x y:=by
 unfold ltOf cfP;rw [l1u,decide_eq_true_eq,b0T];by_cases h:x.c=y.c
 .rw [if_pos (q0l.2 h),t0H,h,a0p];simp
 .rw [if_neg (fun e=>h (q0l.1 e)),t0H];simp [h]
theorem y0o:SWO (ltOf cfP):=by
 refine ⟨fun x=> ?_,fun x y z h k=> ?_,fun x y z h k=> ?_⟩
 .rw [t0I];exact i0Q x
 .rw [t0I] at*;exact d0A h k
 .rw [t0I] at*;exact i0R k h
def f1O (l:List Ps):List Ps:=(pdq (ltOf cfP) l.toArray 0 l.length (Lib.bitLen l.length) true true).toList
theorem m0D (l:List Ps):(f1O l).Perm l/\(f1O l).Pairwise (fun a b=>a0W b a=false):=by
 obtain ⟨⟨h1,h2,h3⟩,h4⟩:=pdq_sorts (ltOf cfP) y0o l.toArray 0 l.length (Lib.bitLen l.length) true true (w0F _) (by simp) (Or.inl rfl);unfold f1O;generalize pdq (ltOf cfP) l.toArray 0 l.length (Lib.bitLen l.length) true true=d at*;have hs:d.size=l.length:=by rw [h1];simp
 refine ⟨?_,?_⟩
 .rw [Array.extract_eq_self_of_le (by omega),Array.extract_eq_self_of_le (by simp)] at h3;exact h3
 .rw [g1z];intro i j hi hj hij;simp only [j1s] at hi hj;have:=h4 i j (w0F _) hij (by omega);rw [t0I,getElem!_pos d i hi,getElem!_pos d j hj] at this;simpa using this
theorem b1w {l:List Ps} (hd:b0c l):f1O l=c0M l:=by
 obtain ⟨h1,h2⟩:=m0D l;refine (j0r h1 ?_).symm;refine (h2.and (g0B h1.symm hd)).imp ?_;rintro a b ⟨h3,h4⟩;exact e0L h3 (fun e=>h4 (c0L e))
theorem y0p:c1O Tryz.prog 81 82 (fun x:Ps=> [.string x.p,.int .i64 x.a,.string x.c]) 3 f1O:=by
 intro blk off cap ss W hH hblk hn;have eg:∀args w,(callFunc 82 args).run Tryz.prog w= .ok (.enter 82 args) w:=enters_of Tryz.func82 (by kernel_rfl) rfl;have h:=AnyQ.slices_SortFunc_eq Tryz.sortF81 3 Tryz.isAgg60 Tryz.sizeOf60 (fun x:Ps=> [.string x.p,.int .i64 x.a,.string x.c]) (fun _=>rfl) (fun x v hv=>by simp at hv;rcases hv with rfl|rfl|rfl<;>rfl) cfP y0o 82 #[] blk off cap ss.toArray W eg (fun m os dk _ x y=>y0n x y _) hH hblk (by simpa using hn);simp only [List.size_toArray] at h;exact h.mono fun e w' ⟨he,m,os,hw⟩=>⟨he,m,os,by rw [hw];simp [f1O]⟩
end
section
attribute [local irreducible] a0q a0r a0k a0P
theorem q0m:b0m Tryz.prog 108 [.int .u64 0] (.int .i64 0):=by
 refine fEx Tryz.func108 ?_;repeat' ((conv=>whnf);first|refine a0a ?_|(apply bRx<;>intro h<;>try (exfalso;(try dsimp only at h);omega)))
 all_goals (conv=>whnf)
 all_goals first
  |exact a0c rfl
  |(exfalso;omega)
  |trace_state
theorem v0l:b0m Tryz.prog 58 [.int .u64 0] (.int .i64 0):=by
 have c:=q0m;refine fEx Tryz.func58 ?_;repeat' ((conv=>whnf);first|refine cPx c ?_|refine a0a ?_|(apply bRx<;>intro h<;>try (exfalso;(try dsimp only at h);omega)))
 all_goals (conv=>whnf)
 all_goals first
  |exact a0c rfl
  |(exfalso;omega)
  |trace_state
theorem b1x:FC Tryz.prog 2 163 [.sl 1 0 0 0,.int .i64 0,.int .i64 0,.fn 82 []] [] (a0h (.tup []) [] 2):=by
 refine fEx Tryz.func163 ?_;repeat' ((conv=>whnf);first|refine a0a ?_|(apply bRx<;>intro h<;>try (exfalso;(try dsimp only at h);omega)))
 all_goals (conv=>whnf)
 refine a0E (fun _:Unit=>⟨[(2,.int .i64 0),(8,.int .i64 1)],[],2⟩) (fun _=>True) (fun _=>0) () [0,1] [] wHx trivial ?_;intro _ _;repeat' ((conv=>whnf);first|refine a0a ?_|(apply bRx<;>intro h<;>try (exfalso;(try dsimp only at h);omega)))
 all_goals (conv=>whnf)
 all_goals first
  |exact rOx [0,1] a0b
  |(exfalso;omega)
  |trace_state
theorem b1y:FC Tryz.prog 2 131 [.sl 1 0 0 0,.int .i64 0,.int .i64 0,.int .i64 0,.fn 82 []] [] (a0h (.tup []) [] 2):=by
 have c:=b1x;refine fEx Tryz.func131 ?_;repeat' ((conv=>whnf);first|refine a0a ?_|(apply bRx<;>intro h<;>try (exfalso;(try dsimp only at h);omega)))
 all_goals (conv=>whnf)
 refine a0E (fun _:Unit=>⟨[(0,.sl 1 0 0 0),(1,.int .i64 0),(2,.int .i64 0),(4,.fn 82 [])],[],2⟩) (fun _=>True) (fun _=>0) () [0,1] [] wHx trivial ?_;intro _ _;repeat' ((conv=>whnf);first|refine cOx (l:= [0,1]) c ?_|refine a0a ?_|(apply bRx<;>intro h<;>try (exfalso;(try dsimp only at h);omega)))
 all_goals (conv=>whnf)
 all_goals first
  |exact rOx [0,1] a0b
  |(exfalso;omega)
  |trace_state
abbrev i1x (l:List Ps):List Col:= [.strs (l.map Ps.p),.ints .i64 (l.map Ps.a),.strs (l.map Ps.c)]
theorem e1T {α:Type} (f:Ps->α) (d:α) {l:List Ps} {i:Nat} (hi:i<l.length):(l.map f).getD i d=f (l.toArray[i]!):=by
 rw [getElem!_pos l.toArray i (by simpa using hi)];simp [List.getD,hi]
theorem b1z (n:Nat) (l:List Ps) (hn:n<=1000000) (hl:l.length=n) (hd:b0c l):FC Tryz.prog 2 81 [.sl 1 0 0 n,.fn 82 []] [(1,some (.one false (psB n (a0g l))))] (a0h (.tup []) [(1,some (.one false (psB n (a0g (c0M l)))))] 2):=by
 rw [<-b1w hd];refine b1m (α:=Ps) i1x y0p (f0j Tryz.func81 rfl rfl) (by decide) (fun _=>rfl) (fun _=>rfl) ?_ ?_ (fun x v hv=>by simp at hv;rcases hv with rfl|rfl|rfl<;>rfl) (fun l=>(m0D l).1.length_eq) n l (by omega) hl ?_
 .intro l j c hj;rcases j with _|_|_|j
  .cases hj;simp [Col.len]
  .cases hj;simp [Col.len]
  .cases hj;simp [Col.len]
  .simp [nth] at hj
 .intro l i j c hi hj;rcases j with _|_|_|j
  .cases hj;exact congrArg Value.string (e1T Ps.p _ hi)
  .cases hj;exact congrArg (Value.int .i64) (e1T Ps.a _ hi)
  .cases hj;exact congrArg Value.string (e1T Ps.c _ hi)
  .simp [nth] at hj
 .intro h0;subst h0;have c1:=v0l;have c2:=b1y;refine fEx Tryz.func81 ?_;repeat' ((conv=>whnf);first|refine cPx c1 ?_|refine cOx (l:= [0,1]) c2 ?_|refine a0a ?_|(apply bRx<;>intro h<;>try (exfalso;(try dsimp only at h);omega)))
  all_goals (conv=>whnf)
  all_goals first
   |exact rOx [0,1] (a0d a0b)
   |trace_state
end
section
attribute [local irreducible] a0q a0r a0k a0P
abbrev ixL (R:List Ps) (p c:ByteArray):Nat:=c0O (R.map Ps.c) (R.map Ps.p) c p
theorem e1U (p c:ByteArray):ixL [] p c=0:=rfl
theorem n0Y (x:Ps) (R:List Ps) (p c:ByteArray):ixL (x::R) p c=if x.c=c/\x.p=p then 0 else ixL R p c+1:=by
 show (bif seq x.c c&&seq x.p p then 0 else ixL R p c+1)=_;by_cases h:x.c=c/\x.p=p
 .rw [if_pos h,show (seq x.c c&&seq x.p p)=true from by rw [k0o,b0M,b0M];exact h];rfl
 .rw [if_neg h,show (seq x.c c&&seq x.p p)=false from by
   cases e:(seq x.c c&&seq x.p p) with
   |false=>rfl
   |true=>rw [k0o,b0M,b0M] at e;exact absurd e h];rfl
theorem q0n (p c:ByteArray):∀R:List Ps,ixL R p c<=R.length
 | []=>n0q _
 |x::R=>by
  have:=q0n p c R;rw [n0Y,d1G];split<;>omega
theorem m0E (p c:ByteArray):∀R:List Ps,ixL R p c<R.length->(R.getD (ixL R p c) ps0).c=c/\(R.getD (ixL R p c) ps0).p=p
 | [],h=>by simp at h
 |x::R,h=>by
  rw [n0Y] at h⊢;by_cases hx:x.c=c/\x.p=p
  .rw [if_pos hx];exact hx
  .rw [if_neg hx] at h⊢;rw [j1n];exact m0E p c R (by simpa using h)
theorem r0S (p c:ByteArray):∀(R:List Ps) (j:Nat),j<ixL R p c->¬((R.getD j ps0).c=c/\(R.getD j ps0).p=p)
 | [],j,h=>by simp [e1U] at h
 |x::R,j,h=>by
  rw [n0Y] at h;by_cases hx:x.c=c/\x.p=p
  .rw [if_pos hx] at h;omega
  .rw [if_neg hx] at h;cases j with
   |zero=>exact hx
   |succ j=>rw [j1n];exact r0S p c R j (by omega)
theorem f0T (p c:ByteArray) (R:List Ps):ixL R p c<R.length↔∃x,x∈R/\x.c=c/\x.p=p:=by
 constructor
 .intro h;have:=m0E p c R h;rw [List.getD,k0n h] at this;exact ⟨_,g1v h,this⟩
 .rintro ⟨x,hx,h1,h2⟩;refine k1U fun hle=> ?_
  obtain ⟨j,hj,rfl⟩:=d1O hx;have:=r0S p c R j (by omega);rw [List.getD,k0n hj] at this;exact this ⟨h1,h2⟩
theorem b0v (L:List Ps) (j:Nat):(a0g L).p.getD j ⟨#[]⟩=(L.getD j ps0).p/\(a0g L).a.getD j 0=(L.getD j ps0).a/\(a0g L).c.getD j ⟨#[]⟩=(L.getD j ps0).c:=by
 unfold a0g;simp only [List.getD,a1u];cases L[j]?<;>exact ⟨rfl,rfl,rfl⟩
def ixN (L:List Ps) (n:Nat) (p c:ByteArray):Int:=if ixL (L.take n) p c<n then (ixL (L.take n) p c:Int) else-1
theorem q0o (L:List Ps) (n:Nat) (p c:ByteArray) (hn:n<=L.length) (hl:n<=100000) (m:Nat) (hm:L.length=m):FC Tryz.prog 2 178 [.sl 1 0 0 n,.str p,.str c] [(1,some (.one true (psB m (a0g L))))] (a0h (.int .i64 (ixN L n p c)) [] 2):=by
 have hle:=q0n p c (L.take n);have hmin:=r0S p c (L.take n);have hat:=m0E p c (L.take n);rw [d1P,k1p hn] at hle hat;have htk:∀j,j<n->(L.take n).getD j ps0=L.getD j ps0:=fun j hj=>by simp [List.getD,j1U,hj]
 unfold ixN;generalize ixL (L.take n) p c=ix at*;refine fEx Tryz.func178 ?_;repeat' ((conv=>whnf);first|refine a0a ?_|(apply bRx<;>intro h<;>try (exfalso;(try dsimp only at h);omega)))
 all_goals (conv=>whnf)
 refine a0E (fun k:Nat=>⟨[(0,.sl 1 0 0 n),(1,.str p),(2,.str c),(7,.int .i64 k)],[(1,some (.one true (psB m (a0g L))))],2⟩) (fun k=>k<=ix) (fun k=>n-k) 0 [0,1] [] wHx (w0F _) ?_;intro k hk;obtain ⟨a1,a2,a3⟩:=b0v L k;by_cases hk2:k<n
 .have e1:(a0g L).p.getD ((k:Int).toNat+0) ⟨#[]⟩=(L.getD k ps0).p:=a1;have e3:(a0g L).c.getD ((k:Int).toNat+0) ⟨#[]⟩=(L.getD k ps0).c:=a3;by_cases hki:k=ix
  .subst hki;obtain ⟨h1,h2⟩:=hat hk2;rw [htk k hk2] at h1 h2;rw [h2] at e1;rw [h1] at e3;rw [if_pos hk2];generalize a0g L=pc at*;repeat' ((conv=>whnf);first|(rw [e1])|(rw [e3])|refine a0a ?_|(apply bRx<;>intro h<;>try (exfalso;(try dsimp only at h);omega)))
   all_goals (conv=>whnf)
   all_goals first
    |exact rOx [0,1] a0b
    |(exfalso;omega)
    |(exfalso;first|contradiction|(revert h;simp [seq];done))
    |trace_state
  .have hne:=hmin k (by omega);rw [htk k hk2] at hne;generalize hpp:(L.getD k ps0).p=xp at*;generalize hcc:(L.getD k ps0).c=xc at*;generalize a0g L=pc at*;repeat' ((conv=>whnf);first|(rw [e1])|(rw [e3])|refine a0a ?_|(apply bRx<;>intro h<;>try (exfalso;(try dsimp only at h);omega)))
   all_goals (conv=>whnf)
   all_goals first
    |exact ⟨k+1,[0,1],[],(show k+1<=ix by omega),by omega,⟨rfl,⟨rfl,rfl,rfl,congrArg (fun z=>some (SV.int .i64 z)) (a0e (by omega)),trivial⟩,⟨rfl,trivial⟩⟩⟩
    |(exfalso;omega)
    |(exfalso;refine hne ⟨?_,?_⟩<;>first|assumption|(rename_i h1 h2;first|exact h1|exact h2))
    |trace_state
 .have hix:¬ix<n:=by omega
  rw [if_neg hix];repeat' ((conv=>whnf);first|refine a0a ?_|(apply bRx<;>intro h<;>try (exfalso;(try dsimp only at h);omega)))
  all_goals (conv=>whnf)
  all_goals first
   |exact rOx [0,1] a0b
   |(exfalso;omega)
   |trace_state
end
section
attribute [local irreducible] a0q a0r a0k a0P
def erP (L:List Ps) (k:Nat):Int:=if b0f (L.getD k ps0).p=false then 5 else if b0O (L.getD k ps0).a (L.getD k ps0).c≠0 then b0O (L.getD k ps0).a (L.getD k ps0).c else if ixL (L.take k) (L.getD k ps0).p (L.getD k ps0).c<k then 7 else 0
def sgE (L:List Ps):Nat->Int
 |0=>0
 |k+1=>if sgE L k≠0 then sgE L k else erP L k
def sgP (L:List Ps):Int:=if 512<L.length then 3 else sgE L L.length
theorem n0Z {L:List Ps} {k:Nat} (h0:sgE L k=0) (h1:erP L k≠0):∀n,k<n->sgE L n=erP L k
 |0,hh=>by omega
 |n+1,hh=>by
  simp only [sgE];by_cases e:k=n
  .subst e;rw [if_neg (by omega)]
  .rw [n0Z h0 h1 n (by omega),if_pos h1]
theorem t0J {L:List Ps}:∀{n:Nat},sgE L n=0->∀k,k<n->erP L k=0
 |0,_,k,hk=>by omega
 |n+1,h,k,hk=>by
  simp only [sgE] at h;split at h
  .rename_i h1;exact absurd h h1
  .rename_i h1;by_cases e:k=n
   .subst e;exact h
   .exact t0J (j1Q.1 h1) k (by omega)
theorem o0a {L:List Ps} {k:Nat} (h:erP L k=0):b0f (L.getD k ps0).p=true/\b0O (L.getD k ps0).a (L.getD k ps0).c=0/\¬ixL (L.take k) (L.getD k ps0).p (L.getD k ps0).c<k:=by
 unfold erP at h;by_cases h1:b0f (L.getD k ps0).p=false
 .rw [if_pos h1] at h;omega
 rw [if_neg h1] at h;by_cases h2:b0O (L.getD k ps0).a (L.getD k ps0).c≠0
 .rw [if_pos h2] at h;exact absurd h h2
 rw [if_neg h2] at h;by_cases h3:ixL (L.take k) (L.getD k ps0).p (L.getD k ps0).c<k
 .rw [if_pos h3] at h;omega
 exact ⟨by simpa using h1,j1Q.1 h2,h3⟩
def SmP (L:List Ps):Prop:=∀k,(L.getD k ps0).p.size<=100000
abbrev siS (m:Nat) (L:List Ps) (k:Nat):VS:=⟨[(0,.sl 1 0 0 m),(3,.int .i64 k)],[(1,some (.one true (psB m (a0g L))))],2⟩
theorem m0F (L:List Ps) (m:Nat) (hm:L.length=m) (hl:m<=100000) (hs:SmP L):FC Tryz.prog 2 140 [.sl 1 0 0 m] [(1,some (.one true (psB m (a0g L))))] (a0h (.int .i64 (sgP L)) [] 2):=by
 unfold sgP;by_cases h512:512<L.length
 .rw [if_pos h512];refine fEx Tryz.func140 ?_;repeat' ((conv=>whnf);first|refine a0a ?_|(apply bRx<;>intro h<;>try (exfalso;(try dsimp only at h);omega)))
  all_goals (conv=>whnf)
  all_goals first
   |exact rOx [0,1] a0b
   |(exfalso;omega)
 rw [if_neg h512];refine fEx Tryz.func140 ?_;repeat' ((conv=>whnf);first|refine a0a ?_|(apply bRx<;>intro h<;>try (exfalso;(try dsimp only at h);omega)))
 all_goals (conv=>whnf)
 all_goals first
  |(exfalso;omega)
  |skip
 refine a0f (siS m L) (fun k=>k<=m/\sgE L k=0) (fun k=>m-k) 0 [0,1] [] wHx ⟨w0F _,rfl⟩ ?_;rintro k ⟨hk,h0⟩;by_cases hk2:k<m
 .obtain ⟨a1,a2,a3⟩:=b0v L k;have c1:=i0p ((a0g L).p.getD k ⟨#[]⟩) (by rw [a1];exact hs k);have c2:=c0v ((a0g L).a.getD k 0) ((a0g L).c.getD k ⟨#[]⟩);have c3:=q0o L k ((a0g L).p.getD k ⟨#[]⟩) ((a0g L).c.getD k ⟨#[]⟩) (by omega) (by omega) m hm;have hx1:erP L k=if b0f ((a0g L).p.getD k ⟨#[]⟩)=false then 5 else if b0O ((a0g L).a.getD k 0) ((a0g L).c.getD k ⟨#[]⟩)≠0 then b0O ((a0g L).a.getD k 0) ((a0g L).c.getD k ⟨#[]⟩) else if ixL (L.take k) ((a0g L).p.getD k ⟨#[]⟩) ((a0g L).c.getD k ⟨#[]⟩)<k then 7 else 0:=by rw [a1,a2,a3];rfl
  have hst:sgE L (k+1)=erP L k:=by simp only [sgE];rw [if_neg (by omega)]
  have hsp:erP L k≠0->sgE L m=erP L k:=fun h=>n0Z h0 h m hk2
  unfold ixN at c3;rw [hm];unfold siS;generalize b0f ((a0g L).p.getD k ⟨#[]⟩)=nb at*;generalize b0O ((a0g L).a.getD k 0) ((a0g L).c.getD k ⟨#[]⟩)=mc at*;generalize ixL (L.take k) ((a0g L).p.getD k ⟨#[]⟩) ((a0g L).c.getD k ⟨#[]⟩)=ix at*;generalize erP L k=er at*;cases nb with
  |false=>
   rw [if_pos rfl] at hx1;rw [hsp (by omega),hx1];repeat' ((conv=>whnf);first|refine cPx c1 ?_|refine cPx c2 ?_|refine cOx (l:= [0,1]) c3 ?_|refine a0a ?_|(apply bRx<;>intro h<;>try (exfalso;(try dsimp only at h);omega)))
   all_goals (conv=>whnf)
   all_goals first
    |exact rOx [0,1] a0b
    |(exfalso;omega)
    |trace_state
  |true=>
   rw [if_neg (by decide)] at hx1;by_cases hmc:mc=0
   .rw [if_neg (by simpa using hmc)] at hx1;by_cases hix:ix<k
    .rw [if_pos hix] at hx1 c3;rw [hsp (by omega),hx1];repeat' ((conv=>whnf);first|refine cPx c1 ?_|refine cPx c2 ?_|refine cOx (l:= [0,1]) c3 ?_|refine a0a ?_|(apply bRx<;>intro h<;>try (exfalso;(try dsimp only at h);omega)))
     all_goals (conv=>whnf)
     all_goals first
      |exact rOx [0,1] a0b
      |(exfalso;omega)
      |trace_state
    .rw [if_neg hix] at hx1 c3;repeat' ((conv=>whnf);first|refine cPx c1 ?_|refine cPx c2 ?_|refine cOx (l:= [0,1]) c3 ?_|refine a0a ?_|(apply bRx<;>intro h<;>try (exfalso;(try dsimp only at h);omega)))
     all_goals (conv=>whnf)
     all_goals first
      |exact ⟨k+1,[0,1],[],⟨hk2,hst.trans hx1⟩,(show m-(k+1)<m-k by omega),⟨rfl,⟨rfl,congrArg (fun z=>some (SV.int .i64 z)) (a0e (by omega)),trivial⟩,⟨rfl,trivial⟩⟩⟩
      |(exfalso;omega)
      |trace_state
   .rw [if_pos hmc] at hx1;rw [hsp (by omega),hx1];repeat' ((conv=>whnf);first|refine cPx c1 ?_|refine cPx c2 ?_|refine cOx (l:= [0,1]) c3 ?_|refine a0a ?_|(apply bRx<;>intro h<;>try (exfalso;(try dsimp only at h);omega)))
    all_goals (conv=>whnf)
    all_goals first
     |exact rOx [0,1] a0b
     |(exfalso;omega)
     |trace_state
 .have e:k=m:=by omega
  subst e;rw [hm,h0];unfold siS;repeat' ((conv=>whnf);first|refine a0a ?_|(apply bRx<;>intro h<;>try (exfalso;(try dsimp only at h);omega)))
  all_goals (conv=>whnf)
  all_goals first
   |exact rOx [0,1] a0b
   |(exfalso;omega)
   |trace_state
abbrev ceS (m:Nat) (L:List Ps) (k:Nat) (V:List Bool) (bs:List Nat) (ck:Nat):VS:=⟨[(3,.map 2 0),(11,.sl 1 0 0 m),(12,.int .i64 m),(13,.int .i64 k)],[(1,some (.one true (psB m (a0g L)))),(2,some (.one false (.obj (.map true false k [.strs ((L.take k).map Ps.c),.strs ((L.take k).map Ps.p)] [.sc (.bools V)] bs ck))))],3⟩
theorem e0M {α:Type} {l:List α} {n:Nat} (h:l.length=n) (x:α):a0Z n x l=l++ [x]:=by
 unfold a0Z;rw [if_neg (by omega)]
theorem h1c {k ix:Nat} (h:ix=k) {C P:List ByteArray} {c p:ByteArray} {V bs:_} {ck:Nat} (q1:a0Z k c C=C++ [c]) (q2:a0Z k p P=P++ [p]) (q3:a0Z k true V=V++ [true]):
  (some (HB.one false (.obj (.map true false (if ix<k then k else k+1) [.strs (a0Z ix c C),.strs (a0Z ix p P)] [.sc (.bools (a0Z ix true V))] (if ix<k then bs else bs++ [ck]) (if ix<k then ck else ck+1)))):Option HB)=some (.one false (.obj (.map true false (k+1) [.strs (C++ [c]),.strs (P++ [p])] [.sc (.bools (V++ [true]))] (bs++ [ck]) (ck+1)))):=by
 subst h;rw [if_neg (by omega),if_neg (by omega),if_neg (by omega),q1,q2,q3]
theorem o0b (L:List Ps) (m:Nat) (hm:L.length=m) (hl:m<=100000):FC Tryz.prog 2 130 [.sl 1 0 0 m] [(1,some (.one true (psB m (a0g L))))] (a0h (.int .i64 (sgP L)) [] 2):=by
 unfold sgP;by_cases h512:512<L.length
 .rw [if_pos h512];refine fEx Tryz.func130 ?_;repeat' ((conv=>whnf);first|refine a0a ?_|(apply bRx<;>intro h<;>try (exfalso;(try dsimp only at h);omega)))
  all_goals (conv=>whnf)
  all_goals first
   |exact rOx [0,1] a0b
   |(exfalso;omega)
 rw [if_neg h512];refine fEx Tryz.func130 ?_;repeat' ((conv=>whnf);first|refine a0a ?_|(apply bRx<;>intro h<;>try (exfalso;(try dsimp only at h);omega)))
 all_goals (conv=>whnf)
 all_goals first
  |(exfalso;omega)
  |skip
 refine a0f (fun x:Nat×List Bool×List Nat×Nat=>ceS m L x.1 x.2.1 x.2.2.1 x.2.2.2) (fun x=>x.1<=m/\sgE L x.1=0/\x.2.1.length=x.1/\∀j,j<x.1->x.2.1.getD j false=true) (fun x=>m-x.1) (0,[],[],0) [0,1,2] [] wHx ⟨w0F _,rfl,rfl,fun j hj=>by simp at hj⟩ ?_;rintro ⟨k,V,bs,ck⟩ ⟨hk,h0,hv,hV⟩;dsimp only at hk h0 hv hV;by_cases hk2:k<m
 .obtain ⟨a1,a2,a3⟩:=b0v L k;have c1:=v0k ((a0g L).p.getD k ⟨#[]⟩);have c2:=d0r ((a0g L).a.getD k 0) ((a0g L).c.getD k ⟨#[]⟩);have c3:=r0R ((a0g L).p.getD k ⟨#[]⟩) ((a0g L).a.getD k 0) ((a0g L).c.getD k ⟨#[]⟩);have hx1:erP L k=if b0f ((a0g L).p.getD k ⟨#[]⟩)=false then 5 else if b0O ((a0g L).a.getD k 0) ((a0g L).c.getD k ⟨#[]⟩)≠0 then b0O ((a0g L).a.getD k 0) ((a0g L).c.getD k ⟨#[]⟩) else if ixL (L.take k) ((a0g L).p.getD k ⟨#[]⟩) ((a0g L).c.getD k ⟨#[]⟩)<k then 7 else 0:=by rw [a1,a2,a3];rfl
  have hst:sgE L (k+1)=erP L k:=by simp only [sgE];rw [if_neg (by omega)]
  have hsp:erP L k≠0->sgE L m=erP L k:=fun h=>n0Z h0 h m hk2
  have hle:=q0n ((a0g L).p.getD k ⟨#[]⟩) ((a0g L).c.getD k ⟨#[]⟩) (L.take k);have hkl:(L.take k).length=k:=by rw [d1P];omega
  rw [hkl] at hle;have htk:L.take (k+1)=L.take k++ [L.getD k ps0]:=by
   rw [j1x (by omega),List.getD,k0n (by omega)];rfl
  have hc1:(L.take (k+1)).map Ps.c=(L.take k).map Ps.c++ [((a0g L).c.getD k ⟨#[]⟩)]:=by rw [htk,h1W,a3];rfl
  have hp1:(L.take (k+1)).map Ps.p=(L.take k).map Ps.p++ [((a0g L).p.getD k ⟨#[]⟩)]:=by rw [htk,h1W,a1];rfl
  rw [hm];unfold ceS;dsimp only;by_cases hnb:b0f ((a0g L).p.getD k ⟨#[]⟩)=false
  .rw [if_pos hnb] at hx1;rw [hnb] at c1;rw [hsp (by omega),hx1];repeat' ((conv=>whnf);first|refine cPx c1 ?_|refine cPx c2 ?_|refine cPx c3 ?_|refine a0a ?_|(apply bRx<;>intro h<;>try (exfalso;(try dsimp only at h);omega)))
   all_goals (conv=>whnf)
   all_goals first
    |exact rOx [0,1] a0b
    |(exfalso;omega)
    |trace_state
  rw [if_neg hnb] at hx1;rw [show b0f ((a0g L).p.getD k ⟨#[]⟩)=true by simpa using hnb] at c1;by_cases hmc:b0O ((a0g L).a.getD k 0) ((a0g L).c.getD k ⟨#[]⟩)≠0
  .rw [if_pos hmc] at hx1;rw [hsp (by omega),hx1];generalize b0O ((a0g L).a.getD k 0) ((a0g L).c.getD k ⟨#[]⟩)=mc at*;repeat' ((conv=>whnf);first|refine cPx c1 ?_|refine cPx c2 ?_|refine cPx c3 ?_|refine a0a ?_|(apply bRx<;>intro h<;>try (exfalso;(try dsimp only at h);omega)))
   all_goals (conv=>whnf)
   all_goals first
    |exact rOx [0,1] a0b
    |(exfalso;omega)
    |trace_state
  rw [if_neg hmc] at hx1;rw [j1Q.1 hmc] at c2;by_cases hix:ixL (L.take k) ((a0g L).p.getD k ⟨#[]⟩) ((a0g L).c.getD k ⟨#[]⟩)<k
  .rw [if_pos hix] at hx1;rw [hsp (by omega),hx1];have hv1:=hV _ hix;repeat' ((conv=>whnf);first|refine cPx c1 ?_|refine cPx c2 ?_|refine cPx c3 ?_|refine a0a ?_|(apply bRx<;>intro h<;>try (exfalso;(try dsimp only at h);omega)))
   all_goals (conv=>whnf)
   all_goals first
    |exact rOx [0,1] a0b
    |(exfalso;first|omega|(rw [hv1] at h;cases h;done)|contradiction)
    |trace_state
  .rw [if_neg hix] at hx1;have hik:ixL (L.take k) ((a0g L).p.getD k ⟨#[]⟩) ((a0g L).c.getD k ⟨#[]⟩)=k:=by omega
   have hv1:V.getD k false=false:=by rw [List.getD,r0b (by omega)];rfl
   have hVn:∀j,j<k+1->(V++ [true]).getD j false=true:=by
    intro j hj;by_cases e:j=k
    .subst e;rw [List.getD,c1l (by omega)];simp [hv]
    .have:=hV j (by omega);rw [List.getD,c1u (by omega)];exact this
   have q1:=e0M (show ((L.take k).map Ps.c).length=k by simpa using hkl) ((a0g L).c.getD k ⟨#[]⟩);have q2:=e0M (show ((L.take k).map Ps.p).length=k by simpa using hkl) ((a0g L).p.getD k ⟨#[]⟩);have q3:=e0M hv true;repeat' ((conv=>whnf);first|(rw [hik])|(rw [hv1])|refine cPx c1 ?_|refine cPx c2 ?_|refine cPx c3 ?_|refine a0a ?_|(apply bRx<;>intro h<;>try (exfalso;(try dsimp only at h);omega)))
   all_goals (conv=>whnf)
   .exfalso;rw [show c0O (List.map Ps.c (List.take k L)) (List.map Ps.p (List.take k L)) ((a0g L).c.getD k ⟨#[]⟩) ((a0g L).p.getD k ⟨#[]⟩)=k from hik,hv1] at h;cases h
   .rename_i h1 h2;refine ⟨(k+1,V++ [true],bs++ [ck],ck+1),[0,1,2],[],⟨hk2,hst.trans hx1,by simp [hv],hVn⟩,(show m-(k+1)<m-k by omega),⟨rfl,⟨rfl,rfl,rfl,congrArg (fun z=>some (SV.int .i64 z)) (a0e (by omega)),trivial⟩,⟨rfl,?_,trivial⟩⟩⟩;rw [hc1,hp1];exact h1c hik q1 q2 q3
 .have e:k=m:=by omega
  subst e;rw [hm,h0];unfold ceS;repeat' ((conv=>whnf);first|refine a0a ?_|(apply bRx<;>intro h<;>try (exfalso;(try dsimp only at h);omega)))
  all_goals (conv=>whnf)
  all_goals first
   |exact rOx [0,1] a0b
   |(exfalso;omega)
   |trace_state
end
section
attribute [local irreducible] a0q a0r a0k a0P
def c0N:List Ps->ByteArray->Int
 | [],_=>0
 |x::L,c=>(if x.c=c then x.a else 0)+c0N L c
theorem g0C (A B:List Ps) (c:ByteArray):c0N (A++B) c=c0N A c+c0N B c:=by
 induction A with
 |nil=>simp [c0N]
 |cons x A ih=>simp only [g1u,c0N,ih,Int.add_assoc]
theorem y0q {A B:List Ps} (h:A.Perm B) (c:ByteArray):c0N A c=c0N B c:=by
 induction h with
 |nil=>rfl
 |cons x _ ih=>simp only [c0N,ih]
 |swap x y l=>simp only [c0N];omega
 |trans _ _ ih1 ih2=>exact ih1.trans ih2
theorem o0c {L:List Ps} {c:ByteArray} (h:∀x∈L,x.c≠c):c0N L c=0:=by
 induction L with
 |nil=>rfl
 |cons x L ih=>
  simp only [c0N];rw [if_neg (h x (by simp)),ih (fun y hy=>h y (by simp [hy]))];rfl
theorem e0N {L:List Ps} {k:Nat} (hk:k<L.length):L.take (k+1)=L.take k++ [L.getD k ps0]:=by
 rw [j1x hk,List.getD,k0n hk];rfl
theorem h0F {L:List Ps} {k:Nat} (hk:k<L.length) (c:ByteArray):c0N (L.take (k+1)) c=c0N (L.take k) c+if (L.getD k ps0).c=c then (L.getD k ps0).a else 0:=by
 rw [e0N hk,g0C];simp [c0N]
theorem r0T {L:List Ps} (h:∀k,k<L.length->-4503599627370496<=(L.getD k ps0).a/\(L.getD k ps0).a<=4503599627370496) (c:ByteArray):∀k:Nat,k<=L.length->-4503599627370496*(k:Int)<=c0N (L.take k) c/\c0N (L.take k) c<=4503599627370496*(k:Int)
 |0,_=>by simp [c0N]
 |k+1,hk=>by
  have ih:=r0T h c k (by omega);have:=h k (by omega);rw [h0F (by omega)];split<;>omega
def z0D (L:List Ps):Bool:=L.all (fun x=>decide (c0N L x.c=0))
theorem j0s {L:List Ps}:z0D L=true↔∀c,c0N L c=0:=by
 unfold z0D;rw [k1u];constructor
 .intro h c;by_cases hc:∃x∈L,x.c=c
  .obtain ⟨x,hx,rfl⟩:=hc;exact of_decide_eq_true (h x hx)
  .exact o0c fun x hx e=>hc ⟨x,hx,e⟩
 .exact fun h x _=>decide_eq_true (h _)
def ckP (L:List Ps):Int:=if sgP L≠0 then sgP L else if z0D L=true then 0 else 26
theorem e0O {a:Int} {c:ByteArray} (h:b0O a c=0):d0M c=true/\-4503599627370496<=a/\a<=4503599627370496:=by
 rcases e0F a c with h1|h1
 .omega
 .exact h1.2
theorem h0G {L:List Ps} (h:sgP L=0):L.length<=512/\∀k,k<L.length->erP L k=0:=by
 unfold sgP at h;split at h
 .omega
 .exact ⟨by omega,t0J h⟩
theorem y0r {L:List Ps} (h:sgP L=0) (k:Nat) (hk:k<L.length): -4503599627370496<=(L.getD k ps0).a/\(L.getD k ps0).a<=4503599627370496:=(e0O (o0a ((h0G h).2 k hk)).2.1).2
structure SmI (L:List Ps) (k n:Nat) (C:List ByteArray) (W:List Int):Prop where
 c:C.length=n
 w:W.length=n
 nd:C.Nodup
 all:∀c,(if a0o C c<n then W.getD (a0o C c) 0 else 0)=c0N (L.take k) c
theorem b1A (L:List Ps):SmI L 0 0 [] []:=⟨rfl,rfl,k1I,fun c=>by simp [c0N]⟩
theorem o0d {α:Type} {l:List α} {i:Nat} (h:i<l.length) (x:α):a0Z i x l=l.set i x:=by unfold a0Z;rw [if_pos h]
theorem b1B {L:List Ps} {k n:Nat} {C:List ByteArray} {W:List Int} (hI:SmI L k n C W) (hk:k<L.length) (v:Int) (hv:v=c0N (L.take k) (L.getD k ps0).c+(L.getD k ps0).a):
  SmI L (k+1) (if a0o C (L.getD k ps0).c<n then n else n+1) (a0Z (a0o C (L.getD k ps0).c) (L.getD k ps0).c C) (a0Z (a0o C (L.getD k ps0).c) v W):=by
 generalize hx:L.getD k ps0=x at*;obtain ⟨hc,hw,hnd,hall⟩:=hI;have hle:=Go.Sy.sidx_le C x.c;by_cases h:a0o C x.c<n
 .have e1:a0Z (a0o C x.c) x.c C=C:=by rw [f0v,if_pos (by omega)]
  rw [if_pos h,e1,o0d (by omega)];refine ⟨hc,by simp [hw],hnd,fun c=> ?_⟩;rw [h0F hk,hx];by_cases ec:x.c=c
  .subst ec;rw [if_pos h,if_pos rfl,List.getD,j1S (by omega)];exact hv
  .rw [if_neg ec,l1y,<-hall c];by_cases h2:a0o C c<n
   .rw [if_pos h2,if_pos h2];have hne:a0o C x.c≠a0o C c:=by
     intro e;have g1:=sidx_get (l:=C) (s:=x.c) (by omega);have g2:=sidx_get (l:=C) (s:=c) (by omega);rw [e,g2] at g1;exact ec (Option.some.inj g1).symm
    rw [List.getD,List.getD,j1R hne]
   .rw [if_neg h2,if_neg h2]
 .have hn:a0o C x.c=n:=by omega
  rw [if_neg h,hn];have e1:=e0M hc x.c;have e2:=e0M hw v;rw [e1,e2];have hni:x.c∉C:=fun hm=>h (by rw [<-hc];exact sidx_lt.2 hm)
  have hnd':(C++ [x.c]).Nodup:=k1t.2 ⟨hnd,by simp,fun a ha b hb e=>by simp at hb;subst hb;subst e;exact hni ha⟩;refine ⟨by simp [hc],by simp [hw],hnd',fun c=> ?_⟩;rw [h0F hk,hx,<-hall c];by_cases ec:x.c=c
  .subst ec;have e3:a0o (C++ [x.c]) x.c=n:=sidx_of_get hnd' (by rw [c1l (by omega)];simp [hc]);rw [e3,if_pos (by omega),if_neg h,if_pos rfl,List.getD,c1l (by omega)];simp only [hw,j1k,k1e,j1A];have:=hall x.c;rw [if_neg h] at this;omega
  .rw [if_neg ec,l1y];by_cases h2:a0o C c<n
   .have e3:a0o (C++ [x.c]) c=a0o C c:=sidx_of_get hnd' (by rw [c1u (by omega)];exact sidx_get (by omega));rw [e3,if_pos (by omega),if_pos h2,List.getD,List.getD,c1u (by omega)]
   .have hnm:c∉C++ [x.c]:=by
     intro hm;rcases g1h.1 hm with hm|hm
     .exact h2 (by rw [<-hc];exact sidx_lt.2 hm)
     .simp at hm;exact ec hm.symm
    rw [if_neg h2,if_neg];intro h3;exact hnm (sidx_lt.1 (by rw [a1N,hc];simpa using h3))
theorem e1V {L:List Ps} {k n:Nat} {C:List ByteArray} {W:List Int} (hI:SmI L k n C W) {i:Nat} (hi:i<n):W.getD i 0=c0N (L.take k) (C.getD i ⟨#[]⟩):=by
 have e:a0o C (C.getD i ⟨#[]⟩)=i:=sidx_of_get hI.nd (by rw [List.getD,k0n (by have:=hI.c;omega)];rfl);have:=hI.all (C.getD i ⟨#[]⟩);rw [e,if_pos hi] at this;exact this
theorem h1d {L:List Ps} {n:Nat} {C:List ByteArray} {W:List Int} (hI:SmI L L.length n C W) {i:Nat} (hi:i<n) (h:W.getD i 0≠0):z0D L=false:=by
 cases hb:z0D L with
 |false=>rfl
 |true=>
  have:=e1V hI hi;rw [g1y,j0s.1 hb] at this;exact absurd this h
theorem i1y {L:List Ps} {n:Nat} {C:List ByteArray} {W:List Int} (hI:SmI L L.length n C W) (h:∀i,i<n->W.getD i 0=0):z0D L=true:=by
 refine j0s.2 fun c=> ?_
 have:=hI.all c;rw [g1y] at this;rw [<-this];split
 .rename_i h1;exact h _ h1
 .rfl
abbrev ncS (m:Nat) (L:List Ps) (x:Nat×Nat×List ByteArray×List Int×List Nat×Nat):VS:=⟨[(4,.map 2 0),(15,.sl 1 0 0 m),(16,.int .i64 m),(17,.int .i64 x.1)],[(1,some (.one true (psB m (a0g L)))),(2,some (.one false (.obj (.map false false x.2.1 [.strs x.2.2.1] [.sc (.ints .i64 x.2.2.2.1)] x.2.2.2.2.1 x.2.2.2.2.2))))],3⟩
theorem y0s (L:List Ps) (m:Nat) (hm:L.length=m) (hl:m<=100000):FC Tryz.prog 2 79 [.sl 1 0 0 m] [(1,some (.one true (psB m (a0g L))))] (a0h (.int .i64 (ckP L)) [] 2):=by
 have c1:=o0b L m hm hl;unfold ckP;by_cases hsg:sgP L≠0
 .rw [if_pos hsg];generalize sgP L=sg at*;refine fEx Tryz.func79 ?_;repeat' ((conv=>whnf);first|refine cOx (l:= [0,1]) c1 ?_|refine a0a ?_|(apply bRx<;>intro h<;>try (exfalso;(try dsimp only at h);omega)))
  all_goals (conv=>whnf)
  all_goals first
   |exact rOx [0,1] a0b
   |(exfalso;omega)
   |trace_state
 rw [if_neg hsg];have hz:=j1Q.1 hsg;rw [hz] at c1;have hbd:=y0r hz;have h512:=(h0G hz).1;have hsum:=fun c k hk=>r0T hbd c k hk
 refine fEx Tryz.func79 ?_;repeat' ((conv=>whnf);first|refine cOx (l:= [0,1]) c1 ?_|refine a0a ?_|(apply bRx<;>intro h<;>try (exfalso;(try dsimp only at h);omega)))
 all_goals (conv=>whnf)
 refine a0f (ncS m L) (fun x=>x.1<=m/\SmI L x.1 x.2.1 x.2.2.1 x.2.2.2.1) (fun x=>m-x.1) (0,0,[],[],[],0) [0,1,2] [] wHx ⟨w0F _,b1A L⟩ ?_;rintro ⟨k,n,C,W,bs,ck⟩ ⟨hk,hI⟩;dsimp only at hk hI;by_cases hk2:k<m
 .obtain ⟨a1,a2,a3⟩:=b0v L k;have hv:=hI.all (L.getD k ps0).c;have hb1:=hsum (L.getD k ps0).c k (by omega);have hb2:=hbd k (by omega);have hv2:W.getD (a0o C (L.getD k ps0).c) 0=c0N (L.take k) (L.getD k ps0).c:=by
   rw [<-hv];split
   .rfl
   .rw [List.getD,r0b (by have:=hI.w;omega)];rfl
  have hst:=b1B hI (by omega) (IntKind.i64.wrap (W.getD (a0o C (L.getD k ps0).c) 0+(L.getD k ps0).a)) (by rw [hv2];exact a0m (by omega) (by omega));rw [<-a3,<-a2] at hst;clear hv hb1 hb2 hv2 a1 a2 a3;unfold ncS;dsimp only;repeat' ((conv=>whnf);first|refine a0a ?_|(apply bRx<;>intro h<;>try (exfalso;(try dsimp only at h);omega)))
  all_goals (conv=>whnf)
  all_goals first
   |exact ⟨(k+1,(if a0o C ((a0g L).c.getD k ⟨#[]⟩)<n then n else n+1),a0Z (a0o C ((a0g L).c.getD k ⟨#[]⟩)) ((a0g L).c.getD k ⟨#[]⟩) C,a0Z (a0o C ((a0g L).c.getD k ⟨#[]⟩)) (IntKind.i64.wrap (W.getD (a0o C ((a0g L).c.getD k ⟨#[]⟩)) 0+(a0g L).a.getD k 0)) W,(if a0o C ((a0g L).c.getD k ⟨#[]⟩)<n then bs else bs++ [ck]),(if a0o C ((a0g L).c.getD k ⟨#[]⟩)<n then ck else ck+1)),[0,1,2],[],⟨hk2,hst⟩,(show m-(k+1)<m-k by omega),⟨rfl,⟨rfl,rfl,rfl,congrArg (fun z=>some (SV.int .i64 z)) (a0e (by omega)),trivial⟩,⟨rfl,rfl,trivial⟩⟩⟩
   |(exfalso;omega)
   |trace_state
 .have e:k=m:=by omega
  subst e;have hI':SmI L L.length n C W:=by rw [hm];exact hI
  have hnz:=fun (i:Nat) (hi:i<n) h=>h1d hI' hi h
  have hzz:=i1y hI';unfold ncS;dsimp only;repeat' ((conv=>whnf);first|refine a0a ?_|(apply bRx<;>intro h<;>try (exfalso;(try dsimp only at h);omega)))
  all_goals (conv=>whnf)
  all_goals first
   |(exfalso;omega)
   |skip
  refine a0E (fun sn:List Nat=>⟨[(32,.ptr 3 0 0 0)],[(2,some (.one false (.obj (.map false false n [.strs C] [.sc (.ints .i64 W)] bs ck)))),(3,some (.one false (.obj (.iter 2 0 bs ck sn))))],4⟩) (fun sn=>sn.Nodup/\(∀i∈sn,i<n)/\∀i∈sn,W.getD i 0=0) (fun sn=>n-sn.length) [] [0,1,2,3] [] wHx ⟨k1I,by simp,by simp⟩ ?_;rintro sn ⟨hd,hl2,hzr⟩;repeat' ((conv=>whnf);first|(refine ⟨⟨rfl,rfl⟩,fun i hi hni=> ?_,fun hall=> ?_⟩)|refine a0a ?_|(apply bRx<;>intro h<;>try (exfalso;(try dsimp only at h);omega)))
  all_goals (conv=>whnf)
  .rw [hnz _ hi (by assumption),if_neg (by decide)];exact rOx [0,1] a0b
  .have:=d0b hd hl2 hi hni;refine ⟨i::sn,[0,1,2,3],[],⟨k1P.2 ⟨hni,hd⟩,fun x hx=> ?_,fun x hx=> ?_⟩,by simp only [d1G];omega,⟨rfl,⟨rfl,trivial⟩,⟨rfl,rfl,trivial⟩⟩⟩
   .rcases a1q.1 hx with rfl|hx
    .exact hi
    .exact hl2 x hx
   .rcases a1q.1 hx with rfl|hx
    .assumption
    .exact hzr x hx
  .rw [hzz (fun i hi=>hzr i (hall i hi)),if_pos rfl];exact rOx [0,1] a0b
theorem e1W {L:List Ps} {i:Nat} (hi:i<L.length) (h:c0N L (L.getD i ps0).c≠0):z0D L=false:=by
 cases hb:z0D L with
 |false=>rfl
 |true=>exact absurd (j0s.1 hb _) h
theorem e1X {L:List Ps} (h:∀i,i<L.length->c0N L (L.getD i ps0).c=0):z0D L=true:=by
 unfold z0D;rw [k1u];intro x hx;obtain ⟨j,hj,rfl⟩:=d1O hx;have:=h j hj;rw [List.getD,k0n hj] at this;exact decide_eq_true this
theorem y0t (L:List Ps) (m:Nat) (hm:L.length=m) (hl:m<=100000) (hs:SmP L):FC Tryz.prog 2 94 [.sl 1 0 0 m] [(1,some (.one true (psB m (a0g L))))] (a0h (.int .i64 (ckP L)) [] 2):=by
 have c1:=m0F L m hm hl hs;unfold ckP;by_cases hsg:sgP L≠0
 .rw [if_pos hsg];generalize sgP L=sg at*;refine fEx Tryz.func94 ?_;repeat' ((conv=>whnf);first|refine cOx (l:= [0,1]) c1 ?_|refine a0a ?_|(apply bRx<;>intro h<;>try (exfalso;(try dsimp only at h);omega)))
  all_goals (conv=>whnf)
  all_goals first
   |exact rOx [0,1] a0b
   |(exfalso;omega)
   |trace_state
 rw [if_neg hsg];have hz:=j1Q.1 hsg;rw [hz] at c1;have hbd:=y0r hz;have h512:=(h0G hz).1;have hsum:=fun c k hk=>r0T hbd c k hk
 refine fEx Tryz.func94 ?_;repeat' ((conv=>whnf);first|refine cOx (l:= [0,1]) c1 ?_|refine a0a ?_|(apply bRx<;>intro h<;>try (exfalso;(try dsimp only at h);omega)))
 all_goals (conv=>whnf)
 refine a0f (fun i:Nat=>⟨[(0,.sl 1 0 0 m),(4,.int .i64 i)],[(1,some (.one true (psB m (a0g L))))],2⟩) (fun i=>i<=m/\∀j,j<i->c0N L (L.getD j ps0).c=0) (fun i=>m-i) 0 [0,1] [] wHx ⟨w0F _,fun j hj=>by omega⟩ ?_;rintro i ⟨hi,hz0⟩;by_cases hi2:i<m
 .obtain ⟨_,_,b3⟩:=b0v L i;repeat' ((conv=>whnf);first|refine a0a ?_|(apply bRx<;>intro h<;>try (exfalso;(try dsimp only at h);omega)))
  all_goals (conv=>whnf)
  all_goals first
   |(exfalso;omega)
   |skip
  refine a0f (fun k:Nat=>⟨[(0,.sl 1 0 0 m),(4,.int .i64 i),(5,.int .i64 (c0N (L.take k) ((a0g L).c.getD i ⟨#[]⟩))),(6,.int .i64 k)],[(1,some (.one true (psB m (a0g L))))],2⟩) (fun k=>k<=m) (fun k=>m-k) 0 [0,1] [] wHx (w0F _) ?_;intro k hk;by_cases hk2:k<m
  .obtain ⟨a1,a2,a3⟩:=b0v L k;have hst:=h0F (L:=L) (k:=k) (by omega) ((a0g L).c.getD i ⟨#[]⟩);have hb1:=hsum ((a0g L).c.getD i ⟨#[]⟩) (k+1) (by omega);rw [<-a3,<-a2] at hst;clear a1 a2 a3 b3;by_cases hc:(a0g L).c.getD k ⟨#[]⟩=(a0g L).c.getD i ⟨#[]⟩
   .rw [if_pos hc] at hst;have hw:IntKind.i64.wrap (c0N (L.take k) ((a0g L).c.getD i ⟨#[]⟩)+(a0g L).a.getD k 0)=c0N (L.take (k+1)) ((a0g L).c.getD i ⟨#[]⟩):=by rw [<-hst];exact a0m (by omega) (by omega)
    repeat' ((conv=>whnf);first|refine a0a ?_|(apply bRx<;>intro h<;>try (exfalso;(try dsimp only at h);omega)))
    all_goals (conv=>whnf)
    all_goals first
     |exact ⟨k+1,[0,1],[],(show k+1<=m by omega),(show m-(k+1)<m-k by omega),⟨rfl,⟨rfl,rfl,congrArg (fun z=>some (SV.int .i64 z)) hw,congrArg (fun z=>some (SV.int .i64 z)) (a0e (by omega)),trivial⟩,⟨rfl,trivial⟩⟩⟩
     |(exfalso;first|omega|contradiction)
     |trace_state
   .rw [if_neg hc,l1y] at hst;repeat' ((conv=>whnf);first|refine a0a ?_|(apply bRx<;>intro h<;>try (exfalso;(try dsimp only at h);omega)))
    all_goals (conv=>whnf)
    all_goals first
     |exact ⟨k+1,[0,1],[],(show k+1<=m by omega),(show m-(k+1)<m-k by omega),⟨rfl,⟨rfl,rfl,congrArg (fun z=>some (SV.int .i64 z)) hst.symm,congrArg (fun z=>some (SV.int .i64 z)) (a0e (by omega)),trivial⟩,⟨rfl,trivial⟩⟩⟩
     |(exfalso;first|omega|contradiction)
     |trace_state
  .have e:k=m:=by omega
   subst e;rw [show L.take k=L by rw [<-hm,g1y],b3];have hno:=e1W (L:=L) (i:=i) (by omega);have hyes:∀h0:c0N L (L.getD i ps0).c=0,∀j,j<i+1->c0N L (L.getD j ps0).c=0:=fun h0 j hj=>by
    by_cases e:j=i
    .subst e;exact h0
    .exact hz0 j (by omega)
   generalize c0N L (L.getD i ps0).c=sm at*;repeat' ((conv=>whnf);first|refine a0a ?_|(apply bRx<;>intro h<;>try (exfalso;(try dsimp only at h);omega)))
   all_goals (conv=>whnf)
   all_goals first
    |(rw [hno (by assumption),if_neg (by decide)];exact rOx [0,1] a0b)
    |exact ⟨i+1,[0,1],[],⟨by omega,hyes (by assumption)⟩,(show k-(i+1)<k-i by omega),⟨rfl,⟨rfl,congrArg (fun z=>some (SV.int .i64 z)) (a0e (by omega)),trivial⟩,⟨rfl,trivial⟩⟩⟩
    |(exfalso;first|omega|contradiction)
    |trace_state
 .have e:i=m:=by omega
  subst e;rw [e1X (fun j hj=>hz0 j (by omega)),if_pos rfl];repeat' ((conv=>whnf);first|refine a0a ?_|(apply bRx<;>intro h<;>try (exfalso;(try dsimp only at h);omega)))
  all_goals (conv=>whnf)
  all_goals first
   |exact rOx [0,1] a0b
   |(exfalso;omega)
   |trace_state
end
section
attribute [local irreducible] a0q a0r a0k a0P
def mvN (R:List Ps) (p c:ByteArray) (d:Int):Int:=(R.getD (ixL R p c) ps0).a+d
def mvR (R:List Ps) (p c:ByteArray) (d:Int):List Ps:=a0Z (ixL R p c) ⟨p,mvN R p c d,c⟩ R
abbrev moR (R:List Ps) (p c:ByteArray) (d:Int):SV->a0j->Nat->Prop:=
 if-4503599627370496<=mvN R p c d/\mvN R p c d<=4503599627370496 then a0h (.tup [.sl 2 0 0 (mvR R p c d).length,.int .i64 0]) [(2,some (.one false (psB (mvR R p c d).length (a0g (mvR R p c d)))))] 3 else a0h (.tup [.nsl,.int .i64 4]) [] 2
theorem c0l {α:Type} {l:List α} {n:Nat} (h:l.length=n):seg 0 n l=l:=by
 unfold seg;rw [k1X,<-h,g1y]
theorem t0K {α:Type} {l:List α} {i:Nat} {d x:α} (hi:i<l.length) (h:l.getD i d=x):l.set i x=l:=by
 subst h;refine k1M fun j=> ?_
 rw [j1H];split
 .rename_i e;subst e;simp [hi,List.getD]
 .rfl
theorem i1z {R:List Ps} {n ix:Nat} (hn:R.length=n) (hix:ix<n) {p c:ByteArray} {v:Int} (h1:(R.getD ix ps0).p=p) (h2:(R.getD ix ps0).c=c):
  (some (HB.one false (.cols (0+n) [.sc (.strs (seg 0 n (a0g R).p)),.sc (.ints .i64 ((seg 0 n (a0g R).a).set ix v)),.sc (.strs (seg 0 n (a0g R).c))])):Option HB)=some (.one false (psB n (a0g (R.set ix ⟨p,v,c⟩)))):=by
 obtain ⟨b1,b2,b3⟩:=b0v R ix;have e1:(R.set ix ⟨p,v,c⟩).map Ps.p=(a0g R).p:=by
  rw [l1g];exact t0K (d:=(⟨#[]⟩:ByteArray)) (by rw [j1G];omega) (show (R.map Ps.p).getD ix ⟨#[]⟩=p from b1.trans h1)
 have e2:(R.set ix ⟨p,v,c⟩).map Ps.a=(a0g R).a.set ix v:=by rw [l1g];rfl
 have e3:(R.set ix ⟨p,v,c⟩).map Ps.c=(a0g R).c:=by
  rw [l1g];exact t0K (d:=(⟨#[]⟩:ByteArray)) (by rw [j1G];omega) (show (R.map Ps.c).getD ix ⟨#[]⟩=c from b3.trans h2)
 unfold psB;rw [show (a0g (R.set ix ⟨p,v,c⟩)).p=(a0g R).p from e1,show (a0g (R.set ix ⟨p,v,c⟩)).a=(a0g R).a.set ix v from e2,show (a0g (R.set ix ⟨p,v,c⟩)).c=(a0g R).c from e3];rw [c0l (by simp [a0g,hn]),c0l (by simp [a0g,hn]),c0l (by simp [a0g,hn]),z0z]
theorem i1A {R:List Ps} {n:Nat} (hn:R.length=n) {p c:ByteArray} {v:Int}:
  (some (HB.one false (.cols (0+n+1) [.sc (.strs (seg 0 n (a0g R).p++ [p])),.sc (.ints .i64 ((seg 0 n (a0g R).a++ [0]).set (0+n) v)),.sc (.strs (seg 0 n (a0g R).c++ [c]))])):Option HB)=some (.one false (psB (n+1) (a0g (R++ [⟨p,v,c⟩])))):=by
 have e2:((a0g R).a++ [0]).set n v=(a0g R).a++ [v]:=by
  rw [List.set_append_right _ _ (by simp [a0g,hn])];simp [a0g,hn]
 rw [c0l (by simp [a0g,hn]),c0l (by simp [a0g,hn]),c0l (by simp [a0g,hn]),z0z n,e2];unfold psB a0g;simp
theorem t0L (R:List Ps) (p c:ByteArray) (a s:Int) (n:Nat) (hn:R.length=n) (hl:n<=1000) (ha: -4503599627370496<=a/\a<=4503599627370496) (hs:s=1\/s= -1) (hb:∀k,-4503599627370496<=(R.getD k ps0).a/\(R.getD k ps0).a<=4503599627370496):
  FC Tryz.prog 2 143 [.sl 1 0 0 n,.str p,.agg [.int .i64 a,.str c],.int .i64 s] [(1,some (.one true (psB n (a0g R))))] (moR R p c (s*a)):=by
 have c1:=q0o R n p c (by omega) (by omega) n hn;have htk:R.take n=R:=by rw [<-hn,g1y]
 unfold ixN at c1;rw [htk] at c1;have hle:=q0n p c R;rw [hn] at hle;have hat:=m0E p c R;have hbd:=hb (ixL R p c);have hw1:IntKind.i64.wrap (s*a)=s*a:=by rcases hs with rfl|rfl<;>exact a0m (by omega) (by omega)
 have hsa: -4503599627370496<=s*a/\s*a<=4503599627370496:=by rcases hs with rfl|rfl<;>omega
 unfold moR mvR mvN;by_cases hix:ixL R p c<n
 .obtain ⟨h2,h1⟩:=hat (by omega);obtain ⟨b1,b2,b3⟩:=b0v R (ixL R p c);rw [if_pos hix] at c1;rw [o0d (by omega)];rw [<-b2] at hbd⊢;rw [j1B,hn];generalize ixL R p c=ix at*;have key:IntKind.i64.wrap ((List.replicate 0 0++seg 0 n (a0g R).a).getD ((ix:Int).toNat+0) 0+IntKind.i64.wrap (s*a))=(a0g R).a.getD ix 0+s*a:=by
   show IntKind.i64.wrap ((seg 0 n (a0g R).a).getD ix 0+IntKind.i64.wrap (s*a))=_;rw [c0l (by simp [a0g,hn]),hw1];exact a0m (by omega) (by omega)
  have hrow:=i1z hn hix (v:=IntKind.i64.wrap ((List.replicate 0 0++seg 0 n (a0g R).a).getD ((ix:Int).toNat+0) 0+IntKind.i64.wrap (s*a))) h1 h2;rw [<-key];by_cases hr: -4503599627370496<=IntKind.i64.wrap ((List.replicate 0 0++seg 0 n (a0g R).a).getD ((ix:Int).toNat+0) 0+IntKind.i64.wrap (s*a))/\IntKind.i64.wrap ((List.replicate 0 0++seg 0 n (a0g R).a).getD ((ix:Int).toNat+0) 0+IntKind.i64.wrap (s*a))<=4503599627370496
  .rw [if_pos hr,show SV.sl 2 0 0 n=SV.sl 2 0 0 (0+n) by rw [z0z]];refine fEx Tryz.func143 ?_;repeat' ((conv=>whnf);first|refine cOx (l:= [0,1]) c1 ?_|refine a0a ?_|(apply bRx<;>intro h<;>try (exfalso;(try dsimp only at h);omega)))
   all_goals (conv=>whnf)
   all_goals first
    |(exfalso;omega)
    |exact c0S (l:= [0,1,4]) rfl rfl ⟨hrow,trivial⟩ (a0d a0b)
    |trace_state
  .rw [if_neg hr];refine fEx Tryz.func143 ?_;repeat' ((conv=>whnf);first|refine cOx (l:= [0,1]) c1 ?_|refine a0a ?_|(apply bRx<;>intro h<;>try (exfalso;(try dsimp only at h);omega)))
   all_goals (conv=>whnf)
   all_goals first
    |(exfalso;omega)
    |exact rOx [0,1] a0b
    |trace_state
 .have e:ixL R p c=n:=by omega
  rw [e,if_neg (by omega)] at c1;rw [e] at hbd⊢;have h0:(R.getD n ps0).a=0:=by rw [List.getD,r0b (by omega)];rfl
  rw [h0];rw [e0M hn,a1N,hn,f1M];have key:IntKind.i64.wrap ((List.replicate 0 0++seg 0 n (a0g R).a++seg 0 1 [0]).getD (((0+n:Nat):Int).toNat+0) 0+IntKind.i64.wrap (s*a))=0+s*a:=by
   show IntKind.i64.wrap ((seg 0 n (a0g R).a++ [0]).getD (0+n) 0+IntKind.i64.wrap (s*a))=_;rw [c0l (by simp [a0g,hn]),hw1,z0z,List.getD,c1l (by simp [a0g,hn])];simp only [a0g,j1G,hn,j1k,k1e,j1A];exact a0m (by omega) (by omega)
  have hrow:=i1A (v:=IntKind.i64.wrap ((List.replicate 0 0++seg 0 n (a0g R).a++seg 0 1 [0]).getD (((0+n:Nat):Int).toNat+0) 0+IntKind.i64.wrap (s*a))) hn (p:=p) (c:=c);rw [<-key];by_cases hr: -4503599627370496<=IntKind.i64.wrap ((List.replicate 0 0++seg 0 n (a0g R).a++seg 0 1 [0]).getD (((0+n:Nat):Int).toNat+0) 0+IntKind.i64.wrap (s*a))/\IntKind.i64.wrap ((List.replicate 0 0++seg 0 n (a0g R).a++seg 0 1 [0]).getD (((0+n:Nat):Int).toNat+0) 0+IntKind.i64.wrap (s*a))<=4503599627370496
  .rw [if_pos hr,show SV.sl 2 0 0 (n+1)=SV.sl 2 0 0 (0+n+1) by rw [z0z]];refine fEx Tryz.func143 ?_;repeat' ((conv=>whnf);first|refine cOx (l:= [0,1]) c1 ?_|refine a0a ?_|(apply bRx<;>intro h<;>try (exfalso;(try dsimp only at h);omega)))
   all_goals (conv=>whnf)
   all_goals first
    |(exfalso;omega)
    |exact c0S (l:= [0,1,6]) rfl rfl ⟨hrow,trivial⟩ (a0d a0b)
    |trace_state
  .rw [if_neg hr];refine fEx Tryz.func143 ?_;repeat' ((conv=>whnf);first|refine cOx (l:= [0,1]) c1 ?_|refine a0a ?_|(apply bRx<;>intro h<;>try (exfalso;(try dsimp only at h);omega)))
   all_goals (conv=>whnf)
   all_goals first
    |(exfalso;omega)
    |exact rOx [0,1] a0b
    |trace_state
end
section
attribute [local irreducible] a0q a0r a0k a0P
def b0C (R:List Ps):List Ps:=R.filter (fun x=>decide (x.a≠0))
abbrev g0D (l:List Ps):Prop:=l.Pairwise (fun a b=>a0W a b=true)
theorem e0P (A B:List Ps):b0C (A++B)=b0C A++b0C B:=j1v _ _
theorem y0u {O:List Ps} {x:Ps} {k:Nat} (hk:k<=O.length) (ha:g0D O) (hlt:∀j,j<k->a0W (O.getD j ps0) x=true) (hge:k<O.length->a0W (O.getD k ps0) x=false) (hx:∀y∈O,¬e0b y x):g0D (O.take k++x::O.drop k):=by
 have h1:∀y∈O.take k,a0W y x=true:=by
  intro y hy;obtain ⟨j,hj,rfl⟩:=d1O hy;have hj':j<k:=by rw [d1P] at hj;omega
  have:=hlt j hj';rw [List.getD,k0n (by omega)] at this;rw [k1N];exact this
 have hd:g0D (O.drop k):=ha.sublist (l1l k O);have h2:∀y∈O.drop k,a0W x y=true:=by
  intro y hy;have hkl:k<O.length:=by
   refine k1U fun h=> ?_
   rw [l1M h] at hy;cases hy
  have hh:=hge hkl;have hxk:a0W x (O.getD k ps0)=true:=by
   refine e0L hh fun e=>hx (O.getD k ps0) ?_ e
   rw [List.getD,k0n hkl];exact g1v hkl
  rw [l1d hkl] at hy hd;rcases a1q.1 hy with rfl|hy
  .rw [List.getD,k0n hkl] at hxk;exact hxk
  .rw [List.getD,k0n hkl] at hxk;exact d0A hxk ((k1Y.1 hd).1 y hy)
 refine j1z.2 ⟨ha.sublist (l1O k O),k1Y.2 ⟨h2,hd⟩,?_⟩;intro a ha1 b hb;rcases a1q.1 hb with rfl|hb
 .exact h1 a ha1
 .exact d0A (h1 a ha1) (h2 b hb)
theorem v0m {α:Type} (O:List α) (x:α) (k:Nat):(O.take k++x::O.drop k).Perm (O++ [x]):=by
 have h1:(O.take k++x::O.drop k).Perm (x::(O.take k++O.drop k)):=List.perm_middle;rw [k1o] at h1;exact h1.trans (List.perm_append_comm (l₁:= [x]))
theorem v0n {R:List Ps} (hd:b0c R) {i:Nat} (hi:i<R.length):∀y∈R.take i,¬e0b y (R.getD i ps0):=by
 intro y hy;obtain ⟨j,hj,rfl⟩:=d1O hy;rw [d1P] at hj;rw [k1N,List.getD,k0n hi];exact g1z.1 hd j i (by omega) hi (by omega)
theorem y0v (L:List Ps) (k:Nat):(⟨(a0g L).p.getD k ⟨#[]⟩,(a0g L).a.getD k 0,(a0g L).c.getD k ⟨#[]⟩⟩:Ps)=L.getD k ps0:=by
 obtain ⟨a1,a2,a3⟩:=b0v L k;rw [a1,a2,a3]
structure SoI_n (R:List Ps) (i m:Nat) (O:List Ps):Prop where
 le:i<=R.length
 m:O.length=m
 asc:g0D O
 perm:O.Perm (b0C (R.take i))
theorem v0o {R:List Ps} {i m:Nat} {O:List Ps} (h:SoI_n R i m O) (hi:i<R.length) (hz:(R.getD i ps0).a=0):SoI_n R (i+1) m O:=by
 refine ⟨hi,h.m,h.asc,?_⟩;rw [e0N hi,e0P,show b0C [R.getD i ps0]= [] from by unfold b0C;rw [j1y,if_neg (by simpa using hz)];rfl,l1K];exact h.perm
theorem y0w {R:List Ps} {i m k:Nat} {O:List Ps} (h:SoI_n R i m O) (hd:b0c R) (hi:i<R.length) (hz:(R.getD i ps0).a≠0) (hk:k<=m) (hlt:∀j,j<k->a0W (O.getD j ps0) (R.getD i ps0)=true) (hge:k<m->a0W (O.getD k ps0) (R.getD i ps0)=false):SoI_n R (i+1) (m+1) (O.take k++R.getD i ps0::O.drop k):=by
 have hm:=h.m;refine ⟨hi,by simp;omega,y0u (by omega) h.asc hlt (fun q=>hge (by omega)) ?_,?_⟩
 .intro y hy;exact v0n hd hi y (j1j.1 (h.perm.subset hy)).1
 .rw [e0N hi,e0P,show b0C [R.getD i ps0]= [R.getD i ps0] from by unfold b0C;rw [j1y,if_pos (decide_eq_true hz)];rfl];exact (v0m O _ k).trans (h.perm.append_right _)
theorem v0p {α:Type} (l:List α) (k:Nat):seg 0 k l=l.take k:=rfl
theorem i0q {α:Type} {l:List α} {k m:Nat} (h:l.length=m):seg (k+0) (m-k) l=l.drop k:=by
 unfold seg;rw [w0G,k1j (by rw [j1C];omega)]
theorem b1C {O:List Ps} {m k:Nat} (hm:O.length=m) (hk:k<=m) {p c:ByteArray} {a:Int} {x:Ps} (hx:(⟨p,a,c⟩:Ps)=x):
  (some (HB.one false (.cols (0+k+1+(m-k)) [.sc (.strs (seg 0 k (a0g O).p++ [p]++seg (k+0) (m-k) (a0g O).p)),.sc (.ints .i64 (seg 0 k (a0g O).a++ [a]++seg (k+0) (m-k) (a0g O).a)),.sc (.strs (seg 0 k (a0g O).c++ [c]++seg (k+0) (m-k) (a0g O).c))])):Option HB)=some (.one false (psB (0+k+1+(m-k)) (a0g (O.take k++x::O.drop k)))):=by
 subst hx;rw [i0q (l:=(a0g O).p) (by simp [a0g,hm]),i0q (l:=(a0g O).a) (by simp [a0g,hm]),i0q (l:=(a0g O).c) (by simp [a0g,hm])];unfold psB a0g;simp [v0p,List.map_take,List.map_drop]
abbrev h1e (n:Nat) (R:List Ps) (x:Nat×Nat×List Ps):VS:=⟨[(0,.sl 1 0 0 n),(3,.sl 2 0 0 x.2.1),(4,.int .i64 x.1)],[(1,some (.one true (psB n (a0g R)))),(2,some (.one false (psB x.2.1 (a0g x.2.2))))],3⟩
theorem m0G (R:List Ps) (n:Nat) (hn:R.length=n) (hl:n<=1000) (hd:b0c R):FC Tryz.prog 2 95 [.sl 1 0 0 n] [(1,some (.one true (psB n (a0g R))))] (a0h (.sl 2 0 0 (b0C R).length) [(2,some (.one false (psB (b0C R).length (a0g (c0M (b0C R))))))] 3):=by
 have hnz:∀{i:Nat},i<=n->(b0C (R.take i)).length<=n:=fun {i} hi=>by
  have:=j1L (fun x:Ps=>decide (x.a≠0)) (R.take i);rw [d1P] at this;unfold b0C;omega
 refine fEx Tryz.func95 ?_;repeat' ((conv=>whnf);first|refine a0a ?_|(apply bRx<;>intro h<;>try (exfalso;(try dsimp only at h);omega)))
 all_goals (conv=>whnf)
 refine a0f (h1e n R) (fun x=>SoI_n R x.1 x.2.1 x.2.2) (fun x=>n-x.1) (0,0,[]) [0,1,2] [.slot 3 [.sc (.strs []),.sc (.ints .i64 []),.sc (.strs [])]] wHx ⟨w0F _,rfl,List.Pairwise.nil,List.Perm.refl _⟩ ?_;rintro ⟨i,m,O⟩ hI;dsimp only at hI;unfold h1e;dsimp only;have hi:=hI.le;have hmn:m<=n:=by rw [<-hI.m,hI.perm.length_eq];exact hnz (by omega)
 rw [hn] at hi;by_cases hi2:i<n
 .obtain ⟨b1,b2,b3⟩:=b0v R i;by_cases hz:(a0g R).a.getD i 0=0
  .have hs:=v0o hI (by omega) (by rw [<-b2];exact hz);repeat' ((conv=>whnf);first|refine a0a ?_|(apply bRx<;>intro h<;>try (exfalso;(try dsimp only at h);omega)))
   all_goals (conv=>whnf)
   all_goals first
    |exact ⟨(i+1,m,O),[0,1,2],[],hs,(show n-(i+1)<n-i by omega),⟨rfl,⟨rfl,rfl,congrArg (fun z=>some (SV.int .i64 z)) (a0e (by omega)),trivial⟩,⟨rfl,rfl,trivial⟩⟩⟩
    |(exfalso;first|omega|contradiction)
    |trace_state
  .repeat' ((conv=>whnf);first|refine a0a ?_|(apply bRx<;>intro h<;>try (exfalso;(try dsimp only at h);omega)))
   all_goals (conv=>whnf)
   all_goals first
    |(exfalso;first|omega|contradiction)
    |skip
   refine a0f (fun k:Nat=>⟨[(0,.sl 1 0 0 n),(3,.sl 2 0 0 m),(4,.int .i64 i),(5,.int .i64 k)],[(1,some (.one true (psB n (a0g R)))),(2,some (.one false (psB m (a0g O))))],3⟩) (fun k=>k<=m/\∀j,j<k->a0W (O.getD j ps0) (R.getD i ps0)=true) (fun k=>m-k) 0 [0,1,2] [] wHx ⟨w0F _,fun j hj=>by omega⟩ ?_;rintro k ⟨hk,hlt⟩;have c1:b0m Tryz.prog 141 [.agg [.str ((a0g O).p.getD k ⟨#[]⟩),.int .i64 ((a0g O).a.getD k 0),.str ((a0g O).c.getD k ⟨#[]⟩)],.agg [.str ((a0g R).p.getD i ⟨#[]⟩),.int .i64 ((a0g R).a.getD i 0),.str ((a0g R).c.getD i ⟨#[]⟩)]] (.bool (a0W (O.getD k ps0) (R.getD i ps0))):=by
    obtain ⟨a1,a2,a3⟩:=b0v O k;rw [a1,a2,a3,b1,b2,b3];exact b1v _ _
   have hput:=fun (hge:k<m->a0W (O.getD k ps0) (R.getD i ps0)=false)=>(show 0+k+1+(m-k)=m+1 by omega)▸y0w hI hd (by omega) (by rw [<-b2];exact hz) hk hlt hge
   have hrow:=b1C hI.m hk (y0v R i);by_cases hk2:k<m
   .have hn2:a0W (O.getD k ps0) (R.getD i ps0)=true->∀j,j<k+1->a0W (O.getD j ps0) (R.getD i ps0)=true:=fun h j hj=>by
     by_cases e:j=k
     .subst e;exact h
     .exact hlt j (by omega)
    generalize a0W (O.getD k ps0) (R.getD i ps0)=lt at*;cases lt with
    |true=>
     repeat' ((conv=>whnf);first|refine cPx c1 ?_|refine a0a ?_|(apply bRx<;>intro h<;>try (exfalso;(try dsimp only at h);omega)))
     all_goals (conv=>whnf)
     all_goals first
      |exact ⟨k+1,[0,1,2],[],⟨hk2,hn2 rfl⟩,(show m-(k+1)<m-k by omega),⟨rfl,⟨rfl,rfl,rfl,congrArg (fun z=>some (SV.int .i64 z)) (a0e (by omega)),trivial⟩,⟨rfl,rfl,trivial⟩⟩⟩
      |(exfalso;first|omega|contradiction)
      |trace_state
    |false=>
     repeat' ((conv=>whnf);first|refine cPx c1 ?_|refine a0a ?_|(apply bRx<;>intro h<;>try (exfalso;(try dsimp only at h);omega)))
     all_goals (conv=>whnf)
     all_goals first
      |(exfalso;first|omega|contradiction)
      |exact ⟨(i+1,0+k+1+(m-k),O.take k++R.getD i ps0::O.drop k),[0,1,7],[],hput (fun _=>rfl),(show n-(i+1)<n-i by omega),⟨rfl,⟨rfl,rfl,congrArg (fun z=>some (SV.int .i64 z)) (a0e (by omega)),trivial⟩,⟨rfl,hrow,trivial⟩⟩⟩
      |trace_state
   .repeat' ((conv=>whnf);first|refine cPx c1 ?_|refine a0a ?_|(apply bRx<;>intro h<;>try (exfalso;(try dsimp only at h);omega)))
    all_goals (conv=>whnf)
    all_goals first
     |(exfalso;first|omega|contradiction)
     |exact ⟨(i+1,0+k+1+(m-k),O.take k++R.getD i ps0::O.drop k),[0,1,7],[],hput (fun h=>absurd h hk2),(show n-(i+1)<n-i by omega),⟨rfl,⟨rfl,rfl,congrArg (fun z=>some (SV.int .i64 z)) (a0e (by omega)),trivial⟩,⟨rfl,hrow,trivial⟩⟩⟩
     |trace_state
 .have e:i=n:=by omega
  subst e;have e1:c0M (b0C R)=O:=j0r (by have:=hI.perm;rwa [<-hn,g1y] at this) hI.asc;have e2:(b0C R).length=m:=by have:=hI.perm.length_eq;rw [<-hn,g1y] at this;rw [<-this];exact hI.m
  rw [e1,e2];repeat' ((conv=>whnf);first|refine a0a ?_|(apply bRx<;>intro h<;>try (exfalso;(try dsimp only at h);omega)))
  all_goals (conv=>whnf)
  all_goals first
   |exact rOx [0,1,2] (a0d a0b)
   |(exfalso;omega)
   |trace_state
end
section
structure Tx where
 f:ByteArray
 t:ByteArray
 a:Int
 c:ByteArray
structure Tc where
 f:List ByteArray
 t:List ByteArray
 a:List Int
 c:List ByteArray
def b0l (l:List Tx):Tc:=⟨l.map Tx.f,l.map Tx.t,l.map Tx.a,l.map Tx.c⟩
abbrev tx0:Tx:=⟨⟨#[]⟩,⟨#[]⟩,0,⟨#[]⟩⟩
instance:Inhabited Tx:=⟨tx0⟩
def txB (n:Nat) (r:Tc):Blk:= .cols n [.sc (.strs r.f),.sc (.strs r.t),.sc (.ints .i64 r.a),.sc (.strs r.c)]
theorem atT (L:List Tx) (j:Nat):(b0l L).f.getD j ⟨#[]⟩=(L.getD j tx0).f/\(b0l L).t.getD j ⟨#[]⟩=(L.getD j tx0).t/\(b0l L).a.getD j 0=(L.getD j tx0).a/\(b0l L).c.getD j ⟨#[]⟩=(L.getD j tx0).c:=by
 unfold b0l;simp only [List.getD,a1u];cases L[j]?<;>exact ⟨rfl,rfl,rfl,rfl⟩
abbrev inT (n:Int):Prop:= -4503599627370496<=n/\n<=4503599627370496
def apE (R:List Ps) (x:Tx):Int:=
 if b0f x.f=false\/b0f x.t=false then 5
 else if b0O x.a x.c≠0 then b0O x.a x.c
 else if¬inT (mvN R x.f x.c x.a) then 4
 else if¬inT (mvN (mvR R x.f x.c x.a) x.t x.c (-x.a)) then 4 else 0
def apN (R:List Ps) (x:Tx):List Ps:=mvR (mvR R x.f x.c x.a) x.t x.c (-x.a)
def apK (L:List Ps) (T:List Tx):Nat->Int×List Ps
 |0=>(0,L)
 |k+1=>if (apK L T k).1≠0 then apK L T k else (apE (apK L T k).2 (T.getD k tx0),apN (apK L T k).2 (T.getD k tx0))
theorem t0M {L:List Ps} {T:List Tx} {k:Nat} (h0:(apK L T k).1=0) (h1:apE (apK L T k).2 (T.getD k tx0)≠0):∀n,k<n->(apK L T n).1=apE (apK L T k).2 (T.getD k tx0)
 |0,hh=>by omega
 |n+1,hh=>by
  simp only [apK];by_cases e:k=n
  .subst e;rw [if_neg (by omega)]
  .have ih:=t0M h0 h1 n (by omega);rw [if_pos (by omega)];exact ih
theorem o0e {L:List Ps} {T:List Tx} {k:Nat} (h0:(apK L T k).1=0):apK L T (k+1)=(apE (apK L T k).2 (T.getD k tx0),apN (apK L T k).2 (T.getD k tx0)):=by
 simp only [apK];rw [if_neg (by omega)]
theorem t0N {L:List Ps} {T:List Tx}:∀{n:Nat},(apK L T n).1=0->∀k,k<=n->(apK L T k).1=0
 |0,h,k,hk=>by have:k=0:=by omega
               subst this;exact h
 |n+1,h,k,hk=>by
  have hn:(apK L T n).1=0:=by
   refine Classical.byContradiction fun e=> ?_
   simp only [apK] at h;rw [if_pos e] at h;exact e h
  by_cases e:k=n+1
  .subst e;exact h
  .exact t0N hn k (by omega)
theorem b1D {R:List Ps} {x:Tx} (h:apE R x=0):b0f x.f=true/\b0f x.t=true/\b0O x.a x.c=0/\inT (mvN R x.f x.c x.a)/\inT (mvN (mvR R x.f x.c x.a) x.t x.c (-x.a)):=by
 unfold apE at h;by_cases h1:b0f x.f=false\/b0f x.t=false
 .rw [if_pos h1] at h;omega
 rw [if_neg h1] at h;by_cases h2:b0O x.a x.c≠0
 .rw [if_pos h2] at h;exact absurd h h2
 rw [if_neg h2] at h;by_cases h3:inT (mvN R x.f x.c x.a)
 .rw [if_neg (fun q=>q h3)] at h;by_cases h4:inT (mvN (mvR R x.f x.c x.a) x.t x.c (-x.a))
  .simp only [not_or,Bool.not_eq_false] at h1;exact ⟨h1.1,h1.2,j1Q.1 h2,h3,h4⟩
  .rw [if_pos h4] at h;omega
 .rw [if_pos h3] at h;omega
structure RwOk (R:List Ps):Prop where
 dist:b0c R
 bd:∀k,inT (R.getD k ps0).a
theorem a0K {R:List Ps} {x:Ps}:x∈R↔∃j,j<R.length/\R.getD j ps0=x:=by
 constructor
 .intro h;obtain ⟨j,hj,rfl⟩:=d1O h;exact ⟨j,hj,by rw [List.getD,k0n hj];rfl⟩
 .rintro ⟨j,hj,rfl⟩;rw [List.getD,k0n hj];exact g1v hj
theorem t0O {R:List Ps}:(∀k,inT (R.getD k ps0).a)↔∀x∈R,inT x.a:=by
 constructor
 .intro h x hx;obtain ⟨j,_,rfl⟩:=a0K.1 hx;exact h j
 .intro h k;by_cases hk:k<R.length
  .exact h _ (a0K.2 ⟨k,hk,rfl⟩)
  .rw [List.getD,r0b (by omega)];exact ⟨by decide,by decide⟩
theorem b0y {R:List Ps} (hd:b0c R) {i j:Nat} (hi:i<R.length) (hj:j<R.length) (h:e0b (R.getD i ps0) (R.getD j ps0)):i=j:=by
 rw [List.getD,k0n hi,List.getD,k0n hj] at h;rcases j1P i j with e|e|e
 .exact absurd h (g1z.1 hd i j hi hj e)
 .exact e
 .exact absurd (c0L h) (g1z.1 hd j i hj hi e)
theorem r0U {R:List Ps} (h:∀i j,i<R.length->j<i->¬e0b (R.getD j ps0) (R.getD i ps0)):b0c R:=by
 refine g1z.2 fun i j hi hj hij=> ?_
 have:=h j i hj hij
 rwa [List.getD,k0n hi,List.getD,k0n hj] at this
theorem e1Y {R:List Ps} (hd:b0c R) {i:Nat} (hi:i<R.length):ixL R (R.getD i ps0).p (R.getD i ps0).c=i:=by
 have h1:ixL R (R.getD i ps0).p (R.getD i ps0).c<R.length:=(f0T _ _ _).2 ⟨_,a0K.2 ⟨i,hi,rfl⟩,rfl,rfl⟩;have h2:=m0E _ _ _ h1;exact b0y hd h1 hi ⟨h2.2,h2.1⟩
theorem h0H {L:List Ps} (h:sgP L=0):b0c L:=by
 refine r0U fun i j hi hj e=> ?_
 have h1:=(o0a ((h0G h).2 i hi)).2.2;refine h1 ?_;have hl:(L.take i).length=i:=by rw [d1P];omega
 rw [<-e.1,<-e.2];have:=(f0T (L.getD j ps0).p (L.getD j ps0).c (L.take i)).2 ⟨L.getD j ps0,a0K.2 ⟨j,by omega,by simp [List.getD,j1U,hj]⟩,rfl,rfl⟩;omega
theorem c1R {L:List Ps} (h:sgP L=0):RwOk L:=⟨h0H h,fun k=>by
 by_cases hk:k<L.length
 .exact y0r h k hk
 .rw [List.getD,r0b (by omega)];exact ⟨by decide,by decide⟩⟩
theorem o0f {α:Type} (i:Nat) (x:α) (l:List α):(a0Z i x l).length=if i<l.length then l.length else l.length+1:=by
 unfold a0Z;split<;>simp
theorem y0x {R:List Ps} (h:RwOk R) (p c:ByteArray) {d:Int} (hd:inT (mvN R p c d)):RwOk (mvR R p c d):=by
 have hle:=q0n p c R;refine ⟨?_,t0O.2 ?_⟩
 .unfold mvR;by_cases hi:ixL R p c<R.length
  .rw [o0d hi];have hat:=m0E p c R hi;refine r0U fun i j hi2 hj e=> ?_
   rw [j1B] at hi2;have g:∀k,k<R.length->e0b ((R.set (ixL R p c) ⟨p,mvN R p c d,c⟩).getD k ps0) (R.getD k ps0):=by
    intro k hk;rw [List.getD,j1H];by_cases e2:ixL R p c=k
    .rw [if_pos e2,if_pos hi,<-e2];exact ⟨hat.2.symm,hat.1.symm⟩
    .rw [if_neg e2];exact ⟨rfl,rfl⟩
   have g1:=g i hi2;have g2:=g j (by omega);have:i=j:=b0y h.dist hi2 (by omega) ⟨g1.1.symm.trans (e.1.symm.trans g2.1),g1.2.symm.trans (e.2.symm.trans g2.2)⟩;omega
  .rw [e0M (show R.length=ixL R p c by omega)];refine j1z.2 ⟨h.dist,k1f _ _,?_⟩;intro a ha b hb e;rw [a1A] at hb;subst hb;exact hi ((f0T p c R).2 ⟨a,ha,e.2,e.1⟩)
 .intro x hx;have hbd:=t0O.1 h.bd;unfold mvR a0Z at hx;split at hx
  .rcases List.mem_or_eq_of_mem_set hx with hx|rfl
   .exact hbd x hx
   .exact hd
  .rcases g1h.1 hx with hx|hx
   .exact hbd x hx
   .rw [a1A] at hx;subst hx;exact hd
theorem r0V (R:List Ps) (p c:ByteArray) (d:Int):(mvR R p c d).length=if ixL R p c<R.length then R.length else R.length+1:=o0f _ _ _
theorem h1f {R:List Ps} {x:Tx} (h:RwOk R) (he:apE R x=0):RwOk (apN R x):=by
 obtain ⟨_,_,_,h1,h2⟩:=b1D he;exact y0x (y0x h _ _ h1) _ _ h2
theorem e1Z (R:List Ps) (x:Tx):(apN R x).length<=R.length+2:=by
 unfold apN;rw [r0V,r0V];split<;>split<;>omega
theorem c1S {L:List Ps} {T:List Tx} (hL:RwOk L):∀{k:Nat},(apK L T k).1=0->RwOk (apK L T k).2/\(apK L T k).2.length<=L.length+2*k
 |0,_=>⟨hL,by simp [apK]⟩
 |k+1,h=>by
  have h0:=t0N h k (by omega);obtain ⟨i1,i2⟩:=c1S hL h0;rw [o0e h0] at h⊢;have:=e1Z (apK L T k).2 (T.getD k tx0);exact ⟨h1f i1 h,by dsimp only;omega⟩
def i0X (L:List Ps) (T:List Tx):Int:=if sgP L≠0 then sgP L else (apK L T T.length).1
def r0W (L:List Ps) (T:List Tx):List Ps:=if i0X L T≠0 then [] else c0M (b0C (apK L T T.length).2)
end
section
attribute [local irreducible] a0q a0r a0k a0P
def SmT (T:List Tx):Prop:=∀k,(T.getD k tx0).f.size<=100000/\(T.getD k tx0).t.size<=100000
theorem f1a (L:List Tx) (k:Nat):(⟨(b0l L).f.getD k ⟨#[]⟩,(b0l L).t.getD k ⟨#[]⟩,(b0l L).a.getD k 0,(b0l L).c.getD k ⟨#[]⟩⟩:Tx)=L.getD k tx0:=by
 obtain ⟨a1,a2,a3,a4⟩:=atT L k;rw [a1,a2,a3,a4]
theorem h1g {L:List Ps} {n:Nat} (hn:L.length=n):(some (HB.one false (.cols (0+n) [.sc (.strs (seg 0 n (a0g L).p)),.sc (.ints .i64 (seg 0 n (a0g L).a)),.sc (.strs (seg 0 n (a0g L).c))])):Option HB)=some (.one false (psB (0+n) (a0g L))):=by
 rw [c0l (by simp [a0g,hn]),c0l (by simp [a0g,hn]),c0l (by simp [a0g,hn])];rfl
theorem h1h (R:List Ps) (f t:ByteArray) (a:Int) (c:ByteArray):apE R ⟨f,t,a,c⟩=if b0f f=false\/b0f t=false then 5
 else if b0O a c≠0 then b0O a c
 else if¬inT (mvN R f c a) then 4
 else if¬inT (mvN (mvR R f c a) t c (-a)) then 4 else 0:=rfl
abbrev f1b (L:List Ps) (T:List Tx):SV->a0j->Nat->Prop:=
 if i0X L T≠0 then a0h (.tup [.nsl,.int .i64 (i0X L T)]) [] 3 else a0h (.tup [.sl 3 0 0 (r0W L T).length,.int .i64 0]) [(3,some (.one false (psB (r0W L T).length (a0g (r0W L T)))))] 4
abbrev raS (n m:Nat) (L:List Ps) (T:List Tx) (x:Nat×Nat×List Ps):VS:=⟨[(0,.sl 1 0 0 n),(1,.sl 2 0 0 m),(7,.sl 3 0 0 x.2.1),(8,.int .i64 x.1)],[(1,some (.one true (psB n (a0g L)))),(2,some (.one true (txB m (b0l T)))),(3,some (.one false (psB x.2.1 (a0g x.2.2))))],4⟩
theorem y0y (L:List Ps) (T:List Tx) (n m:Nat) (hn:L.length=n) (hm:T.length=m) (hl:n<=400) (hl2:m<=200) (hs:SmP L) (ht:SmT T):FC Tryz.prog 3 97 [.sl 1 0 0 n,.sl 2 0 0 m] [(1,some (.one true (psB n (a0g L)))),(2,some (.one true (txB m (b0l T))))] (f1b L T):=by
 have c1:=m0F L n hn (by omega) hs;unfold f1b;by_cases hsg:sgP L≠0
 .have he:i0X L T=sgP L:=by unfold i0X;rw [if_pos hsg]
  rw [if_pos (by rw [he];exact hsg),he];generalize sgP L=sg at*;refine fEx Tryz.func97 ?_;repeat' ((conv=>whnf);first|refine cOx (l:= [0,1]) c1 ?_|refine a0a ?_|(apply bRx<;>intro h<;>try (exfalso;(try dsimp only at h);omega)))
  all_goals (conv=>whnf)
  all_goals first
   |exact rOx [0,1,2] a0b
   |(exfalso;omega)
   |trace_state
 have hz:=j1Q.1 hsg;have hL:=c1R hz;have he:i0X L T=(apK L T m).1:=by unfold i0X;rw [if_neg hsg,hm]
 rw [hz] at c1;refine fEx Tryz.func97 ?_;repeat' ((conv=>whnf);first|refine cOx (l:= [0,1]) c1 ?_|refine a0a ?_|(apply bRx<;>intro h<;>try (exfalso;(try dsimp only at h);omega)))
 all_goals (conv=>whnf)
 refine a0f (raS n m L T) (fun x=>x.1<=m/\apK L T x.1=(0,x.2.2)/\x.2.2.length=x.2.1) (fun x=>m-x.1) (0,0+n,L) [0,1,2,4] [] ⟨rfl,⟨rfl,rfl,rfl,rfl,trivial⟩,⟨rfl,rfl,h1g hn,trivial⟩⟩ ⟨w0F _,rfl,by simp [hn]⟩ ?_;rintro ⟨k,r,R⟩ ⟨hk,hK,hr⟩;dsimp only at hk hK hr;unfold raS;dsimp only;have hK1:(apK L T k).1=0:=by rw [hK]
 obtain ⟨hR,hRl⟩:=c1S hL hK1;have hst:=o0e hK1;have hsp:=t0M hK1;rw [hK] at hR hRl hst hsp;dsimp only at hR hRl hst hsp;by_cases hk2:k<m
 .have hsz:=ht k;rw [<-f1a T k] at hst hsp hsz;dsimp only at hsz;have d1:=i0p ((b0l T).f.getD k ⟨#[]⟩) hsz.1;have d2:=i0p ((b0l T).t.getD k ⟨#[]⟩) hsz.2;have d3:=c0v ((b0l T).a.getD k 0) ((b0l T).c.getD k ⟨#[]⟩);have hE:=h1h R ((b0l T).f.getD k ⟨#[]⟩) ((b0l T).t.getD k ⟨#[]⟩) ((b0l T).a.getD k 0) ((b0l T).c.getD k ⟨#[]⟩);generalize hxe:apE R ⟨(b0l T).f.getD k ⟨#[]⟩,(b0l T).t.getD k ⟨#[]⟩,(b0l T).a.getD k 0,(b0l T).c.getD k ⟨#[]⟩⟩=e at*;have hout:e≠0->i0X L T=e:=fun h=>by rw [he];exact hsp h m hk2
  by_cases hnf:b0f ((b0l T).f.getD k ⟨#[]⟩)=false\/b0f ((b0l T).t.getD k ⟨#[]⟩)=false
  .rw [if_pos hnf] at hE;rw [hout (by omega),hE,if_pos (by decide)];generalize b0f ((b0l T).f.getD k ⟨#[]⟩)=nf at*;generalize b0f ((b0l T).t.getD k ⟨#[]⟩)=nt at*;cases nf<;>cases nt;all_goals try (exfalso;simp at hnf;done)
   all_goals repeat' ((conv=>whnf);first|refine cPx d1 ?_|refine cPx d2 ?_|refine cPx d3 ?_|refine a0a ?_|(apply bRx<;>intro h<;>try (exfalso;(try dsimp only at h);omega)))
   all_goals (conv=>whnf)
   all_goals first
    |exact rOx [0,1,2] a0b
    |(exfalso;omega)
    |trace_state
  rw [if_neg hnf] at hE;simp only [not_or,Bool.not_eq_false] at hnf;rw [hnf.1] at d1;rw [hnf.2] at d2;by_cases hmc:b0O ((b0l T).a.getD k 0) ((b0l T).c.getD k ⟨#[]⟩)≠0
  .rw [if_pos hmc] at hE;rw [hout (by omega),hE,if_pos hmc];generalize b0O ((b0l T).a.getD k 0) ((b0l T).c.getD k ⟨#[]⟩)=mc at*;repeat' ((conv=>whnf);first|refine cPx d1 ?_|refine cPx d2 ?_|refine cPx d3 ?_|refine a0a ?_|(apply bRx<;>intro h<;>try (exfalso;(try dsimp only at h);omega)))
   all_goals (conv=>whnf)
   all_goals first
    |exact rOx [0,1,2] a0b
    |(exfalso;omega)
    |trace_state
  rw [if_neg hmc] at hE;have hab:=(e0O (j1Q.1 hmc)).2;rw [j1Q.1 hmc] at d3;have c4:=t0L R ((b0l T).f.getD k ⟨#[]⟩) ((b0l T).c.getD k ⟨#[]⟩) ((b0l T).a.getD k 0) 1 r hr (by omega) hab (.inl rfl) hR.bd;unfold moR at c4;rw [Int.one_mul] at c4;by_cases h1:inT (mvN R ((b0l T).f.getD k ⟨#[]⟩) ((b0l T).c.getD k ⟨#[]⟩) ((b0l T).a.getD k 0))
  .rw [if_pos h1] at c4;rw [if_neg (fun q=>q h1)] at hE;have hR1:=y0x hR ((b0l T).f.getD k ⟨#[]⟩) ((b0l T).c.getD k ⟨#[]⟩) h1;have hl1:=r0V R ((b0l T).f.getD k ⟨#[]⟩) ((b0l T).c.getD k ⟨#[]⟩) ((b0l T).a.getD k 0);have c5:=t0L (mvR R ((b0l T).f.getD k ⟨#[]⟩) ((b0l T).c.getD k ⟨#[]⟩) ((b0l T).a.getD k 0)) ((b0l T).t.getD k ⟨#[]⟩) ((b0l T).c.getD k ⟨#[]⟩) ((b0l T).a.getD k 0) (-1) _ rfl (by rw [hl1];split<;>omega) hab (.inr rfl) hR1.bd;unfold moR at c5;rw [show-1*(b0l T).a.getD k 0= -(b0l T).a.getD k 0 by omega] at c5;generalize hA:mvR R ((b0l T).f.getD k ⟨#[]⟩) ((b0l T).c.getD k ⟨#[]⟩) ((b0l T).a.getD k 0)=A at*;by_cases h2:inT (mvN A ((b0l T).t.getD k ⟨#[]⟩) ((b0l T).c.getD k ⟨#[]⟩) (-(b0l T).a.getD k 0))
   .rw [if_pos h2] at c5;rw [if_neg (fun q=>q h2)] at hE;have hnx:apK L T (k+1)=(0,mvR A ((b0l T).t.getD k ⟨#[]⟩) ((b0l T).c.getD k ⟨#[]⟩) (-(b0l T).a.getD k 0)):=by rw [hst,hE];unfold apN;dsimp only;rw [hA]
    generalize mvR A ((b0l T).t.getD k ⟨#[]⟩) ((b0l T).c.getD k ⟨#[]⟩) (-(b0l T).a.getD k 0)=B at*;repeat' ((conv=>whnf);first|refine cPx d1 ?_|refine cPx d2 ?_|refine cPx d3 ?_|refine cOx (l:= [0,3]) c4 ?_|refine cOx (l:= [0,4]) c5 ?_|refine a0a ?_|(apply bRx<;>intro h<;>try (exfalso;(try dsimp only at h);omega)))
    all_goals (conv=>whnf)
    all_goals first
     |exact ⟨(k+1,B.length,B),[0,1,2,5],[],⟨hk2,hnx,rfl⟩,(show m-(k+1)<m-k by omega),⟨rfl,⟨rfl,rfl,rfl,congrArg (fun z=>some (SV.int .i64 z)) (a0e (by omega)),trivial⟩,⟨rfl,rfl,rfl,trivial⟩⟩⟩
     |(exfalso;omega)
     |trace_state
   .rw [if_neg h2] at c5;rw [if_pos h2] at hE;rw [hout (by omega),hE,if_pos (by decide)];repeat' ((conv=>whnf);first|refine cPx d1 ?_|refine cPx d2 ?_|refine cPx d3 ?_|refine cOx (l:= [0,3]) c4 ?_|refine cOx (l:= [0,4]) c5 ?_|refine a0a ?_|(apply bRx<;>intro h<;>try (exfalso;(try dsimp only at h);omega)))
    all_goals (conv=>whnf)
    all_goals first
     |exact rOx [0,1,2] a0b
     |(exfalso;omega)
     |trace_state
  .rw [if_neg h1] at c4;rw [if_pos h1] at hE;rw [hout (by omega),hE,if_pos (by decide)];repeat' ((conv=>whnf);first|refine cPx d1 ?_|refine cPx d2 ?_|refine cPx d3 ?_|refine cOx (l:= [0,3]) c4 ?_|refine a0a ?_|(apply bRx<;>intro h<;>try (exfalso;(try dsimp only at h);omega)))
   all_goals (conv=>whnf)
   all_goals first
    |exact rOx [0,1,2] a0b
    |(exfalso;omega)
    |trace_state
 .have e:k=m:=by omega
  subst e;have he0:i0X L T=0:=he.trans hK1;have hres:r0W L T=c0M (b0C R):=by unfold r0W;rw [if_neg (by omega),hm,hK]
  have hlen:(c0M (b0C R)).length=(b0C R).length:=(b0b _).length_eq;have c6:=m0G R r hr (by omega) hR.dist;rw [if_neg (by omega),hres,hlen];repeat' ((conv=>whnf);first|refine cOx (l:= [0,3]) c6 ?_|refine a0a ?_|(apply bRx<;>intro h<;>try (exfalso;(try dsimp only at h);omega)))
  all_goals (conv=>whnf)
  all_goals first
   |exact rOx [0,1,2,4] (a0d a0b)
   |(exfalso;omega)
   |trace_state
end
section
attribute [local irreducible] a0q a0r a0k a0P
theorem y0z (R:List Ps):(b0C R).length<=R.length:=j1L _ _
theorem t0P (k:Nat):(k:Int).toNat+0=k:=rfl
end
section
attribute [local irreducible] a0q a0r a0k a0P
end
section
attribute [local irreducible] a0q a0r a0k a0P
end
section
attribute [local irreducible] a0q a0r a0k a0P
def h1i (L:List Ps) (T:List Tx):Prop:=(L.length<=40/\T.length<=60)/\(∀j,j<L.length->(L.getD j ps0).p.size<=100/\(L.getD j ps0).c.size<=100)/\∀j,j<T.length->(T.getD j tx0).f.size<=100/\(T.getD j tx0).t.size<=100/\(T.getD j tx0).c.size<=100
instance (L:List Ps) (T:List Tx):Decidable (h1i L T):=by unfold h1i;exact inferInstance
end
section
attribute [local irreducible] a0q a0r a0k a0P
def dK (V:List Int) (o:Nat):Nat->Option Nat
 |0=>none
 |k+1=>match dK V o k with
  |none=>if V.getD (k+o) 0<0 then some k else none
  |some d=>if V.getD (k+o) 0<0/\V.getD (k+o) 0<V.getD (d+o) 0 then some k else some d
def eK (V:List Int) (o:Nat):Nat->Option Nat
 |0=>none
 |k+1=>match eK V o k with
  |none=>if 0<V.getD (k+o) 0 then some k else none
  |some d=>if 0<V.getD (k+o) 0/\V.getD (d+o) 0<V.getD (k+o) 0 then some k else some d
def oI:Option Nat->Int
 |none=> -1
 |some d=>d
theorem b1E (V:List Int) (o:Nat):∀(k d:Nat),dK V o k=some d->d<k
 |0,d,h=>by cases h
 |k+1,d,h=>by
  simp only [dK] at h;split at h
  .split at h
   .cases h;omega
   .cases h
  .rename_i d' hd;have:=b1E V o k d' hd;split at h<;>(cases h;omega)
theorem b1F (V:List Int) (o:Nat):∀(k d:Nat),eK V o k=some d->d<k
 |0,d,h=>by cases h
 |k+1,d,h=>by
  simp only [eK] at h;split at h
  .split at h
   .cases h;omega
   .cases h
  .rename_i d' hd;have:=b1F V o k d' hd;split at h<;>(cases h;omega)
theorem e0s (k o:Nat):(k:Int).toNat+o=k+o:=rfl
theorem q0p (A:List Ps) (N o n:Nat) (hN:A.length=N) (ho:o+n<=N) (hl:N<=100000):FC Tryz.prog 2 85 [.sl 1 0 o n] [(1,some (.one true (psB N (a0g A))))] (a0h (.tup [.int .i64 (oI (dK (a0g A).a o n)),.int .i64 (oI (eK (a0g A).a o n))]) [] 2):=by
 generalize a0g A=pc;refine fEx Tryz.func85 ?_;repeat' ((conv=>whnf);first|refine a0a ?_|(apply bRx<;>intro h<;>try (exfalso;(try dsimp only at h);omega)))
 all_goals (conv=>whnf)
 refine a0f (fun k:Nat=>⟨[(0,.sl 1 0 o n),(7,.sl 1 0 o n),(8,.int .i64 n),(9,.int .i64 k),(2,.int .i64 (oI (dK pc.a o k))),(3,.int .i64 (oI (eK pc.a o k)))],[(1,some (.one true (psB N pc)))],2⟩) (fun k=>k<=n) (fun k=>n-k) 0 [0,1] [] wHx (w0F _) ?_;intro k hk;by_cases hk2:k<n
 .have hd:=b1E pc.a o k;have he:=b1F pc.a o k;have hd1:dK pc.a o (k+1)=match dK pc.a o k with
   |none=>if pc.a.getD (k+o) 0<0 then some k else none
   |some d=>if pc.a.getD (k+o) 0<0/\pc.a.getD (k+o) 0<pc.a.getD (d+o) 0 then some k else some d:=rfl
  have he1:eK pc.a o (k+1)=match eK pc.a o k with
   |none=>if 0<pc.a.getD (k+o) 0 then some k else none
   |some d=>if 0<pc.a.getD (k+o) 0/\pc.a.getD (d+o) 0<pc.a.getD (k+o) 0 then some k else some d:=rfl
  cases hD:dK pc.a o k with
  |none=>
   rw [hD] at hd1;dsimp only at hd1;cases hE:eK pc.a o k with
   |none=>
    rw [hE] at he1;dsimp only at he1;by_cases cd:pc.a.getD (k+o) 0<0
    .have hdv:oI (dK pc.a o (k+1))=(k:Int):=by rw [hd1,if_pos cd];rfl
     by_cases ce:0<pc.a.getD (k+o) 0
     .have hev:oI (eK pc.a o (k+1))=(k:Int):=by rw [he1,if_pos ce];rfl
      exfalso;omega
     .have hev:oI (eK pc.a o (k+1))= -1:=by rw [he1,if_neg ce];rfl
      unfold oI at hdv hev⊢;repeat' ((conv=>whnf);first|refine a0a ?_|(apply bRx<;>intro h<;>try (exfalso;(try dsimp only at h);omega)))
      all_goals (conv=>whnf)
      all_goals (try simp only [e0s] at*)
      all_goals first
       |(exfalso;omega)
       |exact ⟨k+1,[0,1],[],hk2,(show n-(k+1)<n-k by omega),⟨rfl,⟨rfl,rfl,rfl,congrArg (fun z=>some (SV.int .i64 z)) (a0e (by omega)),congrArg (fun z=>some (SV.int .i64 z)) hdv.symm,congrArg (fun z=>some (SV.int .i64 z)) hev.symm,trivial⟩,⟨rfl,trivial⟩⟩⟩
       |trace_state
    .have hdv:oI (dK pc.a o (k+1))= -1:=by rw [hd1,if_neg cd];rfl
     by_cases ce:0<pc.a.getD (k+o) 0
     .have hev:oI (eK pc.a o (k+1))=(k:Int):=by rw [he1,if_pos ce];rfl
      unfold oI at hdv hev⊢;repeat' ((conv=>whnf);first|refine a0a ?_|(apply bRx<;>intro h<;>try (exfalso;(try dsimp only at h);omega)))
      all_goals (conv=>whnf)
      all_goals (try simp only [e0s] at*)
      all_goals first
       |(exfalso;omega)
       |exact ⟨k+1,[0,1],[],hk2,(show n-(k+1)<n-k by omega),⟨rfl,⟨rfl,rfl,rfl,congrArg (fun z=>some (SV.int .i64 z)) (a0e (by omega)),congrArg (fun z=>some (SV.int .i64 z)) hdv.symm,congrArg (fun z=>some (SV.int .i64 z)) hev.symm,trivial⟩,⟨rfl,trivial⟩⟩⟩
       |trace_state
     .have hev:oI (eK pc.a o (k+1))= -1:=by rw [he1,if_neg ce];rfl
      unfold oI at hdv hev⊢;repeat' ((conv=>whnf);first|refine a0a ?_|(apply bRx<;>intro h<;>try (exfalso;(try dsimp only at h);omega)))
      all_goals (conv=>whnf)
      all_goals (try simp only [e0s] at*)
      all_goals first
       |(exfalso;omega)
       |exact ⟨k+1,[0,1],[],hk2,(show n-(k+1)<n-k by omega),⟨rfl,⟨rfl,rfl,rfl,congrArg (fun z=>some (SV.int .i64 z)) (a0e (by omega)),congrArg (fun z=>some (SV.int .i64 z)) hdv.symm,congrArg (fun z=>some (SV.int .i64 z)) hev.symm,trivial⟩,⟨rfl,trivial⟩⟩⟩
       |trace_state
   |some e=>
    rw [hE] at he1;have hel:=he e hE;dsimp only at he1;by_cases cd:pc.a.getD (k+o) 0<0
    .have hdv:oI (dK pc.a o (k+1))=(k:Int):=by rw [hd1,if_pos cd];rfl
     by_cases ce:0<pc.a.getD (k+o) 0/\pc.a.getD (e+o) 0<pc.a.getD (k+o) 0
     .have hev:oI (eK pc.a o (k+1))=(k:Int):=by rw [he1,if_pos ce];rfl
      exfalso;omega
     .have hev:oI (eK pc.a o (k+1))=(e:Int):=by rw [he1,if_neg ce];rfl
      unfold oI at hdv hev⊢;repeat' ((conv=>whnf);first|refine a0a ?_|(apply bRx<;>intro h<;>try (exfalso;(try dsimp only at h);omega)))
      all_goals (conv=>whnf)
      all_goals (try simp only [e0s] at*)
      all_goals first
       |(exfalso;omega)
       |exact ⟨k+1,[0,1],[],hk2,(show n-(k+1)<n-k by omega),⟨rfl,⟨rfl,rfl,rfl,congrArg (fun z=>some (SV.int .i64 z)) (a0e (by omega)),congrArg (fun z=>some (SV.int .i64 z)) hdv.symm,congrArg (fun z=>some (SV.int .i64 z)) hev.symm,trivial⟩,⟨rfl,trivial⟩⟩⟩
       |trace_state
    .have hdv:oI (dK pc.a o (k+1))= -1:=by rw [hd1,if_neg cd];rfl
     by_cases ce:0<pc.a.getD (k+o) 0/\pc.a.getD (e+o) 0<pc.a.getD (k+o) 0
     .have hev:oI (eK pc.a o (k+1))=(k:Int):=by rw [he1,if_pos ce];rfl
      unfold oI at hdv hev⊢;repeat' ((conv=>whnf);first|refine a0a ?_|(apply bRx<;>intro h<;>try (exfalso;(try dsimp only at h);omega)))
      all_goals (conv=>whnf)
      all_goals (try simp only [e0s] at*)
      all_goals first
       |(exfalso;omega)
       |exact ⟨k+1,[0,1],[],hk2,(show n-(k+1)<n-k by omega),⟨rfl,⟨rfl,rfl,rfl,congrArg (fun z=>some (SV.int .i64 z)) (a0e (by omega)),congrArg (fun z=>some (SV.int .i64 z)) hdv.symm,congrArg (fun z=>some (SV.int .i64 z)) hev.symm,trivial⟩,⟨rfl,trivial⟩⟩⟩
       |trace_state
     .have hev:oI (eK pc.a o (k+1))=(e:Int):=by rw [he1,if_neg ce];rfl
      unfold oI at hdv hev⊢;repeat' ((conv=>whnf);first|refine a0a ?_|(apply bRx<;>intro h<;>try (exfalso;(try dsimp only at h);omega)))
      all_goals (conv=>whnf)
      all_goals (try simp only [e0s] at*)
      all_goals first
       |(exfalso;omega)
       |exact ⟨k+1,[0,1],[],hk2,(show n-(k+1)<n-k by omega),⟨rfl,⟨rfl,rfl,rfl,congrArg (fun z=>some (SV.int .i64 z)) (a0e (by omega)),congrArg (fun z=>some (SV.int .i64 z)) hdv.symm,congrArg (fun z=>some (SV.int .i64 z)) hev.symm,trivial⟩,⟨rfl,trivial⟩⟩⟩
       |trace_state
  |some d=>
   rw [hD] at hd1;have hdl:=hd d hD;dsimp only at hd1;cases hE:eK pc.a o k with
   |none=>
    rw [hE] at he1;dsimp only at he1;by_cases cd:pc.a.getD (k+o) 0<0/\pc.a.getD (k+o) 0<pc.a.getD (d+o) 0
    .have hdv:oI (dK pc.a o (k+1))=(k:Int):=by rw [hd1,if_pos cd];rfl
     by_cases ce:0<pc.a.getD (k+o) 0
     .have hev:oI (eK pc.a o (k+1))=(k:Int):=by rw [he1,if_pos ce];rfl
      exfalso;omega
     .have hev:oI (eK pc.a o (k+1))= -1:=by rw [he1,if_neg ce];rfl
      unfold oI at hdv hev⊢;repeat' ((conv=>whnf);first|refine a0a ?_|(apply bRx<;>intro h<;>try (exfalso;(try dsimp only at h);omega)))
      all_goals (conv=>whnf)
      all_goals (try simp only [e0s] at*)
      all_goals first
       |(exfalso;omega)
       |exact ⟨k+1,[0,1],[],hk2,(show n-(k+1)<n-k by omega),⟨rfl,⟨rfl,rfl,rfl,congrArg (fun z=>some (SV.int .i64 z)) (a0e (by omega)),congrArg (fun z=>some (SV.int .i64 z)) hdv.symm,congrArg (fun z=>some (SV.int .i64 z)) hev.symm,trivial⟩,⟨rfl,trivial⟩⟩⟩
       |trace_state
    .have hdv:oI (dK pc.a o (k+1))=(d:Int):=by rw [hd1,if_neg cd];rfl
     by_cases ce:0<pc.a.getD (k+o) 0
     .have hev:oI (eK pc.a o (k+1))=(k:Int):=by rw [he1,if_pos ce];rfl
      unfold oI at hdv hev⊢;repeat' ((conv=>whnf);first|refine a0a ?_|(apply bRx<;>intro h<;>try (exfalso;(try dsimp only at h);omega)))
      all_goals (conv=>whnf)
      all_goals (try simp only [e0s] at*)
      all_goals first
       |(exfalso;omega)
       |exact ⟨k+1,[0,1],[],hk2,(show n-(k+1)<n-k by omega),⟨rfl,⟨rfl,rfl,rfl,congrArg (fun z=>some (SV.int .i64 z)) (a0e (by omega)),congrArg (fun z=>some (SV.int .i64 z)) hdv.symm,congrArg (fun z=>some (SV.int .i64 z)) hev.symm,trivial⟩,⟨rfl,trivial⟩⟩⟩
       |trace_state
     .have hev:oI (eK pc.a o (k+1))= -1:=by rw [he1,if_neg ce];rfl
      unfold oI at hdv hev⊢;repeat' ((conv=>whnf);first|refine a0a ?_|(apply bRx<;>intro h<;>try (exfalso;(try dsimp only at h);omega)))
      all_goals (conv=>whnf)
      all_goals (try simp only [e0s] at*)
      all_goals first
       |(exfalso;omega)
       |exact ⟨k+1,[0,1],[],hk2,(show n-(k+1)<n-k by omega),⟨rfl,⟨rfl,rfl,rfl,congrArg (fun z=>some (SV.int .i64 z)) (a0e (by omega)),congrArg (fun z=>some (SV.int .i64 z)) hdv.symm,congrArg (fun z=>some (SV.int .i64 z)) hev.symm,trivial⟩,⟨rfl,trivial⟩⟩⟩
       |trace_state
   |some e=>
    rw [hE] at he1;have hel:=he e hE;dsimp only at he1;by_cases cd:pc.a.getD (k+o) 0<0/\pc.a.getD (k+o) 0<pc.a.getD (d+o) 0
    .have hdv:oI (dK pc.a o (k+1))=(k:Int):=by rw [hd1,if_pos cd];rfl
     by_cases ce:0<pc.a.getD (k+o) 0/\pc.a.getD (e+o) 0<pc.a.getD (k+o) 0
     .have hev:oI (eK pc.a o (k+1))=(k:Int):=by rw [he1,if_pos ce];rfl
      exfalso;omega
     .have hev:oI (eK pc.a o (k+1))=(e:Int):=by rw [he1,if_neg ce];rfl
      unfold oI at hdv hev⊢;repeat' ((conv=>whnf);first|refine a0a ?_|(apply bRx<;>intro h<;>try (exfalso;(try dsimp only at h);omega)))
      all_goals (conv=>whnf)
      all_goals (try simp only [e0s] at*)
      all_goals first
       |(exfalso;omega)
       |exact ⟨k+1,[0,1],[],hk2,(show n-(k+1)<n-k by omega),⟨rfl,⟨rfl,rfl,rfl,congrArg (fun z=>some (SV.int .i64 z)) (a0e (by omega)),congrArg (fun z=>some (SV.int .i64 z)) hdv.symm,congrArg (fun z=>some (SV.int .i64 z)) hev.symm,trivial⟩,⟨rfl,trivial⟩⟩⟩
       |trace_state
    .have hdv:oI (dK pc.a o (k+1))=(d:Int):=by rw [hd1,if_neg cd];rfl
     by_cases ce:0<pc.a.getD (k+o) 0/\pc.a.getD (e+o) 0<pc.a.getD (k+o) 0
     .have hev:oI (eK pc.a o (k+1))=(k:Int):=by rw [he1,if_pos ce];rfl
      unfold oI at hdv hev⊢;repeat' ((conv=>whnf);first|refine a0a ?_|(apply bRx<;>intro h<;>try (exfalso;(try dsimp only at h);omega)))
      all_goals (conv=>whnf)
      all_goals (try simp only [e0s] at*)
      all_goals first
       |(exfalso;omega)
       |exact ⟨k+1,[0,1],[],hk2,(show n-(k+1)<n-k by omega),⟨rfl,⟨rfl,rfl,rfl,congrArg (fun z=>some (SV.int .i64 z)) (a0e (by omega)),congrArg (fun z=>some (SV.int .i64 z)) hdv.symm,congrArg (fun z=>some (SV.int .i64 z)) hev.symm,trivial⟩,⟨rfl,trivial⟩⟩⟩
       |trace_state
     .have hev:oI (eK pc.a o (k+1))=(e:Int):=by rw [he1,if_neg ce];rfl
      unfold oI at hdv hev⊢;repeat' ((conv=>whnf);first|refine a0a ?_|(apply bRx<;>intro h<;>try (exfalso;(try dsimp only at h);omega)))
      all_goals (conv=>whnf)
      all_goals (try simp only [e0s] at*)
      all_goals first
       |(exfalso;omega)
       |exact ⟨k+1,[0,1],[],hk2,(show n-(k+1)<n-k by omega),⟨rfl,⟨rfl,rfl,rfl,congrArg (fun z=>some (SV.int .i64 z)) (a0e (by omega)),congrArg (fun z=>some (SV.int .i64 z)) hdv.symm,congrArg (fun z=>some (SV.int .i64 z)) hev.symm,trivial⟩,⟨rfl,trivial⟩⟩⟩
       |trace_state
 .have e:k=n:=by omega
  subst e;repeat' ((conv=>whnf);first|refine a0a ?_|(apply bRx<;>intro h<;>try (exfalso;(try dsimp only at h);omega)))
  all_goals (conv=>whnf)
  all_goals first
   |exact rOx [0,1] a0b
   |(exfalso;omega)
   |trace_state
end
section
attribute [local irreducible] a0q a0r a0k a0P
def fK (V:List Int):Nat->Nat
 |0=>0
 |k+1=>if V.getD k 0<V.getD (fK V k) 0 then k else fK V k
def tK (V:List Int):Nat->Nat
 |0=>0
 |k+1=>if V.getD (tK V k) 0<V.getD k 0 then k else tK V k
theorem f1c (V:List Int):∀k,fK V k<=k
 |0=>n0q _
 |k+1=>by have:=f1c V k;simp only [fK];split<;>omega
theorem f1d (V:List Int):∀k,tK V k<=k
 |0=>n0q _
 |k+1=>by have:=f1d V k;simp only [tK];split<;>omega
theorem h1j (V:List Int) {n:Nat} (h:0<n):fK V n<n:=by
 induction n with
 |zero=>omega
 |succ n ih=>
  simp only [fK];by_cases e:n=0
  .subst e;split<;>simp [fK]
  .have:=ih (by omega);split<;>omega
theorem h1k (V:List Int) {n:Nat} (h:0<n):tK V n<n:=by
 induction n with
 |zero=>omega
 |succ n ih=>
  simp only [tK];by_cases e:n=0
  .subst e;split<;>simp [tK]
  .have:=ih (by omega);split<;>omega
theorem y0A (L:List Ps) (n g:Nat) (hn:L.length=n) (hl:n<=100000) (h0:0<g) (hg:g<=n) (hs:∀j,j<g->(a0g L).c.getD j ⟨#[]⟩=(a0g L).c.getD 0 ⟨#[]⟩) (he:g<n->¬(a0g L).c.getD g ⟨#[]⟩=(a0g L).c.getD 0 ⟨#[]⟩) (hb:∀k,inT ((a0g L).a.getD k 0)):
  FC Tryz.prog 2 96 [.sl 1 0 0 n] [(1,some (.one true (psB n (a0g L))))] (a0h (.agg [.str ((a0g L).p.getD (fK (a0g L).a g) ⟨#[]⟩),.str ((a0g L).p.getD (tK (a0g L).a g) ⟨#[]⟩),.int .i64 (min (-(a0g L).a.getD (fK (a0g L).a g) 0) ((a0g L).a.getD (tK (a0g L).a g) 0)),.str ((a0g L).c.getD 0 ⟨#[]⟩)]) [] 2):=by
 generalize a0g L=pc at*;refine fEx Tryz.func96 ?_;repeat' ((conv=>whnf);first|refine a0a ?_|(apply bRx<;>intro h<;>try (exfalso;(try dsimp only at h);omega)))
 all_goals (conv=>whnf)
 refine a0f (fun i:Nat=>⟨[(0,.sl 1 0 0 n),(2,.ptr 2 0 0 0),(3,.int .i64 (fK pc.a i:Nat)),(4,.int .i64 (tK pc.a i:Nat)),(5,.int .i64 i)],[(1,some (.one true (psB n pc))),(2,some (.one false (.cells [.str ⟨#[]⟩,.str ⟨#[]⟩,.int .i64 0,.str ⟨#[]⟩])))],3⟩) (fun i=>i<=g) (fun i=>g-i) 0 [0,1,2] [] wHx (w0F _) ?_;intro i hi;have hf:=f1c pc.a i;have ht:=f1d pc.a i;by_cases hi2:i<g
 .have hc:=hs i hi2;have hf1:fK pc.a (i+1)=if pc.a.getD i 0<pc.a.getD (fK pc.a i) 0 then i else fK pc.a i:=rfl
  have ht1:tK pc.a (i+1)=if pc.a.getD (tK pc.a i) 0<pc.a.getD i 0 then i else tK pc.a i:=rfl
  generalize fK pc.a i=f at*;generalize tK pc.a i=t at*;by_cases c1:pc.a.getD i 0<pc.a.getD f 0;all_goals by_cases c2:pc.a.getD t 0<pc.a.getD i 0
  all_goals (first|rw [if_pos c1] at hf1|rw [if_neg c1] at hf1)
  all_goals (first|rw [if_pos c2] at ht1|rw [if_neg c2] at ht1)
  all_goals repeat' ((conv=>whnf);first|refine a0a ?_|(apply bRx<;>intro h<;>try (exfalso;(try dsimp only at h);omega)))
  all_goals (conv=>whnf)
  all_goals (try simp only [t0P] at*)
  all_goals first
   |(exfalso;first|omega|contradiction)
   |exact ⟨i+1,[0,1,2],[],hi2,(show g-(i+1)<g-i by omega),⟨rfl,⟨rfl,rfl,congrArg (fun z:Nat=>some (SV.int .i64 (z:Int))) hf1.symm,congrArg (fun z:Nat=>some (SV.int .i64 (z:Int))) ht1.symm,congrArg (fun z=>some (SV.int .i64 z)) (a0e (by omega)),trivial⟩,⟨rfl,rfl,trivial⟩⟩⟩
   |trace_state
 .have e:i=g:=by omega
  subst e;have hf2:=h1j pc.a h0;have ht2:=h1k pc.a h0;have hbf:=hb (fK pc.a i);generalize fK pc.a i=f at*;generalize tK pc.a i=t at*;have hw:IntKind.i64.wrap (0-pc.a.getD f 0)= -pc.a.getD f 0:=by rw [a0m (by omega) (by omega)];omega
  rw [<-hw];repeat' ((conv=>whnf);first|refine a0a ?_|(apply bRx<;>intro h<;>try (exfalso;(try dsimp only at h);omega)))
  all_goals (conv=>whnf)
  all_goals (try simp only [t0P] at*)
  all_goals first
   |(exfalso;first|omega|(refine he ?_ ?_<;>first|omega|assumption))
   |exact rOx [0,1] a0b
   |trace_state
end
section
attribute [local irreducible] a0q a0r a0k a0P
theorem y0B (L:List Ps) (n:Nat) (hn:L.length=n) (hl:n<=100000):FC Tryz.prog 2 80 [.sl 1 0 0 n] [(1,some (.one true (psB n (a0g L))))] (a0h (.sl 2 0 0 n) [(2,some (.one false (psB n (a0g L))))] 3):=by
 have h1:(a0g L).p.length=n:=by simp [a0g,hn]
 have h2:(a0g L).a.length=n:=by simp [a0g,hn]
 have h3:(a0g L).c.length=n:=by simp [a0g,hn]
 cases n with
 |zero=>
  obtain rfl:=j1r hn;refine p0s rfl ?_;refine fEx Tryz.func80 ?_;repeat' ((conv=>whnf);first|refine a0a ?_|(apply bRx<;>intro h<;>try (exfalso;(try dsimp only at h);omega))|(refine And.intro ?_ ?_))
  all_goals (conv=>whnf)
  all_goals first
   |exact d0q (fun _ _ _ h=> .inl h) (rOx [0,1] a0b)
   |exact d0q (fun _ _ _ h=> .inr h) (rOx [0,1,3] (a0d a0b))
   |decide
 |succ n=>
  unfold psB;refine fEx Tryz.func80 ?_;repeat' ((conv=>whnf);first|refine a0a ?_|(apply bRx<;>intro h<;>try (exfalso;(try dsimp only at h);omega)))
  all_goals (conv=>whnf)
  all_goals (rw [z0z (n+1),c0l h1,c0l h2,c0l h3];exact rOx [0,1,3] (a0d a0b))
end
section
def q0q (A:List Ps) (i:Nat) (d:Int):List Ps:=A.set i { A.getD i ps0 with a:=(A.getD i ps0).a+d}
def sgA (A:List Ps) (o d e:Nat):Int:=min (-(A.getD (d+o) ps0).a) (A.getD (e+o) ps0).a
def sgN (A:List Ps) (o d e:Nat):List Ps:=q0q (q0q A (d+o) (sgA A o d e)) (e+o) (-(sgA A o d e))
def sgT (A:List Ps) (o d e:Nat) (c:ByteArray):Tx:=⟨(A.getD (d+o) ps0).p,(A.getD (e+o) ps0).p,sgA A o d e,c⟩
def stG (o n:Nat) (c:ByteArray):Nat->List Ps->List Tx->List Ps×List Tx
 |0,A,T=>(A,T)
 |f+1,A,T=>match dK (a0g A).a o n,eK (a0g A).a o n with
  |some d,some e=>stG o n c f (sgN A o d e) (T++ [sgT A o d e c])
  |_,_=>(A,T)
def cnz (A:List Ps) (o:Nat):Nat->Nat
 |0=>0
 |k+1=>cnz A o k+if (A.getD (k+o) ps0).a=0 then 0 else 1
theorem t0Q (A:List Ps) (o:Nat):∀n,cnz A o n<=n
 |0=>n0q _
 |n+1=>by have:=t0Q A o n;simp only [cnz];split<;>omega
theorem c0m (A:List Ps) (i:Nat) (d:Int):(q0q A i d).length=A.length:=by simp [q0q]
theorem d0P {A:List Ps} {i:Nat} (d:Int) (hi:i<A.length) (j:Nat):(q0q A i d).getD j ps0=if j=i then { A.getD i ps0 with a:=(A.getD i ps0).a+d} else A.getD j ps0:=by
 unfold q0q;rw [List.getD,j1H];by_cases e:j=i
 .subst e;rw [if_pos rfl,if_pos hi,if_pos rfl];rfl
 .rw [if_neg (fun h=>e h.symm),if_neg e];rfl
theorem y0C (V:List Int) (o:Nat):∀k d,dK V o k=some d->V.getD (d+o) 0<0
 |0,d,h=>by cases h
 |k+1,d,h=>by
  simp only [dK] at h;split at h
  .split at h
   .cases h;assumption
   .cases h
  .rename_i d' hd;have:=y0C V o k d' hd;split at h
   .cases h;rename_i q;exact q.1
   .cases h;exact this
theorem y0D (V:List Int) (o:Nat):∀k d,eK V o k=some d->0<V.getD (d+o) 0
 |0,d,h=>by cases h
 |k+1,d,h=>by
  simp only [eK] at h;split at h
  .split at h
   .cases h;assumption
   .cases h
  .rename_i d' hd;have:=y0D V o k d' hd;split at h
   .cases h;rename_i q;exact q.1
   .cases h;exact this
theorem r0X {A:List Ps} {o d e:Nat} (hd:d+o<A.length) (he:e+o<A.length) (hne:d≠e) (j:Nat):(sgN A o d e).getD j ps0=if j=d+o then { A.getD (d+o) ps0 with a:=(A.getD (d+o) ps0).a+sgA A o d e} else if j=e+o then { A.getD (e+o) ps0 with a:=(A.getD (e+o) ps0).a-sgA A o d e} else A.getD j ps0:=by
 unfold sgN;rw [d0P _ (by rw [c0m];exact he),d0P _ hd,d0P _ hd];by_cases h1:j=e+o
 .rw [if_pos h1,if_neg (by omega),if_neg (by omega),if_pos h1];rfl
 .rw [if_neg h1,if_neg h1]
theorem y0E (A:List Ps) (o d e:Nat):(sgN A o d e).length=A.length:=by unfold sgN;rw [c0m,c0m]
theorem t0R {A B:List Ps} {o:Nat}:∀n,(∀j,j<n->(A.getD (j+o) ps0).a=0->(B.getD (j+o) ps0).a=0)->cnz B o n<=cnz A o n
 |0,_=>n0q _
 |n+1,h=>by
  have ih:=t0R n (fun j hj=>h j (by omega));have:=h n (by omega);simp only [cnz];split<;>split<;>first|omega|(exfalso;rename_i h1 h2;exact h1 (this h2))
theorem y0F {A B:List Ps} {o i:Nat}:∀n,(∀j,j<n->(A.getD (j+o) ps0).a=0->(B.getD (j+o) ps0).a=0)->i<n->(A.getD (i+o) ps0).a≠0->(B.getD (i+o) ps0).a=0->cnz B o n<cnz A o n
 |0,_,hi,_,_=>by omega
 |n+1,h,hi,h1,h2=>by
  simp only [cnz];by_cases e:i=n
  .subst e;have:=t0R i (fun j hj=>h j (by omega));rw [if_neg h1,if_pos h2];omega
  .have ih:=y0F n (fun j hj=>h j (by omega)) (by omega) h1 h2;have:=h n (by omega);split<;>split<;>first|omega|(exfalso;rename_i q1 q2;exact q1 (this q2))
theorem e0t {A:List Ps} {o n d e:Nat} (hl:o+n<=A.length) (hd:dK (a0g A).a o n=some d) (he:eK (a0g A).a o n=some e):d<n/\e<n/\d≠e/\(A.getD (d+o) ps0).a<0/\0<(A.getD (e+o) ps0).a/\0<sgA A o d e/\cnz (sgN A o d e) o n<cnz A o n:=by
 have d1:=b1E _ _ _ _ hd;have e1:=b1F _ _ _ _ he;have d2:=y0C _ _ _ _ hd;have e2:=y0D _ _ _ _ he;rw [(b0v A (d+o)).2.1] at d2;rw [(b0v A (e+o)).2.1] at e2;have hne:d≠e:=by intro q;subst q;omega
 have hm:0<sgA A o d e:=by unfold sgA;omega
 refine ⟨d1,e1,hne,d2,e2,hm,?_⟩;have hg:=r0X (A:=A) (o:=o) (d:=d) (e:=e) (by omega) (by omega) hne;have hz:∀j,j<n->(A.getD (j+o) ps0).a=0->((sgN A o d e).getD (j+o) ps0).a=0:=by
  intro j hj hj0;rw [hg,if_neg (fun q=>by rw [q] at hj0;omega),if_neg (fun q=>by rw [q] at hj0;omega)];exact hj0
 by_cases hc: -(A.getD (d+o) ps0).a<=(A.getD (e+o) ps0).a
 .refine y0F (i:=d) n hz d1 (by omega) ?_;rw [hg,if_pos rfl];show (A.getD (d+o) ps0).a+sgA A o d e=0;unfold sgA;omega
 .refine y0F (i:=e) n hz e1 (by omega) ?_;rw [hg,if_neg (by omega),if_pos rfl];show (A.getD (e+o) ps0).a-sgA A o d e=0;unfold sgA;omega
theorem t0S {A:List Ps} {o n:Nat} {c:ByteArray} {f d e:Nat} {T:List Tx} (hd:dK (a0g A).a o n=some d) (he:eK (a0g A).a o n=some e):stG o n c (f+1) A T=stG o n c f (sgN A o d e) (T++ [sgT A o d e c]):=by
 simp only [stG,hd,he]
theorem y0G {A:List Ps} {o n:Nat} {c:ByteArray} {T:List Tx} (h:dK (a0g A).a o n=none\/eK (a0g A).a o n=none):∀f,stG o n c f A T=(A,T)
 |0=>rfl
 |f+1=>by
  rcases h with h|h
  .simp only [stG,h]
  .simp only [stG,h];cases dK (a0g A).a o n<;>rfl
def grN (C:List ByteArray) (o:Nat):Nat:=((C.drop o).takeWhile (fun c=>seq c (C.getD o ⟨#[]⟩))).length
theorem t0T (C:List ByteArray) (o:Nat):grN C o<=C.length-o:=by
 unfold grN;rw [<-j1C];exact List.IsPrefix.length_le (List.takeWhile_prefix _)
theorem c1T {p:ByteArray->Bool}:∀(l:List ByteArray) (j:Nat),j<(l.takeWhile p).length->p (l.getD j ⟨#[]⟩)=true
 | [],j,h=>by simp at h
 |x::l,j,h=>by
  by_cases hx:p x=true
  .rw [k1g,if_pos hx] at h;cases j with
   |zero=>exact hx
   |succ j=>rw [j1n];exact c1T l j (by simpa using h)
  .rw [k1g,if_neg hx] at h;simp at h
theorem c1U {p:ByteArray->Bool}:∀(l:List ByteArray),(l.takeWhile p).length<l.length->p (l.getD (l.takeWhile p).length ⟨#[]⟩)=false
 | [],h=>by simp at h
 |x::l,h=>by
  by_cases hx:p x=true
  .rw [k1g,if_pos hx] at h⊢;rw [d1G,j1n];exact c1U l (by simpa using h)
  .rw [k1g,if_neg hx] at h⊢;simpa using hx
theorem t0U {C:List ByteArray} {o j:Nat} (h:j<grN C o):C.getD (j+o) ⟨#[]⟩=C.getD o ⟨#[]⟩:=by
 have:=c1T _ j h;rw [b0M] at this;rw [<-this,List.getD,List.getD,k1W,k1l]
theorem o0g {C:List ByteArray} {o:Nat} (h:grN C o+o<C.length):¬C.getD (grN C o+o) ⟨#[]⟩=C.getD o ⟨#[]⟩:=by
 intro e;have h2:grN C o<(C.drop o).length:=by rw [j1C];omega
 have:=c1U (p:=fun c=>seq c (C.getD o ⟨#[]⟩)) (C.drop o) h2;rw [show ((C.drop o).takeWhile (fun c=>seq c (C.getD o ⟨#[]⟩))).length=grN C o from rfl] at this;rw [List.getD,k1W,k1l o,<-List.getD,e] at this;rw [b0M.2 rfl] at this;cases this
def stR:Nat->Nat->List Ps->List Tx->List Tx
 |0,_,_,T=>T
 |f+1,o,A,T=>if A.length<=o then T else
   stR f (grN (a0g A).c o+o) (stG o (grN (a0g A).c o) ((a0g A).c.getD o ⟨#[]⟩) (grN (a0g A).c o) A T).1 (stG o (grN (a0g A).c o) ((a0g A).c.getD o ⟨#[]⟩) (grN (a0g A).c o) A T).2
def seT (L:List Ps):List Tx:=if ckP L≠0 then [] else stR L.length 0 (c0M L) []
theorem b1G {A:List Ps} {o d e:Nat} (hd:d+o<A.length) (he:e+o<A.length) (hne:d≠e):(a0g (sgN A o d e)).p=(a0g A).p/\(a0g (sgN A o d e)).c=(a0g A).c/\(a0g (sgN A o d e)).a=((a0g A).a.set (d+o) ((a0g A).a.getD (d+o) 0+sgA A o d e)).set (e+o) ((a0g A).a.getD (e+o) 0-sgA A o d e):=by
 have hg:=r0X hd he hne;have hl:=y0E A o d e;have key:∀{α:Type} (f:Ps->α),(∀j,f ((sgN A o d e).getD j ps0)=f (A.getD j ps0))->(sgN A o d e).map f=A.map f:=by
  intro α f h;refine k1M fun j=> ?_
  rw [a1u,a1u];by_cases hj:j<A.length
  .have:=h j;rw [List.getD,List.getD,k0n (by omega),k0n hj] at this;rw [k0n (by omega),k0n hj];exact congrArg some this
  .rw [r0b (by omega),r0b (by omega)]
 refine ⟨key Ps.p fun j=> ?_,key Ps.c fun j=> ?_,?_⟩
 .rw [hg];split
  .rename_i q;rw [q]
  .split
   .rename_i q;rw [q]
   .rfl
 .rw [hg];split
  .rename_i q;rw [q]
  .split
   .rename_i q;rw [q]
   .rfl
 .rw [(b0v A (d+o)).2.1,(b0v A (e+o)).2.1];refine k1M fun j=> ?_
  rw [j1H,j1H];show ((sgN A o d e).map Ps.a)[j]? =_;rw [a1u];by_cases hj:j<A.length
  .have h2:=hg j;rw [List.getD,k0n (by omega),j1A] at h2;rw [k0n (by omega),c1m,h2];by_cases h1:j=d+o
   .rw [if_pos h1,if_neg (by omega),if_pos h1.symm,if_pos (by simp [a0g];omega)]
   .rw [if_neg h1];by_cases h3:j=e+o
    .rw [if_pos h3,if_pos h3.symm,if_pos (by simp [a0g];omega)]
    .rw [if_neg h3,if_neg (fun q=>h3 q.symm),if_neg (fun q=>h1 q.symm)];show _=(A.map Ps.a)[j]?;rw [a1u,List.getD,k0n hj];rfl
  .rw [r0b (by omega),if_neg (by omega),if_neg (by omega)];show _=(A.map Ps.a)[j]?;rw [a1u,r0b (by omega)]
theorem f1e {f o N g:Nat} {A A2:List Ps} {T T2 R:List Tx} (hres:stR f o A T=R) (hf:N<=f+o) (ho:o<N) (hl:A.length=N) (hg:grN (a0g A).c (0+o)=g) (h:stG (0+o) g ((a0g A).c.getD (0+o) ⟨#[]⟩) g A T=(A2,T2)):∃f0,f=f0+1/\stR f0 (g+o) A2 T2=R:=by
 rw [z0z] at hg h;cases f with
 |zero=>omega
 |succ f=>
  refine ⟨f,rfl,?_⟩;rw [<-hres];simp only [stR];rw [if_neg (by omega),hg,h]
end
end Go.Proofs.YtegbehopnoocnaaGreatDoor
