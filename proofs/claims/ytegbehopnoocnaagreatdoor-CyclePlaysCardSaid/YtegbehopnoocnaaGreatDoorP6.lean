/- Several texts in one: Cp2. -/
import Derived.Test.YtegbehopnoocnaaGreatDoorP5
set_option linter.unusedVariables false
set_option linter.unusedSimpArgs false
set_option maxRecDepth 100000
namespace Go.Sy
abbrev h1W:=@List.map_append
abbrev j1L:=@List.length_filter_le
abbrev j1T:=@Int.le_refl
abbrev j1j:=@List.mem_filter
abbrev j1n:=@List.getD_cons_succ
abbrev j1v:=@List.filter_append
abbrev j1y:=@List.filter_cons
abbrev j1z:=@List.pairwise_append
abbrev k1N:=@List.getElem_take
abbrev k1X:=@List.drop_zero
abbrev k1Y:=@List.pairwise_cons
abbrev k1f:=@List.pairwise_singleton
abbrev l1B:=@List.getD_cons_zero
abbrev l1I:=@List.sum_cons
abbrev l1M:=@List.drop_of_length_le
abbrev l1O:=@List.take_sublist
abbrev l1d:=@List.drop_eq_getElem_cons
abbrev l1g:=@List.map_set
abbrev l1l:=@List.drop_sublist
abbrev l1r:=@List.not_mem_nil
abbrev l1x:=@List.filter_nil
end Go.Sy
namespace Go.Proofs.YtegbehopnoocnaaGreatDoor
open Go.RowKit Go.Sy
section
attribute [local irreducible] a0q a0r a0k a0P
structure Rt where
 f:ByteArray
 t:ByteArray
 n:Int
 d:Int
def Rt.z:Rt:=⟨⟨#[]⟩,⟨#[]⟩,0,0⟩
def Rt.sv (r:Rt):SV:= .agg [.str r.f,.str r.t,.int .i64 r.n,.int .i64 r.d]
structure RL where
 f:List ByteArray
 t:List ByteArray
 n:List Int
 d:List Int
 l:Nat
def RL.at (q:RL) (i:Nat):Rt:=⟨q.f.getD i ⟨#[]⟩,q.t.getD i ⟨#[]⟩,q.n.getD i 0,q.d.getD i 0⟩
def RL.H (q:RL):a0j:= [(0,some (GB glT)),(1,some (.one true (.cols q.l [.sc (.strs q.f),.sc (.strs q.t),.sc (.ints .i64 q.n),.sc (.ints .i64 q.d)])))]
def RL.fits (q:RL) (f t:ByteArray) (i:Nat):Prop:=(q.at i).f=f/\(q.at i).t=t/\d0D (q.at i).f (q.at i).t (q.at i).n (q.at i).d=0
instance (q:RL) (f t:ByteArray) (i:Nat):Decidable (q.fits f t i):=by unfold RL.fits;infer_instance
def stF (q:RL) (f t:ByteArray):Nat->Nat->Option Rt
 |0,_=>none
 |m+1,k=>if q.fits f t k then some (q.at k) else stF q f t m (k+1)
def stO (q:RL) (f t:ByteArray):Option Rt:=stF q f t q.l 0
theorem c1y {q:RL} {f t:ByteArray} {r:Rt}:∀(m k:Nat),stF q f t m k=some r->r.f=f/\r.t=t/\d0D r.f r.t r.n r.d=0
 |0,k,h=>by simp [stF] at h
 |m+1,k,h=>by
  simp only [stF] at h;split at h
  .rename_i hf;cases h;exact hf
  .exact c1y m (k+1) h
theorem p0L {q:RL} {f t:ByteArray} {r:Rt} (h:stO q f t=some r):r.f=f/\r.t=t/\d0D r.f r.t r.n r.d=0:=c1y _ _ h
theorem k0F (q:RL) (hl:q.l<=1000) (f t:ByteArray):FC Tryz.prog 2 188 [.sl 1 0 0 q.l,.str f,.str t] q.H (a0h ((stO q f t).getD Rt.z).sv [] 2):=by
 have ck:=fun i=>e0n (q.at i).f (q.at i).t (q.at i).n (q.at i).d
 refine fEx Tryz.func188 ?_
 (conv=>whnf)
 refine a0E (fun k:Nat=>⟨[(1,.str f),(2,.str t),(6,.ptr 2 0 0 0),(9,.sl 1 0 0 q.l),(10,.int .i64 q.l),(11,.int .i64 k)],(2,some (.one false (.cells [.str ⟨#[]⟩,.str ⟨#[]⟩,.int .i64 0,.int .i64 0])))::q.H,3⟩) (fun k=>k<=q.l/\stF q f t (q.l-k) k=stO q f t) (fun k=>q.l-k) 0 [0,1,2] [] wHx ⟨by omega,rfl⟩ ?_;rintro k ⟨hk,hc⟩;have step:k<q.l->stO q f t=if q.fits f t k then some (q.at k) else stF q f t (q.l-(k+1)) (k+1):=fun h=>by
  rw [<-hc,show q.l-k=(q.l-(k+1))+1 from by omega,stF]
 have ckk:=ck k;repeat' ((conv=>whnf);first|refine cGx ckk ?_|refine a0a ?_|(apply bRx<;>intro h<;>try (exfalso;(try dsimp only at h);omega)))
 all_goals (conv=>whnf)
 .have hf:q.fits f t k:=⟨by assumption,by assumption,by assumption⟩;rw [step (by omega),if_pos hf];exact rOx [0,1] a0b
 .have hf:¬q.fits f t k:=fun hf=>absurd hf.2.2 (by assumption)
  refine ⟨k+1,[0,1,2],[],⟨by omega,by rw [step (by omega),if_neg hf]⟩,by omega,⟨rfl,⟨rfl,rfl,rfl,rfl,rfl,congrArg (fun z=>some (SV.int .i64 z)) (a0e (by omega)),trivial⟩,⟨rfl,gwk rfl,rfl,trivial⟩⟩⟩
 .have hf:¬q.fits f t k:=fun hf=>absurd hf.2.1 (by assumption)
  refine ⟨k+1,[0,1,2],[],⟨by omega,by rw [step (by omega),if_neg hf]⟩,by omega,⟨rfl,⟨rfl,rfl,rfl,rfl,rfl,congrArg (fun z=>some (SV.int .i64 z)) (a0e (by omega)),trivial⟩,⟨rfl,gwk rfl,rfl,trivial⟩⟩⟩
 .have hf:¬q.fits f t k:=fun hf=>absurd hf.1 (by assumption)
  refine ⟨k+1,[0,1,2],[],⟨by omega,by rw [step (by omega),if_neg hf]⟩,by omega,⟨rfl,⟨rfl,rfl,rfl,rfl,rfl,congrArg (fun z=>some (SV.int .i64 z)) (a0e (by omega)),trivial⟩,⟨rfl,gwk rfl,rfl,trivial⟩⟩⟩
 .have e:k=q.l:=by omega
  rw [e,j1k,stF] at hc;rw [<-hc];exact rOx [0,1] a0b
theorem i0N (q:RL) (hl:q.l<=1000) (hz:∀i,(q.at i).f.size<=9223372036854775807/\(q.at i).t.size<=9223372036854775807) (f t:ByteArray):FC Tryz.prog 2 171 [.sl 1 0 0 q.l,.str f,.str t] q.H (a0h (.tup [((stO q f t).getD Rt.z).sv,.bool (stO q f t).isSome]) [] 2):=by
 have ck:=fun i=>d0w (q.at i).f (q.at i).t (q.at i).n (q.at i).d (by have:=hz i;omega) (by have:=hz i;omega)
 refine fEx Tryz.func171 ?_
 (conv=>whnf)
 refine a0E (fun k:Nat=>⟨[(0,.sl 1 0 0 q.l),(1,.str f),(2,.str t),(6,.ptr 2 0 0 0),(8,.int .i64 k)],(2,some (.one false (.cells [.str ⟨#[]⟩,.str ⟨#[]⟩,.int .i64 0,.int .i64 0])))::q.H,3⟩) (fun k=>k<=q.l/\stF q f t (q.l-k) k=stO q f t) (fun k=>q.l-k) 0 [0,1,2] [] wHx ⟨by omega,rfl⟩ ?_;rintro k ⟨hk,hc⟩;have step:k<q.l->stO q f t=if q.fits f t k then some (q.at k) else stF q f t (q.l-(k+1)) (k+1):=fun h=>by
  rw [<-hc,show q.l-k=(q.l-(k+1))+1 from by omega,stF]
 have ckk:=ck k;repeat' ((conv=>whnf);first|refine cPx ckk ?_|refine a0a ?_|(apply bRx<;>intro h<;>try (exfalso;(try dsimp only at h);omega)))
 all_goals (conv=>whnf)
 .have hf:q.fits f t k:=⟨by assumption,by assumption,by assumption⟩;rw [step (by omega),if_pos hf];exact rOx [0,1] a0b
 .have hf:¬q.fits f t k:=fun hf=>absurd hf.2.2 (by assumption)
  refine ⟨k+1,[0,1,2],[],⟨by omega,by rw [step (by omega),if_neg hf]⟩,by omega,⟨rfl,⟨rfl,rfl,rfl,rfl,congrArg (fun z=>some (SV.int .i64 z)) (a0e (by omega)),trivial⟩,⟨rfl,gwk rfl,rfl,trivial⟩⟩⟩
 .have hf:¬q.fits f t k:=fun hf=>absurd hf.2.1 (by assumption)
  refine ⟨k+1,[0,1,2],[],⟨by omega,by rw [step (by omega),if_neg hf]⟩,by omega,⟨rfl,⟨rfl,rfl,rfl,rfl,congrArg (fun z=>some (SV.int .i64 z)) (a0e (by omega)),trivial⟩,⟨rfl,gwk rfl,rfl,trivial⟩⟩⟩
 .have hf:¬q.fits f t k:=fun hf=>absurd hf.1 (by assumption)
  refine ⟨k+1,[0,1,2],[],⟨by omega,by rw [step (by omega),if_neg hf]⟩,by omega,⟨rfl,⟨rfl,rfl,rfl,rfl,congrArg (fun z=>some (SV.int .i64 z)) (a0e (by omega)),trivial⟩,⟨rfl,gwk rfl,rfl,trivial⟩⟩⟩
 .have e:k=q.l:=by omega
  rw [e,j1k,stF] at hc;rw [<-hc];exact rOx [0,1] a0b
def Rt.inv (r:Rt):Rt:=⟨r.t,r.f,e0u r.d r.n,e0v r.d r.n⟩
def e0c (q:RL) (f t:ByteArray):Option Rt:=match stO q f t with|some r=>some r|none=>(match stO q t f with|some r=>some r.inv|none=>none)
theorem e1j {f t:ByteArray} {n d:Int} (h1:d0M f=true) (h2:d0M t=true) (h3:f≠t) (h4:1<=n) (h5:n<=1099511627776) (h6:1<=d) (h7:d<=1099511627776):d0D f t n d=0:=by
 unfold d0D;rw [if_neg (by simp [h1,h2,h3]),if_neg (by omega)]
theorem a1T {r:Rt} (h:d0D r.f r.t r.n r.d=0):d0D r.inv.f r.inv.t r.inv.n r.inv.d=0:=by
 obtain ⟨h1,h2,h3,h4,h5,h6,h7⟩:=c0x h;obtain ⟨x1,x2,x3,x4⟩:=h0q h6 h4;exact e1j h2 h1 (fun e=>h3 e.symm) x1 (by have:r.inv.n=e0u r.d r.n:=rfl;omega) x3 (by have:r.inv.d=e0v r.d r.n:=rfl;omega)
theorem f0t {q:RL} {f t:ByteArray} {r:Rt} (h:e0c q f t=some r):r.f=f/\r.t=t/\d0D r.f r.t r.n r.d=0:=by
 unfold e0c at h;split at h
 .rename_i r' hr;cases h;exact p0L hr
 .split at h
  .rename_i r' hr;cases h;obtain ⟨a,b,c⟩:=p0L hr;exact ⟨b,a,a1T c⟩
  .cases h
attribute [irreducible] stO
theorem a1U {r:Rt} (h:d0D r.f r.t r.n r.d=0):(seq r.f ⟨#[]⟩&&(seq r.t ⟨#[]⟩&&(decide (r.n=0)&&(decide (r.d=0)&&true))))=false:=by
 obtain ⟨_,_,_,h4,_⟩:=c0x h;rw [show decide (r.n=0)=false from decide_eq_false (by omega)];simp
theorem c1z:d0D Rt.z.f Rt.z.t Rt.z.n Rt.z.d≠0:=by
 intro h;obtain ⟨_,_,_,h4,_⟩:=c0x h;simp [Rt.z] at h4
theorem g0z (q:RL) (hl:q.l<=1000) (f t:ByteArray):FC Tryz.prog 2 157 [.sl 1 0 0 q.l,.str f,.str t] q.H (a0h ((e0c q f t).getD Rt.z).sv [] 2):=by
 have s1:=k0F q hl f t;have s2:=k0F q hl t f;refine fEx Tryz.func157 ?_;cases h1:stO q f t with
 |some r=>
  have nz:=a1U (p0L h1).2.2;have hd:e0c q f t=some r:=by unfold e0c;rw [h1]
  rw [h1] at s1;rw [hd];repeat' ((conv=>whnf);first|refine cOx (l:= [0,1]) s1 ?_|(refine i0F (fun h=> ?_) (fun h=> ?_)<;>try (exfalso;exact absurd (nz.symm.trans h) (by decide)))|refine a0a ?_|(apply bRx<;>intro h<;>try (exfalso;(try dsimp only at h);omega)))
  all_goals (conv=>whnf)
  all_goals exact rOx [0,1] a0b
 |none=>
  rw [h1] at s1;cases h2:stO q t f with
  |some r=>
   have ok:=(p0L h2).2.2;have c:=i0L r.f r.t r.n r.d;rw [ok,r0q] at c;have hd:e0c q f t=some r.inv:=by unfold e0c;rw [h1,h2]
   rw [h2] at s2;rw [hd];repeat' ((conv=>whnf);first|refine cOx (l:= [0,1]) s1 ?_|refine cOx (l:= [0,1]) s2 ?_|refine cGx c ?_|refine a0a ?_|(apply bRx<;>intro h<;>try (exfalso;(try dsimp only at h);omega)))
   all_goals (conv=>whnf)
   all_goals exact rOx [0,1] a0b
  |none=>
   have c:=i0L Rt.z.f Rt.z.t Rt.z.n Rt.z.d;rw [e0V c1z] at c;have hd:e0c q f t=none:=by unfold e0c;rw [h1,h2]
   have hz:=c1z;rw [h2] at s2;rw [hd];generalize d0D Rt.z.f Rt.z.t Rt.z.n Rt.z.d=e at*;repeat' ((conv=>whnf);first|refine cOx (l:= [0,1]) s1 ?_|refine cOx (l:= [0,1]) s2 ?_|refine cGx c ?_|refine a0a ?_|(apply bRx<;>intro h<;>try (exfalso;(try dsimp only at h);omega)))
   all_goals (conv=>whnf)
   all_goals exact rOx [0,1] a0b
theorem f0u (q:RL) (hl:q.l<=1000) (hz:∀i,(q.at i).f.size<=9223372036854775807/\(q.at i).t.size<=9223372036854775807) (f t:ByteArray):FC Tryz.prog 2 134 [.sl 1 0 0 q.l,.str f,.str t] q.H (a0h (.tup [((e0c q f t).getD Rt.z).sv,.bool (e0c q f t).isSome]) [] 2):=by
 have s1:=i0N q hl hz f t;have s2:=i0N q hl hz t f;refine fEx Tryz.func134 ?_;cases h1:stO q f t with
 |some r=>
  have hd:e0c q f t=some r:=by unfold e0c;rw [h1]
  rw [h1] at s1;rw [hd];repeat' ((conv=>whnf);first|refine cOx (l:= [0,1]) s1 ?_|refine a0a ?_|(apply bRx<;>intro h<;>try (exfalso;(try dsimp only at h);omega)))
  all_goals (conv=>whnf)
  all_goals exact rOx [0,1] a0b
 |none=>
  rw [h1] at s1;cases h2:stO q t f with
  |some r=>
   have ok:=(p0L h2).2.2;have k1:=m0q (c0x ok).1;have k2:=m0q (c0x ok).2.1;have c:=n0F r.f r.t r.n r.d (by omega) (by omega);rw [ok,r0q] at c;have hd:e0c q f t=some r.inv:=by unfold e0c;rw [h1,h2]
   rw [h2] at s2;rw [hd];repeat' ((conv=>whnf);first|refine cOx (l:= [0,1]) s1 ?_|refine cOx (l:= [0,1]) s2 ?_|refine cPx c ?_|refine a0a ?_|(apply bRx<;>intro h<;>try (exfalso;(try dsimp only at h);omega)))
   all_goals (conv=>whnf)
   all_goals exact rOx [0,1] a0b
  |none=>
   have hd:e0c q f t=none:=by unfold e0c;rw [h1,h2]
   rw [h2] at s2;rw [hd];repeat' ((conv=>whnf);first|refine cOx (l:= [0,1]) s1 ?_|refine cOx (l:= [0,1]) s2 ?_|refine a0a ?_|(apply bRx<;>intro h<;>try (exfalso;(try dsimp only at h);omega)))
   all_goals (conv=>whnf)
   all_goals exact rOx [0,1] a0b
attribute [irreducible] e0c
def c0J (q:RL) (f t p:ByteArray):SV:=
 if f=t then .tup [Rt.z.sv,.int .i64 11] else
 match e0c q f t with
 |some r=> .tup [r.sv,.int .i64 0]
 |none=>match e0c q f p,e0c q p t with
  |some a,some b=>rT (crE a.f a.t a.n a.d b.f b.t b.n b.d) a.f b.t (pA a.n a.d b.n b.d*pC a.n a.d b.n b.d) (pB a.n a.d b.n b.d*pD a.n a.d b.n b.d)
  |_,_=> .tup [Rt.z.sv,.int .i64 6]
theorem x0l (q:RL) (hl:q.l<=1000) (f t p:ByteArray):FC Tryz.prog 2 126 [.sl 1 0 0 q.l,.str f,.str t,.str p] q.H (a0h (c0J q f t p) [] 2):=by
 have s1:=g0z q hl f t;have s2:=g0z q hl f p;have s3:=g0z q hl p t;refine fEx Tryz.func126 ?_;by_cases hft:f=t
 .have hT:c0J q f t p= .tup [Rt.z.sv,.int .i64 11]:=by unfold c0J;rw [if_pos hft]
  rw [hT];repeat' ((conv=>whnf);first|(refine d0K (fun h=> ?_) (fun h=> ?_)<;>try (exact absurd hft h))|refine a0a ?_|(apply bRx<;>intro h<;>try (exfalso;(try dsimp only at h);omega)))
  all_goals (conv=>whnf)
  all_goals exact rOx [0,1] a0b
 .cases h1:e0c q f t with
  |some r=>
   have hT:c0J q f t p= .tup [r.sv,.int .i64 0]:=by unfold c0J;rw [if_neg hft,h1]
   have nz:=a1U (f0t h1).2.2;rw [h1] at s1;rw [hT];repeat' ((conv=>whnf);first|refine cOx (l:= [0,1]) s1 ?_|(refine d0K (fun h=> ?_) (fun h=> ?_)<;>try (exact absurd h hft))|(refine i0F (fun h=> ?_) (fun h=> ?_)<;>try (exfalso;exact absurd (nz.symm.trans h) (by decide)))|refine a0a ?_|(apply bRx<;>intro h<;>try (exfalso;(try dsimp only at h);omega)))
   all_goals (conv=>whnf)
   all_goals exact rOx [0,1] a0b
  |none=>
   rw [h1] at s1;cases h2:e0c q f p with
   |none=>
    have hT:c0J q f t p= .tup [Rt.z.sv,.int .i64 6]:=by unfold c0J;rw [if_neg hft,h1,h2]
    rw [h2] at s2;rw [hT];repeat' ((conv=>whnf);first|refine cOx (l:= [0,1]) s1 ?_|refine cOx (l:= [0,1]) s2 ?_|refine cOx (l:= [0,1]) s3 ?_|(refine d0K (fun h=> ?_) (fun h=> ?_)<;>try (exact absurd h hft))|refine a0a ?_|(apply bRx<;>intro h<;>try (exfalso;(try dsimp only at h);omega)))
    all_goals (conv=>whnf)
    all_goals exact rOx [0,1] a0b
   |some a=>
    have nza:=a1U (f0t h2).2.2;rw [h2] at s2;cases h3:e0c q p t with
    |none=>
     have hT:c0J q f t p= .tup [Rt.z.sv,.int .i64 6]:=by unfold c0J;rw [if_neg hft,h1,h2,h3]
     rw [h3] at s3;rw [hT];repeat' ((conv=>whnf);first|refine cOx (l:= [0,1]) s1 ?_|refine cOx (l:= [0,1]) s2 ?_|refine cOx (l:= [0,1]) s3 ?_|(refine d0K (fun h=> ?_) (fun h=> ?_)<;>try (exact absurd h hft))|(refine d0F (fun h=> ?_) (fun h=> ?_)<;>try (exfalso;exact absurd (nza.symm.trans h) (by decide)))|refine a0a ?_|(apply bRx<;>intro h<;>try (exfalso;(try dsimp only at h);omega)))
     all_goals (conv=>whnf)
     all_goals exact rOx [0,1] a0b
    |some b=>
     have hT:c0J q f t p=rT (crE a.f a.t a.n a.d b.f b.t b.n b.d) a.f b.t (pA a.n a.d b.n b.d*pC a.n a.d b.n b.d) (pB a.n a.d b.n b.d*pD a.n a.d b.n b.d):=by unfold c0J;rw [if_neg hft,h1,h2,h3]
     have nzb:=a1U (f0t h3).2.2;have c:=v0b a.f a.t a.n a.d b.f b.t b.n b.d;rw [h3] at s3;rw [hT];repeat' ((conv=>whnf);first|refine cOx (l:= [0,1]) s1 ?_|refine cOx (l:= [0,1]) s2 ?_|refine cOx (l:= [0,1]) s3 ?_|refine cGx c ?_|(refine d0K (fun h=> ?_) (fun h=> ?_)<;>try (exact absurd h hft))|(refine d0F (fun h=> ?_) (fun h=> ?_)<;>try (exfalso;first|exact absurd (nza.symm.trans h) (by decide)|exact absurd (nzb.symm.trans h) (by decide)))|refine a0a ?_|(apply bRx<;>intro h<;>try (exfalso;(try dsimp only at h);omega)))
     all_goals (conv=>whnf)
     all_goals exact rOx [0,1] a0b
theorem v0f (q:RL) (hl:q.l<=1000) (hz:∀i,(q.at i).f.size<=9223372036854775807/\(q.at i).t.size<=9223372036854775807) (f t p:ByteArray):FC Tryz.prog 2 89 [.sl 1 0 0 q.l,.str f,.str t,.str p] q.H (a0h (c0J q f t p) [] 2):=by
 have s1:=f0u q hl hz f t;have s2:=f0u q hl hz f p;have s3:=f0u q hl hz p t;refine fEx Tryz.func89 ?_;by_cases hft:f=t
 .have hT:c0J q f t p= .tup [Rt.z.sv,.int .i64 11]:=by unfold c0J;rw [if_pos hft]
  rw [hT];repeat' ((conv=>whnf);first|(refine d0K (fun h=> ?_) (fun h=> ?_)<;>try (exact absurd hft h))|refine a0a ?_|(apply bRx<;>intro h<;>try (exfalso;(try dsimp only at h);omega)))
  all_goals (conv=>whnf)
  all_goals exact rOx [0,1] a0b
 .cases h1:e0c q f t with
  |some r=>
   have hT:c0J q f t p= .tup [r.sv,.int .i64 0]:=by unfold c0J;rw [if_neg hft,h1]
   rw [h1] at s1;rw [hT];repeat' ((conv=>whnf);first|refine cOx (l:= [0,1]) s1 ?_|(refine d0K (fun h=> ?_) (fun h=> ?_)<;>try (exact absurd h hft))|refine a0a ?_|(apply bRx<;>intro h<;>try (exfalso;(try dsimp only at h);omega)))
   all_goals (conv=>whnf)
   all_goals exact rOx [0,1] a0b
  |none=>
   rw [h1] at s1;cases h2:e0c q f p with
   |none=>
    have hT:c0J q f t p= .tup [Rt.z.sv,.int .i64 6]:=by unfold c0J;rw [if_neg hft,h1,h2]
    rw [h2] at s2;rw [hT];repeat' ((conv=>whnf);first|refine cOx (l:= [0,1]) s1 ?_|refine cOx (l:= [0,1]) s2 ?_|refine cOx (l:= [0,1]) s3 ?_|(refine d0K (fun h=> ?_) (fun h=> ?_)<;>try (exact absurd h hft))|refine a0a ?_|(apply bRx<;>intro h<;>try (exfalso;(try dsimp only at h);omega)))
    all_goals (conv=>whnf)
    all_goals exact rOx [0,1] a0b
   |some a=>
    rw [h2] at s2;cases h3:e0c q p t with
    |none=>
     have hT:c0J q f t p= .tup [Rt.z.sv,.int .i64 6]:=by unfold c0J;rw [if_neg hft,h1,h2,h3]
     rw [h3] at s3;rw [hT];repeat' ((conv=>whnf);first|refine cOx (l:= [0,1]) s1 ?_|refine cOx (l:= [0,1]) s2 ?_|refine cOx (l:= [0,1]) s3 ?_|(refine d0K (fun h=> ?_) (fun h=> ?_)<;>try (exact absurd h hft))|refine a0a ?_|(apply bRx<;>intro h<;>try (exfalso;(try dsimp only at h);omega)))
     all_goals (conv=>whnf)
     all_goals exact rOx [0,1] a0b
    |some b=>
     have hT:c0J q f t p=rT (crE a.f a.t a.n a.d b.f b.t b.n b.d) a.f b.t (pA a.n a.d b.n b.d*pC a.n a.d b.n b.d) (pB a.n a.d b.n b.d*pD a.n a.d b.n b.d):=by unfold c0J;rw [if_neg hft,h1,h2,h3]
     have oka:=c0x (f0t h2).2.2;have okb:=c0x (f0t h3).2.2;have k1:=m0q oka.1;have k2:=m0q oka.2.1;have k3:=m0q okb.1;have k4:=m0q okb.2.1;have c:=r0r a.f a.t a.n a.d b.f b.t b.n b.d (by omega) (by omega) (by omega) (by omega);rw [h3] at s3;rw [hT];repeat' ((conv=>whnf);first|refine cOx (l:= [0,1]) s1 ?_|refine cOx (l:= [0,1]) s2 ?_|refine cOx (l:= [0,1]) s3 ?_|refine cPx c ?_|(refine d0K (fun h=> ?_) (fun h=> ?_)<;>try (exact absurd h hft))|refine a0a ?_|(apply bRx<;>intro h<;>try (exfalso;(try dsimp only at h);omega)))
     all_goals (conv=>whnf)
     all_goals exact rOx [0,1] a0b
end
section
attribute [local irreducible] a0q a0r a0k a0P
def fiE (q:RL) (f t p:ByteArray):Int:=
 if f=t then 11 else
 match e0c q f t with
 |some _=>0
 |none=>match e0c q f p,e0c q p t with
  |some a,some b=>crE a.f a.t a.n a.d b.f b.t b.n b.d
  |_,_=>6
def fiR (q:RL) (f t p:ByteArray):Rt:=
 match e0c q f t with
 |some r=>r
 |none=>match e0c q f p,e0c q p t with
  |some a,some b=>⟨a.f,b.t,pA a.n a.d b.n b.d*pC a.n a.d b.n b.d,pB a.n a.d b.n b.d*pD a.n a.d b.n b.d⟩
  |_,_=>Rt.z
theorem t0j {q:RL} {f t p:ByteArray} (h:fiE q f t p=0):c0J q f t p= .tup [(fiR q f t p).sv,.int .i64 0]:=by
 unfold fiE at h;unfold c0J fiR;by_cases e:f=t
 .rw [if_pos e] at h;cases h
 .rw [if_neg e] at h⊢;cases h1:e0c q f t with
  |some r=>rfl
  |none=>
   rw [h1] at h;cases h2:e0c q f p with
   |none=>rw [h2] at h;cases h
   |some a=>
    cases h3:e0c q p t with
    |none=>rw [h2,h3] at h;cases h
    |some b=>
     rw [h2,h3] at h;dsimp only at h⊢;rw [h,r0q];rfl
theorem p0M {q:RL} {f t p:ByteArray} (h:fiE q f t p≠0):c0J q f t p= .tup [Rt.z.sv,.int .i64 (fiE q f t p)]:=by
 unfold fiE at h⊢;unfold c0J;by_cases e:f=t
 .rw [if_pos e,if_pos e]
 .rw [if_neg e] at h⊢;rw [if_neg e];cases h1:e0c q f t with
  |some r=>rw [h1] at h;exact absurd rfl h
  |none=>
   rw [h1] at h;cases h2:e0c q f p with
   |none=>rfl
   |some a=>
    cases h3:e0c q p t with
    |none=>rfl
    |some b=>
     rw [h2,h3] at h;dsimp only at h⊢;rw [e0V h];rfl
theorem c1A {q:RL} {f t p:ByteArray} (h:fiE q f t p=0):0<=(fiR q f t p).n/\(fiR q f t p).n<=1099511627776/\(fiR q f t p).f=f/\(fiR q f t p).t=t:=by
 unfold fiE at h;unfold fiR;by_cases e:f=t
 .rw [if_pos e] at h;cases h
 .rw [if_neg e] at h;cases h1:e0c q f t with
  |some r=>
   have:=f0t h1;have h2:=this.2.2;unfold d0D at h2;refine ⟨?_,?_,this.1,this.2.1⟩<;>(dsimp only;split at h2<;>first|omega|(split at h2<;>omega))
  |none=>
   rw [h1] at h;cases h2:e0c q f p with
   |none=>rw [h2] at h;cases h
   |some a=>
    cases h3:e0c q p t with
    |none=>rw [h2,h3] at h;cases h
    |some b=>
     rw [h2,h3] at h;dsimp only at h⊢;have ha:=f0t h2;have hb:=f0t h3;have ka:=ha.2.2;have kb:=hb.2.2;unfold crE at h;rw [if_neg (by rw [ka];simp),if_neg (by rw [kb];simp)] at h;split at h
     .cases h
     .have hp:1<=a.n/\1<=a.d:=by
       unfold d0D at ka;split at ka
       .cases ka
       .split at ka
        .cases ka
        .omega
      have hq:1<=b.n/\1<=b.d:=by
       unfold d0D at kb;split at kb
       .cases kb
       .split at kb
        .cases kb
        .omega
      have:=x0d hp.1 hp.2 hq.1 hq.2 h;exact ⟨this.2.1,this.1,ha.1,hb.2.1⟩
def h0v (r:List Int):Nat->Int
 |0=>0
 |k+1=>if 0<r.getD k 0 then h0v r k+r.getD k 0 else h0v r k
theorem x0m {r:List Int} (hr:∀j,r.getD j 0<=4503599627370496):∀k,0<=h0v r k/\h0v r k<=4503599627370496*(k:Int)
 |0=>by simp [h0v]
 |k+1=>by
  have ih:=x0m hr k;have:=hr k;simp only [h0v];split<;>omega
abbrev cwA (q:RL) (r:List Int) (f t p:ByteArray):Nat:=(m0i (h0v r 16) (fiR q f t p).n (fiR q f t p).d 4).toNat
abbrev cwC (q:RL) (r:List Int) (f t p:ByteArray):Int:=cvE (h0v r 16) f (fiR q f t p).f (fiR q f t p).t (fiR q f t p).n (fiR q f t p).d 4
def cwE (q:RL) (r:List Int) (f t p:ByteArray):Int:=
 if fiE q f t p≠0 then fiE q f t p
 else if cwC q r f t p≠0 then cwC q r f t p
 else if dvE (cwA q r f t p) t r 1≠0 then dvE (cwA q r f t p) t r 1
 else dvE (cwA q r f t p) t r (-1)
def cwR (q:RL) (r:List Int) (f t p:ByteArray):List Int:=dvR (dvR z16 (cwA q r f t p) r 1) (cwA q r f t p) r (-1)
def cwT (q:RL) (r:List Int) (f t p:ByteArray):SV:= .tup [.arr 16 [.ints .i64 (if cwE q r f t p=0 then cwR q r f t p else z16)],.int .i64 (cwE q r f t p)]
theorem n0Q {q:RL} {r:List Int} {f t p:ByteArray} {e:Int} (h:cwE q r f t p=e) (he:e≠0):cwT q r f t p= .tup [.arr 16 [.ints .i64 z16],.int .i64 e]:=by
 unfold cwT;rw [h,if_neg he]
theorem c1B {q:RL} {r:List Int} {f t p:ByteArray} (h:cwE q r f t p=0):cwT q r f t p= .tup [.arr 16 [.ints .i64 (cwR q r f t p)],.int .i64 0]:=by
 unfold cwT;rw [h,if_pos rfl]
theorem x0n (row:List Int) (A:Nat) (r:List Int) (s:Int):(dvR row A r s).length=row.length:=i0f _ _ _ _ _
theorem x0o {a n d mode:Int} (ha:0<=a) (hn:0<=n):0<=m0i a n d mode:=by
 unfold m0i;rw [decide_eq_false (by omega),decide_eq_false (by omega),if_pos rfl];exact i1i _
theorem c1C {a:Int} {c f t:ByteArray} {n d mode:Int} (h:cvE a c f t n d mode=0):e0U a c n d mode=0:=by
 unfold cvE at h;split at h
 .contradiction
 .split at h
  .contradiction
  .split at h
   .cases h
   .exact h
theorem x0p {a:Int} {c:ByteArray} {n d mode:Int} (ha:0<=a) (hn:0<=n) (h:e0U a c n d mode=0):m0i a n d mode<=4503599627370496:=by
 unfold e0U at h;unfold m0i;rw [decide_eq_false (by omega),decide_eq_false (by omega),if_pos rfl];split at h
 .contradiction
 .split at h
  .cases h
  .split at h
   .cases h
   .omega
def cwK (A:Nat) (r:List Int):Nat->List Int
 |0=>z16
 |1=>dvR z16 A r 1
 |_=>dvR (dvR z16 A r 1) A r (-1)
theorem l0s (q:RL) (hl:q.l<=1000) (r:List Int) (f t p:ByteArray) (hr:∀j,-4503599627370496<=r.getD j 0/\r.getD j 0<=4503599627370496):
  FC Tryz.prog 2 76 [.arr 16 [.ints .i64 r],.sl 1 0 0 q.l,.str f,.str t,.str p] q.H (a0h (cwT q r f t p) [] 2):=by
 have c1:=x0l q hl f t p;have htb:=x0m (fun j=>(hr j).2);refine fEx Tryz.func76 ?_;repeat' ((conv=>whnf);first|refine a0a ?_|(apply bRx<;>intro h<;>try (exfalso;(try dsimp only at h);omega)))
 all_goals (conv=>whnf)
 refine a0f (fun k:Nat=>⟨[(1,.sl 1 0 0 q.l),(2,.str f),(3,.str t),(4,.str p),(5,.ptr 2 0 0 0),(10,.ptr 3 0 0 0),(12,.ptr 4 0 0 0),(24,.arr 16 [.ints .i64 r]),(25,.int .i64 k)],(2,some (.one false (.cols 16 [.sc (.ints .i64 r)])))::(3,some (.one false (.cols 16 [.sc (.ints .i64 z16)])))::(4,some (.one false (.cells [.int .i64 (h0v r k),.str f])))::q.H,5⟩) (fun k=>k<=16) (fun k=>16-k) 0 [0,1,2,3,4] [] wHx (w0F _) ?_;intro k hk;have hb:=htb k;by_cases hk2:k<16
 .have hrk:=hr k;by_cases g:0<r.getD k 0
  .have e1:IntKind.i64.wrap (h0v r k+r.getD k 0)=h0v r (k+1):=by simp only [h0v];rw [if_pos g];exact a0m (by omega) (by omega)
   repeat' ((conv=>whnf);first|refine a0a ?_|(apply bRx<;>intro h<;>try (exfalso;(try dsimp only at h);omega)))
   all_goals (conv=>whnf)
   all_goals (try simp only [a0u,p0F,w0G,e1] at*)
   all_goals first
    |exact ⟨k+1,[0,1,2,3,4],[],hk2,(show 16-(k+1)<16-k by omega),⟨rfl,⟨rfl,rfl,rfl,rfl,rfl,rfl,rfl,rfl,congrArg (fun z=>some (SV.int .i64 z)) (a0e (by omega)),trivial⟩,⟨rfl,rfl,rfl,gwk rfl,rfl,trivial⟩⟩⟩
    |(exfalso;omega)
    |trace_state
  .have e1:h0v r (k+1)=h0v r k:=by simp only [h0v];rw [if_neg g]
   have b1:(some (HB.one false (.cells [.int .i64 (h0v r k),.str f])):Option HB)=some (.one false (.cells [.int .i64 (h0v r (k+1)),.str f])):=by rw [e1]
   repeat' ((conv=>whnf);first|refine a0a ?_|(apply bRx<;>intro h<;>try (exfalso;(try dsimp only at h);omega)))
   all_goals (conv=>whnf)
   all_goals (try simp only [a0u,p0F,w0G] at*)
   all_goals first
    |exact ⟨k+1,[0,1,2,3,4],[],hk2,(show 16-(k+1)<16-k by omega),⟨rfl,⟨rfl,rfl,rfl,rfl,rfl,rfl,rfl,rfl,congrArg (fun z=>some (SV.int .i64 z)) (a0e (by omega)),trivial⟩,⟨rfl,rfl,b1,gwk rfl,rfl,trivial⟩⟩⟩
    |(exfalso;omega)
    |trace_state
 have ek:k=16:=by omega
 subst ek;by_cases h1:fiE q f t p=0
 case neg=>
  rw [p0M h1] at c1;rw [n0Q (e:=fiE q f t p) (by unfold cwE;rw [if_pos h1]) h1];repeat' ((conv=>whnf);first|refine cOx (l:= [0,1]) c1 ?_|refine a0a ?_|(apply bRx<;>intro h<;>try (exfalso;(try dsimp only at h);omega)))
  all_goals (conv=>whnf)
  all_goals first
   |exact rOx [0,1] a0b
   |(exfalso;omega)
   |trace_state
 have hR:=c1A h1;rw [t0j h1] at c1;have c2:=p0E (h0v r 16) f (fiR q f t p).f (fiR q f t p).t (fiR q f t p).n (fiR q f t p).d 4 (by omega) (by omega);have e2:cwE q r f t p=if cwC q r f t p≠0 then cwC q r f t p else if dvE (cwA q r f t p) t r 1≠0 then dvE (cwA q r f t p) t r 1 else dvE (cwA q r f t p) t r (-1):=by unfold cwE;rw [if_neg (by simpa using h1)]
 by_cases h2:cwC q r f t p=0
 case neg=>
  rw [d0Y (e:=cwC q r f t p) rfl h2] at c2;rw [n0Q (e:=cwC q r f t p) (by rw [e2,if_pos h2]) h2];repeat' ((conv=>whnf);first|refine cOx (l:= [0,1]) c1 ?_|refine cGx c2 ?_|refine a0a ?_|(apply bRx<;>intro h<;>try (exfalso;(try dsimp only at h);omega)))
  all_goals (conv=>whnf)
  all_goals first
   |exact rOx [0,1] a0b
   |(exfalso;omega)
   |trace_state
 rw [if_neg (by simpa using h2)] at e2;have hA:=x0o (d:=(fiR q f t p).d) (mode:=4) hb.1 hR.1;have eA:m0i (h0v r 16) (fiR q f t p).n (fiR q f t p).d 4=((cwA q r f t p:Nat):Int):=(l1A hA).symm;have eT:cvT (h0v r 16) f (fiR q f t p).f (fiR q f t p).t (fiR q f t p).n (fiR q f t p).d 4= .tup [.agg [.int .i64 ((cwA q r f t p:Nat):Int),.str t],.int .i64 0]:=by rw [t0b h2,eA,hR.2.2.2]
 rw [eT] at c2;have hA2:=x0p (d:=(fiR q f t p).d) (mode:=4) hb.1 hR.1 (c1C h2);have hA3:cwA q r f t p<=9223372036854775807:=by omega
 have eR:cwR q r f t p=dvR (dvR z16 (cwA q r f t p) r 1) (cwA q r f t p) r (-1):=rfl;have hcR:cwE q r f t p=0->cwT q r f t p= .tup [.arr 16 [.ints .i64 (dvR (dvR z16 (cwA q r f t p) r 1) (cwA q r f t p) r (-1))],.int .i64 0]:=fun h=>c1B h
 have hcE:=fun (e:Int)=>n0Q (q:=q) (r:=r) (f:=f) (t:=t) (p:=p) (e:=e)
 generalize cwA q r f t p=A at*;clear eA hA hA2 h2 h1 eR eT;generalize cwT q r f t p=X at*;generalize cwE q r f t p=E at*;repeat' ((conv=>whnf);first|refine cOx (l:= [0,1]) c1 ?_|refine cGx c2 ?_|refine a0a ?_|(apply bRx<;>intro h<;>try (exfalso;(try dsimp only at h);omega)))
 all_goals (conv=>whnf)
 all_goals first
  |(exfalso;omega)
  |skip
 refine a0f (fun k:Nat=>⟨[(5,.ptr 2 0 0 0),(10,.ptr 3 0 0 0),(17,.ptr 4 0 0 0),(18,.ptr 5 0 0 0),(58,.arr 2 [.ints .i64 [1,-1]]),(59,.int .i64 k)],(2,some (.one false (.cols 16 [.sc (.ints .i64 r)])))::(3,some (.one false (.cols 16 [.sc (.ints .i64 z16)])))::(4,some (.one false (.cells [.int .i64 A,.str t])))::(5,some (.one false (.cols 16 [.sc (.ints .i64 (cwK A r k))])))::q.H,6⟩) (fun k=>k<=2/\(1<=k->dvE A t r 1=0)/\(2<=k->dvE A t r (-1)=0)) (fun k=>2-k) 0 [0,1,2,3,6,7] [] wHx ⟨w0F _,fun h=>absurd h (by decide),fun h=>absurd h (by decide)⟩ ?_;rintro k ⟨hk,i1,i2⟩
 match k,hk,i1,i2 with
 |0,_,_,_=>
  have cd:=m0o z16 A t r 1 hA3 (by decide) (.inl rfl) hr;unfold dvO at cd;by_cases g:dvE A t r 1=0
  .rw [if_pos g,g] at cd;repeat' ((conv=>whnf);first|refine cOx (l:= [0,5]) cd ?_|refine a0a ?_|(apply bRx<;>intro h<;>try (exfalso;(try dsimp only at h);omega)))
   all_goals (conv=>whnf)
   all_goals first
    |exact ⟨1,[0,1,2,3,4,5],[],⟨by decide,fun _=>g,fun h=>absurd h (by decide)⟩,by decide,⟨rfl,⟨rfl,rfl,rfl,rfl,rfl,rfl,trivial⟩,⟨rfl,rfl,rfl,rfl,gwk rfl,rfl,trivial⟩⟩⟩
    |(exfalso;omega)
    |trace_state
  .rw [if_neg g] at cd;rw [if_pos g] at e2;rw [hcE _ e2 g];repeat' ((conv=>whnf);first|refine cOx (l:= [0,5]) cd ?_|refine a0a ?_|(apply bRx<;>intro h<;>try (exfalso;(try dsimp only at h);omega)))
   all_goals (conv=>whnf)
   all_goals first
    |exact rOx [0,1] a0b
    |(exfalso;omega)
    |trace_state
 |1,_,i1,_=>
  have g1:=i1 (by decide);rw [if_neg (by simpa using g1)] at e2;have cd:=m0o (dvR z16 A r 1) A t r (-1) hA3 (by rw [x0n];rfl) (.inr rfl) hr;unfold dvO at cd;by_cases g:dvE A t r (-1)=0
  .rw [if_pos g,g] at cd;repeat' ((conv=>whnf);first|refine cOx (l:= [0,5]) cd ?_|refine a0a ?_|(apply bRx<;>intro h<;>try (exfalso;(try dsimp only at h);omega)))
   all_goals (conv=>whnf)
   all_goals first
    |exact ⟨2,[0,1,2,3,4,5],[],⟨by decide,fun _=>g1,fun _=>g⟩,by decide,⟨rfl,⟨rfl,rfl,rfl,rfl,rfl,rfl,trivial⟩,⟨rfl,rfl,rfl,rfl,gwk rfl,rfl,trivial⟩⟩⟩
    |(exfalso;omega)
    |trace_state
  .rw [if_neg g] at cd;rw [hcE _ e2 g];repeat' ((conv=>whnf);first|refine cOx (l:= [0,5]) cd ?_|refine a0a ?_|(apply bRx<;>intro h<;>try (exfalso;(try dsimp only at h);omega)))
   all_goals (conv=>whnf)
   all_goals first
    |exact rOx [0,1] a0b
    |(exfalso;omega)
    |trace_state
 |2,_,i1,i2=>
  rw [if_neg (by simpa using i1 (by decide)),i2 (by decide)] at e2;rw [hcR e2];repeat' ((conv=>whnf);first|refine a0a ?_|(apply bRx<;>intro h<;>try (exfalso;(try dsimp only at h);omega)))
  all_goals (conv=>whnf)
  all_goals first
   |exact rOx [0,1] a0b
   |(exfalso;omega)
   |trace_state
end
section
attribute [local irreducible] a0q a0r a0k a0P
def exA (SS:List Int):Blk:= .cols 16 [.sc (.ints .i64 (SS.map exH)),.sc (.ints .u64 (SS.map exL))]
theorem c1D (SS:List Int) (i:Nat) (S:Int) (h:SS.getD i 0=S):(SS.map exH).getD i 0=exH S/\(SS.map exL).getD i 0=exL S:=by
 subst h;rw [List.getD,List.getD,List.getD,a1u,a1u];cases SS[i]? with
 |none=>exact ⟨rfl,rfl⟩
 |some x=>exact ⟨rfl,rfl⟩
theorem x0q (SS:List Int) (i:Nat) (hi:i<16) (S n:Int) (hSS:SS.getD i 0=S) (hS:okS S) (h1: -9223372036854775808<=n) (h2:n<=9223372036854775807):FC Tryz.prog 2 77 [.ptr 1 0 i 0,.int .i64 n] [(1,some (.one false (exA SS)))] (a0h (.tup []) [(1,some (.one false (exA (SS.set i (S+n)))))] 2):=by
 have hu:=g1o h1 h2;have hs:=c1o n h1 h2;obtain ⟨e1,e2,e3⟩:=g1n S;have hb:=c1n hS;obtain ⟨x,hx⟩:=j1F e2;obtain ⟨y,hy⟩:∃y:Nat,IntKind.u64.wrap n=(y:Int):=j1F (by rw [hu];split<;>omega);have c1:=u0V x y;have hy2:(y:Int)=if n<0 then n+18446744073709551616 else n:=by rw [<-hy,hu]
 have hc:IntKind.i64.wrap (((x+y)/18446744073709551616:Nat):Int)=(((x+y)/18446744073709551616:Nat):Int):=a0m (by omega) (by split at hy2<;>omega);obtain ⟨q1,q2⟩:=d1U (S:=S+n) (h:=exH S+((if n<0 then-1 else 0)+(((x+y)/18446744073709551616:Nat):Int))) (l:=(((x+y)%18446744073709551616:Nat):Int)) (by split at hy2<;>rename_i q<;>simp only [q,if_true,if_false]<;>omega) (by omega) (by omega);obtain ⟨hH,hL⟩:=c1D SS i S hSS;rw [hx] at hL;unfold exA;rw [l1g,l1g,q1,q2];generalize SS.map exH=hs' at*;generalize SS.map exL=ls' at*;generalize exH S=H at*;rw [<-hy,<-hL] at c1;refine fEx Tryz.func77 ?_;repeat' ((conv=>whnf);first|refine cPx c1 ?_|refine a0a ?_|(apply bRx<;>intro h<;>try (exfalso;(try dsimp only at h);omega)))
 all_goals (conv=>whnf)
 have e9:IntKind.i64.wrap (H+IntKind.i64.wrap (g0H .i64 n 63+IntKind.i64.wrap (((x+y)/18446744073709551616:Nat):Int)))=H+((if n<0 then-1 else 0)+(((x+y)/18446744073709551616:Nat):Int)):=by
  rw [hs,hc];have hy3:y<18446744073709551616:=by split at hy2<;>omega
  have ht:(if n<0 then (-1:Int) else 0)= -1\/(if n<0 then (-1:Int) else 0)=0:=by split;exact .inl rfl;exact .inr rfl
  generalize (if n<0 then (-1:Int) else 0)=t at*;have hx3:x<18446744073709551616:=by omega
  have hq:(x+y)/18446744073709551616<=1:=by omega
  generalize (x+y)/18446744073709551616=c at*;rw [a0m (n:=t+(c:Int)) (by omega) (by omega),a0m (by omega) (by omega)]
 have hr:(some (HB.one false (.cols 16 [.sc (.ints .i64 (hs'.set i (IntKind.i64.wrap (hs'.getD i 0+IntKind.i64.wrap (g0H .i64 n 63+IntKind.i64.wrap (((x+y)/18446744073709551616:Nat):Int)))))),.sc (.ints .u64 (ls'.set i (((x+y)%18446744073709551616:Nat):Int)))])):Option HB)=some (.one false (.cols 16 [.sc (.ints .i64 (hs'.set i (H+((if n<0 then-1 else 0)+(((x+y)/18446744073709551616:Nat):Int))))),.sc (.ints .u64 (ls'.set i (((x+y)%18446744073709551616:Nat):Int)))])):=by rw [hH,e9]
 all_goals exact c0S (l:= [0,1]) rfl rfl ⟨hr,trivial⟩ (a0d a0b)
theorem r0z (SS:List Int) (i:Nat) (hi:i<16) (S l:Int) (hSS:SS.getD i 0=S) (hS:okS S) (h1:0<=l) (h2:l<=4611686018427387904):FC Tryz.prog 2 78 [.ptr 1 0 i 0,.int .i64 l] [(1,some (.one true (exA SS)))] (a0h (.int .i64 (i0H S l)) [] 2):=by
 obtain ⟨e1,e2,e3⟩:=g1n S;have hb:=c1n hS;have hz:=g1p e2 e3;have hsh:=c1o (IntKind.i64.wrap (exL S)) (by rw [hz];split<;>omega) (by rw [hz];split<;>omega);have hn:IntKind.i64.wrap (0-l)= -l:=by rw [a0m (by omega) (by omega)];omega
 obtain ⟨hH,hL⟩:=c1D SS i S hSS;unfold exA;generalize SS.map exH=hs' at*;generalize SS.map exL=ls' at*;generalize exH S=H at*;generalize exL S=L at*;refine fEx Tryz.func78 ?_;repeat' ((conv=>whnf);first|refine a0a ?_|(apply bRx<;>intro h<;>try (exfalso;(try dsimp only at h);omega)))
 all_goals (conv=>whnf)
 all_goals (try dsimp only at*)
 all_goals simp only [hn,hH,hL] at*
 all_goals first
  |(refine c0S (l:= [0,1]) (r0:= .int .i64 (i0H S l)) rfl ?_ trivial a0b
    refine congrArg (SV.int .i64) ?_;unfold i0H;split at hz<;>split at hsh<;>split<;>(try split)<;>omega)
  |(exfalso;split at hz<;>split at hsh<;>omega)
  |trace_state
end
section
attribute [local irreducible] a0q a0r a0k a0P
def r0A (SS r:List Int):Nat->List Int
 |0=>SS
 |i+1=>(r0A SS r i).set i (SS.getD i 0+r.getD i 0)
theorem n0R (SS r:List Int):∀i,(r0A SS r i).length=SS.length
 |0=>rfl
 |i+1=>by simp only [r0A,j1B];exact n0R SS r i
theorem h0w {SS r:List Int} {n:Nat} (hl:SS.length=n):∀i j,i<=n->(r0A SS r i).getD j 0=if j<i then SS.getD j 0+r.getD j 0 else SS.getD j 0
 |0,j,_=>by rw [if_neg (by omega)];rfl
 |i+1,j,h=>by
  have ih:=h0w (r:=r) hl i j (by omega);simp only [r0A];rw [b0j _ _ _ _ (by rw [n0R];omega)];by_cases e:j=i
  .subst e;rw [if_pos rfl,if_pos (by omega)]
  .rw [if_neg e,ih];by_cases e2:j<i
   .rw [if_pos e2,if_pos (by omega)]
   .rw [if_neg e2,if_neg (by omega)]
def cvR (q:RL) (b:Bk) (t p c:ByteArray):List Int:=if c=t then b.row c else cwR q (b.row c) c t p
def t0k (q:RL) (b:Bk) (cs:List ByteArray) (t p:ByteArray):Nat->Int
 |0=>0
 |k+1=>if t0k q b cs t p k≠0 then t0k q b cs t p k else if cs.getD k ⟨#[]⟩=t then 0 else cwE q (b.row (cs.getD k ⟨#[]⟩)) (cs.getD k ⟨#[]⟩) t p
def f0O (q:RL) (b:Bk) (cs:List ByteArray) (t p:ByteArray):Nat->List Int
 |0=>z16
 |k+1=>r0A (f0O q b cs t p k) (cvR q b t p (cs.getD k ⟨#[]⟩)) 16
theorem k0G {q:RL} {b:Bk} {cs:List ByteArray} {t p:ByteArray} {k:Nat} {e:Int} (h0:t0k q b cs t p k=0) (h1:cs.getD k ⟨#[]⟩≠t) (h2:cwE q (b.row (cs.getD k ⟨#[]⟩)) (cs.getD k ⟨#[]⟩) t p=e) (he:e≠0):∀n,k<n->t0k q b cs t p n=e
 |0,h=>by omega
 |n+1,h=>by
  simp only [t0k];by_cases g:k=n
  .subst g;rw [if_neg (by omega),if_neg h1,h2]
  .rw [k0G h0 h1 h2 he n (by omega),if_pos he]
theorem j0l (q:RL) (b:Bk) (cs:List ByteArray) (t p:ByteArray):∀k,(f0O q b cs t p k).length=16
 |0=>rfl
 |k+1=>by simp only [f0O];rw [n0R];exact j0l q b cs t p k
def t0l (SS:List Int):Nat->Bool
 |0=>true
 |i+1=>t0l SS i&&f0n (SS.getD i 0)
theorem p0N {SS:List Int} {i:Nat} (h:f0n (SS.getD i 0)=false):∀n,i<n->t0l SS n=false
 |0,q=>by omega
 |n+1,q=>by
  simp only [t0l];by_cases e:i=n
  .subst e;rw [h,k1L]
  .rw [p0N h n (by omega),j1I]
theorem p0O {S:Int} (h:f0n S=true):i0H S 4611686018427387904=S:=by
 rw [m0l] at h;unfold i0H;rw [if_neg (by omega),if_neg (by omega)]
theorem r0B {S:Int} (h:f0n S=false):f0n (i0H S 4611686018427387904)=false:=by
 rw [w0T] at h⊢;unfold i0H;split
 .omega
 .split<;>omega
theorem c1E {row pl P:List Int} {s B:Int} (hs:s=1\/s= -1) (hr:∀j,-B<=row.getD j 0/\row.getD j 0<=B) (hP:∀j,0<=P.getD j 0/\P.getD j 0<=B):∀k j,-B<=(dvK row pl P s k).getD j 0/\(dvK row pl P s k).getD j 0<=B
 |0,j=>hr j
 |k+1,j=>by
  have ih:=c1E (pl:=pl) hs hr hP k;simp only [dvK];by_cases e:(pl.getD k 0).toNat<(dvK row pl P s k).length
  .rw [b0j _ _ _ _ e];split
   .have:=hP k;rcases hs with e|e<;>rw [e]<;>omega
   .exact ih j
  .rw [List.set_eq_of_length_le (by omega)];exact ih j
theorem c1F {row r:List Int} {A:Nat} {s B:Int} (hs:s=1\/s= -1) (hr:∀j,-B<=row.getD j 0/\row.getD j 0<=B) (hA:(A:Int)+16<=B) (j:Nat): -B<=(dvR row A r s).getD j 0/\(dvR row A r s).getD j 0<=B:=by
 unfold dvR;refine c1E hs hr (fun j=> ?_) _ j;have hW:∃M,∀j,r.getD j 0*s<=M:=by
  have:∀l:List Int,∃M,0<=M/\∀j,l.getD j 0*s<=M:=by
   intro l;induction l with
   |nil=>exact ⟨0,j1T _,fun j=>by simp⟩
   |cons x l ih=>
    obtain ⟨M,h0,h⟩:=ih;refine ⟨max M (x*s),by omega,fun j=> ?_⟩;cases j with
    |zero=>rw [l1B];omega
    |succ j=>rw [j1n];have:=h j;omega
  obtain ⟨M,_,h⟩:=this r;exact ⟨M,h⟩
 obtain ⟨M,hM⟩:=hW;have hl:=t0a r s 16;have:=x0b (A:=A) (ws:=wtK r s 16) (n:=dvN r s) (fun i hi=>(w0Z hM 16 i hi).1) j;unfold dvN at this⊢;omega
theorem g1A {A:Nat} {c:ByteArray} {r:List Int} {s:Int} (h:dvE A c r s=0):A<=4503599627370496:=x0a h
theorem b0Y (j:Nat):z16.getD j 0=0:=by
 rw [List.getD,l1G];split<;>rfl
theorem x0r {q:RL} {r:List Int} {f t p:ByteArray} (h:cwE q r f t p=0) (j:Nat): -9007199254740992<=(cwR q r f t p).getD j 0/\(cwR q r f t p).getD j 0<=9007199254740992:=by
 unfold cwE at h;split at h
 .contradiction
 .split at h
  .contradiction
  .split at h
   .contradiction
   .have hA:=g1A h;unfold cwR;exact c1F (.inr rfl) (fun j=>c1F (.inl rfl) (fun j=>by rw [b0Y];omega) (by omega) j) (by omega) j
theorem r0C {q:RL} {b:Bk} {cs:List ByteArray} {t p:ByteArray} (hb:∀i j,-4503599627370496<=(b.vs.getD i z16).getD j 0/\(b.vs.getD i z16).getD j 0<=4503599627370496):∀k,t0k q b cs t p k=0->∀j,-9007199254740992*(k:Int)<=(f0O q b cs t p k).getD j 0/\(f0O q b cs t p k).getD j 0<=9007199254740992*(k:Int)
 |0,_,j=>by simp only [f0O];rw [b0Y];omega
 |k+1,h,j=>by
  simp only [t0k] at h;by_cases h0:t0k q b cs t p k=0
  case neg=>rw [if_pos h0] at h;exact absurd h h0
  rw [if_neg (by simpa using h0)] at h;have ih:=r0C hb k h0 j;simp only [f0O];rw [h0w (j0l q b cs t p k) _ _ (n0q _)];have hR: -9007199254740992<=(cvR q b t p (cs.getD k ⟨#[]⟩)).getD j 0/\(cvR q b t p (cs.getD k ⟨#[]⟩)).getD j 0<=9007199254740992:=by
   unfold cvR;by_cases g:cs.getD k ⟨#[]⟩=t
   .rw [if_pos g];have:=hb (a0o b.cs (cs.getD k ⟨#[]⟩)) j;unfold Bk.row;omega
   .rw [if_neg g] at h⊢;exact x0r h j
  split<;>omega
abbrev Bk.cvS (b:Bk) (q:RL) (t p:ByteArray):List Int:=f0O q b (sortS b.cs) t p b.m
abbrev Bk.cvX (b:Bk) (q:RL) (t p:ByteArray):Int:=t0k q b (sortS b.cs) t p b.m
def Bk.cvE (b:Bk) (q:RL) (t p:ByteArray):Int:=if d0M t=false then 11 else if b.cvX q t p≠0 then b.cvX q t p else if t0l (b.cvS q t p) b.n=true then 0 else 4
def Bk.cvL (b:Bk) (q:RL) (t p:ByteArray):List Px:=liR (b.cvS q t p) b.ps t b.n
def i0V (b:Bk) (q:RL) (t p:ByteArray):SV->a0j->Nat->Prop:=
 if b.cvE q t p≠0 then a0h (.tup [.nsl,.int .i64 (b.cvE q t p)]) [] 5 else a0h (.tup [.sl 5 0 0 (b.cvL q t p).length,.int .i64 0]) [(5,some (.one false (pxB (b.cvL q t p).length (a0y (b.cvL q t p)))))] 6
abbrev cvH (b:Bk) (q:RL):a0j:=(0,some (GB glT))::(4,some (.one true (.cols q.l [.sc (.strs q.f),.sc (.strs q.t),.sc (.ints .i64 q.n),.sc (.ints .i64 q.d)])))::bkR b
theorem i1s:exA z16= .cols 16 [.sc (.ints .i64 z16),.sc (.ints .u64 z16)]:=by unfold exA;simp [exH,exL];rfl
set_option maxHeartbeats 3200000 in
theorem r0D (b:Bk) (hb:b.Ok) (hc:b.Cok) (q:RL) (hq:q.l<=1000) (t p:ByteArray):
  FC Tryz.prog 5 50 [.ptr 1 0 0 0,.sl 4 0 0 q.l,.str t,.str p] (cvH b q) (i0V b q t p):=by
 have hn:=hb.n;have hm:=hc.m;have c1:=l0m t;have c2:=g0c b hc;unfold i0V;cases ht:d0M t with
 |false=>
  rw [ht] at c1;have e:b.cvE q t p=11:=by unfold Bk.cvE;rw [if_pos ht]
  rw [e,if_pos (by decide)];refine fEx Tryz.func50 ?_;repeat' ((conv=>whnf);first|refine cPx c1 ?_|refine a0a ?_|(apply bRx<;>intro h<;>try (exfalso;(try dsimp only at h);omega)))
  all_goals (conv=>whnf)
  all_goals first
   |exact rOx [0,1,2,3,4] a0b
   |(exfalso;omega)
   |trace_state
 |true=>
 rw [ht] at c1;have e0:b.cvE q t p=if b.cvX q t p≠0 then b.cvX q t p else if t0l (b.cvS q t p) b.n=true then 0 else 4:=by unfold Bk.cvE;rw [if_neg (by rw [ht];simp)]
 have hSbd:=r0C (q:=q) (cs:=sortS b.cs) (t:=t) (p:=p) hb.bd;have hSlen:=j0l q b (sortS b.cs) t p;refine fEx Tryz.func50 ?_;repeat' ((conv=>whnf);first|refine cPx c1 ?_|refine cOx (l:= [0,1,2,3]) c2 ?_|refine a0a ?_|(apply bRx<;>intro h<;>try (exfalso;(try dsimp only at h);omega)))
 all_goals (conv=>whnf)
 refine a0f (fun k:Nat=>⟨[(0,.ptr 1 0 0 0),(1,.sl 4 0 0 q.l),(2,.str t),(3,.str p),(10,.ptr 5 0 0 0),(28,.sl 6 0 0 b.m),(29,.int .i64 b.m),(30,.int .i64 k)],(5,some (.one false (exA (f0O q b (sortS b.cs) t p k))))::(6,some (.one false (.cols b.m [.sc (.strs (sortS b.cs))])))::cvH b q,7⟩) (fun k=>k<=b.m/\t0k q b (sortS b.cs) t p k=0) (fun k=>b.m-k) 0 [0,1,2,3,4,5,6] [] ⟨rfl,⟨rfl,rfl,rfl,rfl,rfl,rfl,rfl,rfl,trivial⟩,⟨congrArg (fun x=>some (HB.one false x)) i1s.symm,rfl,gwk rfl,rfl,rfl,rfl,rfl,trivial⟩⟩ ⟨w0F _,rfl⟩ ?_;rintro k ⟨hk,hE⟩;by_cases hk2:k<b.m
 .have hr:=hb.bd (a0o b.cs ((sortS b.cs).getD k ⟨#[]⟩));have hSk:=hSbd k hE;have hSl:=hSlen k;have hE2:t0k q b (sortS b.cs) t p (k+1)=if (sortS b.cs).getD k ⟨#[]⟩=t then 0 else cwE q (b.row ((sortS b.cs).getD k ⟨#[]⟩)) ((sortS b.cs).getD k ⟨#[]⟩) t p:=by simp only [t0k];rw [if_neg (by simpa using hE)]
  have hS2:f0O q b (sortS b.cs) t p (k+1)=r0A (f0O q b (sortS b.cs) t p k) (cvR q b t p ((sortS b.cs).getD k ⟨#[]⟩)) 16:=rfl;have hstop:= @k0G q b (sortS b.cs) t p k;have cw:=l0s q hq (b.row ((sortS b.cs).getD k ⟨#[]⟩)) ((sortS b.cs).getD k ⟨#[]⟩) t p hr;by_cases g:(sortS b.cs).getD k ⟨#[]⟩=t
  .rw [if_pos g] at hE2;have hR:cvR q b t p ((sortS b.cs).getD k ⟨#[]⟩)=b.row ((sortS b.cs).getD k ⟨#[]⟩):=if_pos g;have hRb:∀j,-9007199254740992<=(b.row ((sortS b.cs).getD k ⟨#[]⟩)).getD j 0/\(b.row ((sortS b.cs).getD k ⟨#[]⟩)).getD j 0<=9007199254740992:=fun j=>by have:=hr j;unfold Bk.row;omega
   rw [hR] at hS2;repeat' ((conv=>whnf);first|refine a0a ?_|(apply bRx<;>intro h<;>try (exfalso;(try dsimp only at h);omega)))
   all_goals (conv=>whnf)
   all_goals first
    |(exfalso;omega)
    |contradiction
    |skip
   refine a0f (fun i:Nat=>⟨[(0,.ptr 1 0 0 0),(1,.sl 4 0 0 q.l),(2,.str t),(3,.str p),(10,.ptr 5 0 0 0),(28,.sl 6 0 0 b.m),(29,.int .i64 b.m),(30,.int .i64 k),(56,.arr 16 [.ints .i64 (b.row ((sortS b.cs).getD k ⟨#[]⟩))]),(57,.int .i64 i)],(5,some (.one false (exA (r0A (f0O q b (sortS b.cs) t p k) (b.row ((sortS b.cs).getD k ⟨#[]⟩)) i))))::(6,some (.one false (.cols b.m [.sc (.strs (sortS b.cs))])))::cvH b q,7⟩) (fun i=>i<=16) (fun i=>16-i) 0 [0,1,2,3,4,5,6] [] wHx (w0F _) ?_;intro i hi;by_cases hi2:i<16
   .have hx:(r0A (f0O q b (sortS b.cs) t p k) (b.row ((sortS b.cs).getD k ⟨#[]⟩)) i).getD i 0=(f0O q b (sortS b.cs) t p k).getD i 0:=by rw [h0w hSl i i (by omega),if_neg (by omega)]
    have hSi:=hSk i;have hRi:=hRb i;have ca:=x0q (r0A (f0O q b (sortS b.cs) t p k) (b.row ((sortS b.cs).getD k ⟨#[]⟩)) i) i hi2 ((f0O q b (sortS b.cs) t p k).getD i 0) ((b.row ((sortS b.cs).getD k ⟨#[]⟩)).getD i 0) hx (by unfold okS;omega) (by omega) (by omega);repeat' ((conv=>whnf);first|refine cOx (l:= [0,5]) ca ?_|refine a0a ?_|(apply bRx<;>intro h<;>try (exfalso;(try dsimp only at h);omega)))
    all_goals (conv=>whnf)
    all_goals first
     |exact ⟨i+1,[0,1,2,3,4,5,6],[],hi2,(show 16-(i+1)<16-i by omega),⟨rfl,⟨rfl,rfl,rfl,rfl,rfl,rfl,rfl,rfl,rfl,congrArg (fun z=>some (SV.int .i64 z)) (a0e (by omega)),trivial⟩,⟨rfl,rfl,gwk rfl,rfl,rfl,rfl,rfl,trivial⟩⟩⟩
     |(exfalso;omega)
     |trace_state
   .have ei:i=16:=by omega
    subst ei;have bS:(some (HB.one false (exA (r0A (f0O q b (sortS b.cs) t p k) (b.row ((sortS b.cs).getD k ⟨#[]⟩)) 16))):Option HB)=some (.one false (exA (f0O q b (sortS b.cs) t p (k+1)))):=by rw [hS2]
    repeat' ((conv=>whnf);first|refine a0a ?_|(apply bRx<;>intro h<;>try (exfalso;(try dsimp only at h);omega)))
    all_goals (conv=>whnf)
    all_goals first
     |exact ⟨k+1,[0,1,2,3,4,5,6],[],⟨hk2,hE2⟩,(show b.m-(k+1)<b.m-k by omega),⟨rfl,⟨rfl,rfl,rfl,rfl,rfl,rfl,rfl,congrArg (fun z=>some (SV.int .i64 z)) (a0e (by omega)),trivial⟩,⟨bS,rfl,gwk rfl,rfl,rfl,rfl,rfl,trivial⟩⟩⟩
     |(exfalso;omega)
     |trace_state
  .rw [if_neg g] at hE2;by_cases g2:cwE q (b.row ((sortS b.cs).getD k ⟨#[]⟩)) ((sortS b.cs).getD k ⟨#[]⟩) t p=0
   case neg=>
    have e1:=hstop hE g rfl g2 b.m hk2;rw [n0Q rfl g2] at cw;have e2:b.cvE q t p=cwE q (b.row ((sortS b.cs).getD k ⟨#[]⟩)) ((sortS b.cs).getD k ⟨#[]⟩) t p:=by rw [e0];unfold Bk.cvX;rw [e1,if_pos g2]
    rw [e2,if_pos g2];repeat' ((conv=>whnf);first|refine cOx (l:= [0,4]) cw ?_|refine a0a ?_|(apply bRx<;>intro h<;>try (exfalso;(try dsimp only at h);omega)))
    all_goals (conv=>whnf)
    all_goals first
     |exact rOx [0,1,2,3,4] a0b
     |(exfalso;omega)
     |contradiction
     |trace_state
   rw [c1B g2] at cw;rw [g2] at hE2;have hR:cvR q b t p ((sortS b.cs).getD k ⟨#[]⟩)=cwR q (b.row ((sortS b.cs).getD k ⟨#[]⟩)) ((sortS b.cs).getD k ⟨#[]⟩) t p:=if_neg g;have hRb:=x0r g2;rw [hR] at hS2;repeat' ((conv=>whnf);first|refine cOx (l:= [0,4]) cw ?_|refine a0a ?_|(apply bRx<;>intro h<;>try (exfalso;(try dsimp only at h);omega)))
   all_goals (conv=>whnf)
   all_goals first
    |(exfalso;omega)
    |contradiction
    |skip
   refine a0f (fun i:Nat=>⟨[(0,.ptr 1 0 0 0),(1,.sl 4 0 0 q.l),(2,.str t),(3,.str p),(10,.ptr 5 0 0 0),(28,.sl 6 0 0 b.m),(29,.int .i64 b.m),(30,.int .i64 k),(56,.arr 16 [.ints .i64 (cwR q (b.row ((sortS b.cs).getD k ⟨#[]⟩)) ((sortS b.cs).getD k ⟨#[]⟩) t p)]),(57,.int .i64 i)],(5,some (.one false (exA (r0A (f0O q b (sortS b.cs) t p k) (cwR q (b.row ((sortS b.cs).getD k ⟨#[]⟩)) ((sortS b.cs).getD k ⟨#[]⟩) t p) i))))::(6,some (.one false (.cols b.m [.sc (.strs (sortS b.cs))])))::cvH b q,7⟩) (fun i=>i<=16) (fun i=>16-i) 0 [0,1,2,3,4,5,6] [] wHx (w0F _) ?_;intro i hi;by_cases hi2:i<16
   .have hx:(r0A (f0O q b (sortS b.cs) t p k) (cwR q (b.row ((sortS b.cs).getD k ⟨#[]⟩)) ((sortS b.cs).getD k ⟨#[]⟩) t p) i).getD i 0=(f0O q b (sortS b.cs) t p k).getD i 0:=by rw [h0w hSl i i (by omega),if_neg (by omega)]
    have hSi:=hSk i;have hRi:=hRb i;have ca:=x0q (r0A (f0O q b (sortS b.cs) t p k) (cwR q (b.row ((sortS b.cs).getD k ⟨#[]⟩)) ((sortS b.cs).getD k ⟨#[]⟩) t p) i) i hi2 ((f0O q b (sortS b.cs) t p k).getD i 0) ((cwR q (b.row ((sortS b.cs).getD k ⟨#[]⟩)) ((sortS b.cs).getD k ⟨#[]⟩) t p).getD i 0) hx (by unfold okS;omega) (by omega) (by omega);repeat' ((conv=>whnf);first|refine cOx (l:= [0,5]) ca ?_|refine a0a ?_|(apply bRx<;>intro h<;>try (exfalso;(try dsimp only at h);omega)))
    all_goals (conv=>whnf)
    all_goals first
     |exact ⟨i+1,[0,1,2,3,4,5,6],[],hi2,(show 16-(i+1)<16-i by omega),⟨rfl,⟨rfl,rfl,rfl,rfl,rfl,rfl,rfl,rfl,rfl,congrArg (fun z=>some (SV.int .i64 z)) (a0e (by omega)),trivial⟩,⟨rfl,rfl,gwk rfl,rfl,rfl,rfl,rfl,trivial⟩⟩⟩
     |(exfalso;omega)
     |trace_state
   .have ei:i=16:=by omega
    subst ei;have bS:(some (HB.one false (exA (r0A (f0O q b (sortS b.cs) t p k) (cwR q (b.row ((sortS b.cs).getD k ⟨#[]⟩)) ((sortS b.cs).getD k ⟨#[]⟩) t p) 16))):Option HB)=some (.one false (exA (f0O q b (sortS b.cs) t p (k+1)))):=by rw [hS2]
    repeat' ((conv=>whnf);first|refine a0a ?_|(apply bRx<;>intro h<;>try (exfalso;(try dsimp only at h);omega)))
    all_goals (conv=>whnf)
    all_goals first
     |exact ⟨k+1,[0,1,2,3,4,5,6],[],⟨hk2,hE2⟩,(show b.m-(k+1)<b.m-k by omega),⟨rfl,⟨rfl,rfl,rfl,rfl,rfl,rfl,rfl,congrArg (fun z=>some (SV.int .i64 z)) (a0e (by omega)),trivial⟩,⟨bS,rfl,gwk rfl,rfl,rfl,rfl,rfl,trivial⟩⟩⟩
     |(exfalso;omega)
     |trace_state
 have ek:k=b.m:=by omega
 subst ek;have hSk:=hSbd b.m hE;have hSl:=hSlen b.m;have e1:b.cvE q t p=if t0l (b.cvS q t p) b.n=true then 0 else 4:=by
  rw [e0];unfold Bk.cvX;rw [hE];rfl
 have eL:b.cvL q t p=liR (f0O q b (sortS b.cs) t p b.m) b.ps t b.n:=rfl;have eS:b.cvS q t p=f0O q b (sortS b.cs) t p b.m:=rfl;rw [eS] at e1;have hokS:∀j,okS ((f0O q b (sortS b.cs) t p b.m).getD j 0):=fun j=>by have:=hSk j;unfold okS;omega
 generalize hL:b.cvL q t p=LL at*;generalize hX:b.cvE q t p=XX at*;generalize f0O q b (sortS b.cs) t p b.m=SS at*;clear hL hX eS;repeat' ((conv=>whnf);first|refine a0a ?_|(apply bRx<;>intro h<;>try (exfalso;(try dsimp only at h);omega)))
 all_goals (conv=>whnf)
 all_goals first
  |(exfalso;omega)
  |skip
 refine a0f (fun x:Nat×Nat=>⟨[(2,.str t),(10,.ptr 5 0 0 0),(70,.sl 2 0 0 b.n),(71,.int .i64 b.n),(72,.int .i64 x.1),(18,.sl 6 0 0 x.2)],(5,some (.one false (exA SS)))::(6,some (.one false (pxB x.2 (a0y (liR SS b.ps t x.1)))))::cvH b q,7⟩) (fun x=>x.1<=b.n/\(liR SS b.ps t x.1).length=x.2/\t0l SS x.1=true) (fun x=>b.n-x.1) (0,0) [0,1,2,3,4,5,7] [.slot 18 [.sc (.strs []),.sc (.ints .i64 []),.sc (.strs [])]] wHx ⟨w0F _,rfl,rfl⟩ ?_;rintro ⟨i,m2⟩ ⟨hi,hl2,hf⟩;dsimp only at hi hl2 hf;by_cases hi2:i<b.n
 .have cc:=r0z SS i (by omega) (SS.getD i 0) 4611686018427387904 rfl (hokS i) (by decide) (by decide);have cf:=f0L (i0H (SS.getD i 0) 4611686018427387904);cases hfi:f0n (SS.getD i 0) with
  |false=>
   rw [r0B hfi] at cf;rw [p0N hfi b.n hi2,if_neg (by simp)] at e1;rw [e1,if_pos (by decide)];repeat' ((conv=>whnf);first|refine cOx (l:= [0,5]) cc ?_|refine cPx cf ?_|refine a0a ?_|(apply bRx<;>intro h<;>try (exfalso;(try dsimp only at h);omega)))
   all_goals (conv=>whnf)
   all_goals first
    |exact rOx [0,1,2,3,4] a0b
    |(exfalso;omega)
    |contradiction
    |trace_state
  |true=>
   rw [p0O hfi,hfi] at cf;rw [p0O hfi] at cc;have hf2:t0l SS (i+1)=true:=by simp only [t0l];rw [hf,hfi];rfl
   have hml:=g0s SS b.ps t i;by_cases hz:SS.getD i 0=0
   .have h3:liR SS b.ps t (i+1)=liR SS b.ps t i:=by simp only [liR];rw [if_pos hz]
    have b3:(some (HB.one false (pxB m2 (a0y (liR SS b.ps t i)))):Option HB)=some (.one false (pxB m2 (a0y (liR SS b.ps t (i+1))))):=by rw [h3]
    have h4:(liR SS b.ps t (i+1)).length=m2:=by rw [h3,hl2]
    repeat' ((conv=>whnf);first|refine cOx (l:= [0,5]) cc ?_|refine cPx cf ?_|refine a0a ?_|(apply bRx<;>intro h<;>try (exfalso;(try dsimp only at h);omega)))
    all_goals (conv=>whnf)
    all_goals first
     |exact ⟨(i+1,m2),[0,1,2,3,4,5,6],[],⟨hi2,h4,hf2⟩,(show b.n-(i+1)<b.n-i by omega),⟨rfl,⟨rfl,rfl,rfl,rfl,congrArg (fun z=>some (SV.int .i64 z)) (a0e (by omega)),rfl,trivial⟩,⟨rfl,b3,gwk rfl,rfl,rfl,rfl,rfl,trivial⟩⟩⟩
     |(exfalso;omega)
     |contradiction
     |trace_state
   .have h3:liR SS b.ps t (i+1)=liR SS b.ps t i++ [⟨b.ps.getD i ⟨#[]⟩,SS.getD i 0,t⟩]:=by simp only [liR];rw [if_neg hz]
    have h5:=h0o (liR SS b.ps t i) ⟨b.ps.getD i ⟨#[]⟩,SS.getD i 0,t⟩;have b3:(some (HB.one false (pxB (m2+1) ⟨(a0y (liR SS b.ps t i)).p++ [b.ps.getD i ⟨#[]⟩],(a0y (liR SS b.ps t i)).a++ [SS.getD i 0],(a0y (liR SS b.ps t i)).c++ [t]⟩)):Option HB)=some (.one false (pxB (m2+1) (a0y (liR SS b.ps t (i+1))))):=by rw [h3,h5]
    have h4:(liR SS b.ps t (i+1)).length=m2+1:=by rw [h3,a1N,hl2];rfl
    repeat' ((conv=>whnf);first|refine cOx (l:= [0,5]) cc ?_|refine cPx cf ?_|refine a0a ?_|(apply bRx<;>intro h<;>try (exfalso;(try dsimp only at h);omega)))
    all_goals (conv=>whnf)
    all_goals first
     |exact ⟨(i+1,m2+1),[0,1,2,3,4,5,8],[],⟨hi2,h4,hf2⟩,(show b.n-(i+1)<b.n-i by omega),⟨rfl,⟨rfl,rfl,rfl,rfl,congrArg (fun z=>some (SV.int .i64 z)) (a0e (by omega)),rfl,trivial⟩,⟨rfl,b3,gwk rfl,rfl,rfl,rfl,rfl,trivial⟩⟩⟩
     |(exfalso;omega)
     |contradiction
     |trace_state
 .have ei:i=b.n:=by omega
  subst ei;rw [if_pos hf] at e1;rw [e1,if_neg (by decide),eL,hl2];repeat' ((conv=>whnf);first|refine a0a ?_|(apply bRx<;>intro h<;>try (exfalso;(try dsimp only at h);omega)))
  all_goals (conv=>whnf)
  all_goals first
   |exact rOx [0,1,2,3,4,6] (a0d a0b)
   |(exfalso;omega)
   |trace_state
end
section
attribute [local irreducible] a0q a0r a0k a0P
def i1Q:ByteArray:=⟨#[69,85,82]⟩
def v0D:ByteArray:=⟨#[85,83,68]⟩
def p3:List ByteArray:= [⟨#[97]⟩,⟨#[98]⟩,⟨#[99]⟩]
def k0:Bk:=⟨3,p3,0,[],[],[],0⟩
def k1:Bk:=⟨3,p3,1,[i1Q],[[-100,100,0,0,0,0,0,0,0,0,0,0,0,0,0,0]],[0],1⟩
def k2:Bk:=⟨3,p3,1,[i1Q],[[-100,70,30,0,0,0,0,0,0,0,0,0,0,0,0,0]],[0],1⟩
def l0:List Px:= [⟨⟨#[97]⟩,-110,v0D⟩,⟨⟨#[98]⟩,77,v0D⟩,⟨⟨#[99]⟩,33,v0D⟩]
theorem k0H:sortS p3=p3:=by
 exact n0x (List.Perm.refl _) (by unfold p3;refine .cons (fun a h=> ?_) (.cons (fun a h=> ?_) (.cons (fun a h=>absurd h (l1r)) .nil))<;>simp only [a1q,l1r,or_false] at h<;>(first|(rcases h with rfl|rfl<;>kernel_rfl)|(subst h;kernel_rfl)))
theorem a1V (s:ByteArray):sortS [s]= [s]:=n0x (List.Perm.refl _) (k1f _ _)
end
end Go.Proofs.YtegbehopnoocnaaGreatDoor
namespace Go.Sy
open Go.RowKit
theorem sidx_le (l:List ByteArray) (s:ByteArray):a0o l s<=l.length:=by
 induction l with
 |nil=>simp [a0o]
 |cons x l ih=>
  simp only [a0o,seq];by_cases h:x=s
  .rw [decide_eq_true h];simp
  .rw [decide_eq_false h];simp;exact ih
theorem sidx_lt {l:List ByteArray} {s:ByteArray}:a0o l s<l.length↔s∈l:=by
 induction l with
 |nil=>simp [a0o]
 |cons x l ih=>
  simp only [a0o,seq];by_cases h:x=s
  .rw [decide_eq_true h];simp [h]
  .rw [decide_eq_false h];have:¬s=x:=fun e=>h e.symm
   simp [this,ih]
theorem sidx_get {l:List ByteArray} {s:ByteArray} (h:a0o l s<l.length):l[a0o l s]? =some s:=by
 induction l with
 |nil=>simp [a0o] at h
 |cons x l ih=>
  simp only [a0o,seq] at h⊢;by_cases e:x=s
  .rw [decide_eq_true e];simp [e]
  .rw [decide_eq_false e] at h⊢;simp only [cond_false,d1G,k1d] at h⊢;exact ih (by omega)
theorem sidx_of_get {l:List ByteArray} (hd:l.Nodup) {i:Nat} {s:ByteArray} (h:l[i]? =some s):a0o l s=i:=by
 have hi:i<l.length:=(j1M.1 h).1;have hm:s∈l:=j1o.2 ⟨i,h⟩;have h2:=sidx_get (sidx_lt.2 hm);have h3:=sidx_lt.2 hm;obtain ⟨_,e1⟩:=j1M.1 h;obtain ⟨_,e2⟩:=j1M.1 h2;exact (k1v hd).1 (e2.trans e1.symm)
theorem f0v {l:List ByteArray} {s:ByteArray}:a0Z (a0o l s) s l=if a0o l s<l.length then l else l++ [s]:=by
 unfold a0Z;split
 .rename_i h;have:=sidx_get h;refine k1M fun i=> ?_
  rw [j1H];by_cases e:a0o l s=i
  .subst e;rw [if_pos rfl,if_pos h,this]
  .rw [if_neg e]
 .rfl
end Go.Sy
namespace Go.Proofs.YtegbehopnoocnaaGreatDoor
open Go.RowKit Go.Sy
section
structure BkC (b:Bk):Prop where
 cl:b.cs.length=b.m
 vl:b.vs.length=b.m
 nd:b.cs.Nodup
theorem k0I {b:Bk} (h:BkC b) {c:ByteArray} {j:Nat} (hj:b.cs[j]? =some c):b.row c=b.vs.getD j z16:=by
 unfold Bk.row;rw [Go.Sy.sidx_of_get h.nd hj]
theorem m0t {b:Bk} (h:BkC b) {c:ByteArray} (hc:¬c∈b.cs):b.row c=z16:=by
 unfold Bk.row;have:¬a0o b.cs c<b.cs.length:=fun q=>hc (Go.Sy.sidx_lt.1 q)
 rw [List.getD,r0b (by rw [h.vl,<-h.cl];omega)];rfl
theorem g1B {b:Bk} (h:BkC b) {P:List Int->Prop} (hz:P z16) (hr:∀c,P (b.row c)) (i:Nat):P (b.vs.getD i z16):=by
 by_cases e:i<b.m
 .have hj:b.cs[i]? =some (b.cs[i]'(by rw [h.cl];exact e)):=k0n _;have:=hr (b.cs[i]'(by rw [h.cl];exact e));rw [k0I h hj] at this;exact this
 .rw [List.getD,r0b (by rw [h.vl];omega)];exact hz
theorem x0s {b:Bk} (h:BkC b) (c:ByteArray) (r:List Int):BkC (b.put c r):=by
 have hle:=Go.Sy.sidx_le b.cs c;by_cases e:a0o b.cs c<b.m
 .have e2:a0o b.cs c<b.cs.length:=by rw [h.cl];exact e
  refine ⟨?_,?_,?_⟩
  .show (a0Z _ _ _).length=if _ then _ else _
   rw [if_pos e,f0v,if_pos e2];exact h.cl
  .show (a0Z _ _ _).length=if _ then _ else _
   rw [if_pos e];unfold a0Z;rw [if_pos (by rw [h.vl];exact e),j1B];exact h.vl
  .show (a0Z _ _ _).Nodup;rw [f0v,if_pos e2];exact h.nd
 .have e2:¬a0o b.cs c<b.cs.length:=by rw [h.cl];exact e
  refine ⟨?_,?_,?_⟩
  .show (a0Z _ _ _).length=if _ then _ else _
   rw [if_neg e,f0v,if_neg e2,a1N,h.cl];rfl
  .show (a0Z _ _ _).length=if _ then _ else _
   rw [if_neg e];unfold a0Z;rw [if_neg (by rw [h.vl];exact e),a1N,h.vl];rfl
  .show (a0Z _ _ _).Nodup;rw [f0v,if_neg e2];refine k1t.2 ⟨h.nd,by simp,fun x hx y hy=> ?_⟩;simp only [a1A] at hy;subst hy;intro q;subst q;exact e2 (Go.Sy.sidx_lt.2 hx)
theorem x0t {b:Bk} (h:BkC b) (c:ByteArray) (r:List Int) (c':ByteArray):(b.put c r).row c'=if c'=c then r else b.row c':=by
 have hC:=x0s h c r;have hle:=Go.Sy.sidx_le b.cs c;by_cases e:a0o b.cs c<b.m
 .have e2:a0o b.cs c<b.cs.length:=by rw [h.cl];exact e
  have ecs:(b.put c r).cs=b.cs:=by show a0Z _ _ _=_;rw [f0v,if_pos e2]
  have evs:(b.put c r).vs=b.vs.set (a0o b.cs c) r:=by show a0Z _ _ _=_;unfold a0Z;rw [if_pos (by rw [h.vl];exact e)]
  show (b.put c r).vs.getD (a0o (b.put c r).cs c') z16=_;rw [ecs,evs];by_cases q:c'=c
  .subst q;rw [if_pos rfl,List.getD,j1S (by rw [h.vl];exact e)];rfl
  .rw [if_neg q];have:a0o b.cs c≠a0o b.cs c':=fun w=>by
    have g1:=Go.Sy.sidx_get e2;have g2:=Go.Sy.sidx_get (l:=b.cs) (s:=c') (by rw [<-w];exact e2);rw [<-w,g1] at g2;exact q (Option.some.inj g2).symm
   rw [List.getD,j1R this];rfl
 .have e2:¬a0o b.cs c<b.cs.length:=by rw [h.cl];exact e
  have ecs:(b.put c r).cs=b.cs++ [c]:=by show a0Z _ _ _=_;rw [f0v,if_neg e2]
  have evs:(b.put c r).vs=b.vs++ [r]:=by show a0Z _ _ _=_;unfold a0Z;rw [if_neg (by rw [h.vl];exact e)]
  by_cases q:c'=c
  .subst q;rw [if_pos rfl,k0I hC (j:=b.m) (by rw [ecs,c1l (by rw [h.cl];omega),h.cl,j1k];rfl),evs,List.getD,c1l (by rw [h.vl];omega),h.vl,j1k];rfl
  .rw [if_neg q];by_cases hm:c'∈b.cs
   .obtain ⟨j,hj⟩:=j1o.1 hm;have hjl:j<b.m:=by rw [<-h.cl];exact (j1M.1 hj).1
    rw [k0I h hj,k0I hC (j:=j) (by rw [ecs,c1u (by rw [h.cl];exact hjl)];exact hj),evs,List.getD,c1u (by rw [h.vl];exact hjl)];rfl
   .rw [m0t h hm,m0t hC (by rw [ecs];simp [hm,q])]
theorem x0u {b:Bk} (h:BkC b) (c:ByteArray) (r:List Int) (s:ByteArray):s∈(b.put c r).cs↔s∈b.cs\/s=c:=by
 show s∈a0Z _ _ _↔_;rw [f0v];split
 .rename_i e;exact ⟨.inl,fun q=>q.elim id (fun q=>by subst q;exact Go.Sy.sidx_lt.1 e)⟩
 .simp
theorem g1C {b:Bk} (h:BkC b) (c:ByteArray):BkC (b.del c):=by
 by_cases e:a0o b.cs c<b.m
 .refine ⟨?_,?_,?_⟩
  .show (b.cs.eraseIdx _).length=if _ then _ else _
   rw [if_pos e,List.length_eraseIdx_of_lt (by rw [h.cl];exact e),h.cl]
  .show (b.vs.eraseIdx _).length=if _ then _ else _
   rw [if_pos e,List.length_eraseIdx_of_lt (by rw [h.vl];exact e),h.vl]
  .exact h.nd.sublist (l1R _ _)
 .refine ⟨?_,?_,?_⟩
  .show (b.cs.eraseIdx _).length=if _ then _ else _
   rw [if_neg e,k1B (by rw [h.cl];omega),h.cl]
  .show (b.vs.eraseIdx _).length=if _ then _ else _
   rw [if_neg e,k1B (by rw [h.vl];omega),h.vl]
  .exact h.nd.sublist (l1R _ _)
theorem r0E {b:Bk} (h:BkC b) (c s:ByteArray):s∈(b.del c).cs↔s∈b.cs/\s≠c:=by
 show s∈b.cs.eraseIdx _↔_;constructor
 .intro q;refine ⟨(l1R _ _).subset q,fun w=> ?_⟩;subst w;obtain ⟨j,hj⟩:=j1o.1 q;rw [i1h] at hj;by_cases e:j<a0o b.cs s
  .rw [if_pos e] at hj;have:=Go.Sy.sidx_of_get h.nd hj;omega
  .rw [if_neg e] at hj;have:=Go.Sy.sidx_of_get h.nd hj;omega
 .rintro ⟨q,w⟩;obtain ⟨j,hj⟩:=j1o.1 q;have hne:j≠a0o b.cs c:=fun e=>by
   have hl:a0o b.cs c<b.cs.length:=by rw [<-e];exact (j1M.1 hj).1
   have g:=Go.Sy.sidx_get hl;rw [<-e,hj] at g;exact w (Option.some.inj g)
  refine j1o.2 ?_;by_cases e:j<a0o b.cs c
  .exact ⟨j,by rw [i1h,if_pos e];exact hj⟩
  .exact ⟨j-1,by rw [i1h,if_neg (by omega),show j-1+1=j by omega];exact hj⟩
theorem e1k {b:Bk} (h:BkC b) (c c':ByteArray):(b.del c).row c'=if c'=c then z16 else b.row c':=by
 have hC:=g1C h c;by_cases q:c'=c
 .subst q;rw [if_pos rfl,m0t hC (fun w=>((r0E h c' c').1 w).2 rfl)]
 .rw [if_neg q];by_cases hm:c'∈b.cs
  .obtain ⟨j,hj⟩:=j1o.1 hm;have hne:j≠a0o b.cs c:=fun e=>by
    have hl:a0o b.cs c<b.cs.length:=by rw [<-e];exact (j1M.1 hj).1
    have g:=Go.Sy.sidx_get hl;rw [<-e,hj] at g;exact q (Option.some.inj g)
   rw [k0I h hj];have ecs:(b.del c).cs=b.cs.eraseIdx (a0o b.cs c):=rfl;have evs:(b.del c).vs=b.vs.eraseIdx (a0o b.cs c):=rfl;by_cases e:j<a0o b.cs c
   .rw [k0I hC (j:=j) (by rw [ecs,i1h,if_pos e];exact hj),evs,List.getD,i1h,if_pos e];rfl
   .rw [k0I hC (j:=j-1) (by rw [ecs,i1h,if_neg (by omega),show j-1+1=j by omega];exact hj),evs,List.getD,i1h,if_neg (by omega),show j-1+1=j by omega];rfl
  .rw [m0t h hm,m0t hC (fun w=>hm ((r0E h c c').1 w).1)]
theorem i1t {b:Bk} (h:BkC b) (c:ByteArray) (r:List Int):BkC (b.mv1 c r):=by
 unfold Bk.mv1;split
 .exact g1C (x0s h c r) c
 .exact x0s h c r
theorem i0k {b:Bk} (h:BkC b) (c:ByteArray) (r:List Int) (c':ByteArray):(b.mv1 c r).row c'=if c'=c then r else b.row c':=by
 unfold Bk.mv1;by_cases e:r=z16
 .rw [if_pos e,e1k (x0s h c r),x0t h];by_cases q:c'=c
  .rw [if_pos q,if_pos q,e]
  .rw [if_neg q,if_neg q]
 .rw [if_neg e,x0t h]
theorem x0v {b:Bk} (h:BkC b) (c:ByteArray) (r:List Int) (s:ByteArray):s∈(b.mv1 c r).cs↔(s∈b.cs/\s≠c)\/(s=c/\r≠z16):=by
 unfold Bk.mv1;by_cases e:r=z16
 .rw [if_pos e,r0E (x0s h c r),x0u h];constructor
  .rintro ⟨q|q,w⟩
   .exact .inl ⟨q,w⟩
   .exact absurd q w
  .rintro (q|q)
   .exact ⟨.inl q.1,q.2⟩
   .exact absurd e q.2
 .rw [if_neg e,x0u h];constructor
  .rintro (q|q)
   .by_cases w:s=c
    .exact .inr ⟨w,e⟩
    .exact .inl ⟨q,w⟩
   .exact .inr ⟨q,e⟩
  .rintro (q|q)
   .exact .inl q.1
   .exact .inr q.1
structure BkI (b:Bk) (B:Int):Prop where
 C:BkC b
 n16:b.n<=16
 psl:b.ps.length=b.n
 nz:∀c,c∈b.cs->b.row c≠z16
 c3:∀c,c∈b.cs->d0M c=true
 rl:∀c,(b.row c).length=16
 rb:∀c j,-B<=(b.row c).getD j 0/\(b.row c).getD j 0<=B
 rs:∀c,(b.row c).sum=0
 rt:∀c j,b.n<=j->(b.row c).getD j 0=0
theorem BkI.ok {b:Bk} {B:Int} (h:BkI b B) (hB:B<=4503599627370496):b.Ok:=by
 have h0:=h.rb ⟨#[]⟩ 0;refine ⟨h.n16,h.psl,g1B h.C (P:=fun r=>r.length=16) rfl h.rl,fun i j=> ?_⟩;refine g1B h.C (P:=fun r=> -4503599627370496<=r.getD j 0/\r.getD j 0<=4503599627370496) ?_ (fun c=> ?_) i
 .show _<=z16.getD j 0/\z16.getD j 0<=_;rw [b0Y];decide
 .show-4503599627370496<=(b.row c).getD j 0/\(b.row c).getD j 0<=4503599627370496;have:=h.rb c j;omega
theorem BkI.cok {b:Bk} {B:Int} (h:BkI b B) (hm:b.m<=100000):b.Cok:=by
 refine ⟨hm,fun s hs=> ?_,h.C.nd⟩;have:=h.c3 s hs;unfold d0M at this;simp only [k0o,decide_eq_true_eq] at this;omega
theorem x0w {b:Bk} {B:Int} (h:BkI b B) (c:ByteArray):c∈b.cs↔b.row c≠z16:=
 ⟨h.nz c,fun q=>Classical.byContradiction fun w=>q (m0t h.C w)⟩
theorem t0m {l m:List Int} {n:Nat} (h1:l.length=n) (h2:m.length=n) (h:∀j,l.getD j 0=m.getD j 0):l=m:=by
 refine k1T (by omega) fun i hi hj=> ?_
 have:=h i
 rwa [List.getD,List.getD,k0n hi,k0n hj] at this
theorem x0x (l:List Int) (i:Nat) (x:Int) (h:i<l.length):(l.set i x).sum=l.sum-l.getD i 0+x:=by
 induction l generalizing i with
 |nil=>simp at h
 |cons y l ih=>
  cases i with
  |zero=>simp only [List.set_cons_zero,l1I,l1B];omega
  |succ i=>
   simp only [d1G] at h;simp only [List.set_cons_succ,l1I,j1n];rw [ih i (by omega)];omega
theorem p0P {r:List Int} {F T:Nat} {a:Int} (hl:r.length=16) (hF:F<16) (hT:T<16) (hne:F≠T) (j:Nat):(h0n r F T a).getD j 0=r.getD j 0+((if j=F then-a else 0)+(if j=T then a else 0)):=by
 unfold h0n;rw [b0j _ _ _ _ (by rw [j1B,hl];exact hT),b0j _ _ _ _ (by rw [hl];exact hF)];by_cases e:j=T
 .subst e;rw [if_pos rfl,if_neg (fun q=>hne q.symm),if_pos rfl];omega
 .rw [if_neg e,if_neg e];by_cases e2:j=F
  .subst e2;rw [if_pos rfl,if_pos rfl];omega
  .rw [if_neg e2,if_neg e2];omega
theorem x0y {r:List Int} {F T:Nat} {a:Int} (hl:r.length=16) (hF:F<16) (hT:T<16) (hne:F≠T):(h0n r F T a).sum=r.sum:=by
 unfold h0n;rw [x0x _ _ _ (by rw [j1B,hl];exact hT),x0x _ _ _ (by rw [hl];exact hF),b0j _ _ _ _ (by rw [hl];exact hF),if_neg (fun q=>hne q.symm)];omega
end
section
def stE (b:Bk) (f t c:ByteArray) (a:Int):Int:=
 if idI b.ps f b.n<0\/idI b.ps t b.n<0 then 6
 else if idI b.ps f b.n=idI b.ps t b.n then 4
 else if b0O a c≠0 then b0O a c
 else if a<0 then 4 else 0
theorem x0z {b:Bk} {f t c:ByteArray} {a:Int} (h:stE b f t c a=0):a0o b.ps f<b.n/\a0o b.ps t<b.n/\a0o b.ps f≠a0o b.ps t/\d0M c=true/\0<=a/\a<=4503599627370496/\b0O a c=0:=by
 unfold stE at h;split at h
 .cases h
 .rename_i h1;split at h
  .cases h
  .rename_i h2;split at h
   .rename_i h3;exact absurd h h3
   .rename_i h3;split at h
    .cases h
    .rename_i h4;have h3':b0O a c=0:=by simpa using h3
     have hm:=e0F a c;rw [h3'] at hm;have g1:a0o b.ps f<b.n:=by
      rcases f1L (a0o b.ps f) b.n with q|q
      .exact q
      .exact absurd (Or.inl (by rw [i0K (by omega)];decide)) h1
     have g2:a0o b.ps t<b.n:=by
      rcases f1L (a0o b.ps t) b.n with q|q
      .exact q
      .exact absurd (Or.inr (by rw [i0K (by omega)];decide)) h1
     rw [i0J g1,i0J g2] at h2;rcases hm with hm|hm
     .omega
     .exact ⟨g1,g2,by omega,hm.2.1,by omega,hm.2.2.2,h3'⟩
theorem c1G (b:Bk) (f t c:ByteArray) (a:Int):mvE b f t c a=if stE b f t c a≠0 then stE b f t c a else if f0n ((b.row c).getD (a0o b.ps f) 0-a)=true/\f0n ((b.row c).getD (a0o b.ps t) 0+a)=true then 0 else 4:=by
 unfold mvE stE;split
 .rfl
 .split
  .rfl
  .split
   .rfl
   .split
    .rfl
    .rfl
theorem i1u {b:Bk} {B B':Int} (h:BkI b B) {f t c:ByteArray} {a:Int} (hs:stE b f t c a=0) (hB:B<=B') (h1: -B'<=(b.row c).getD (a0o b.ps f) 0-a/\(b.row c).getD (a0o b.ps f) 0-a<=B') (h2: -B'<=(b.row c).getD (a0o b.ps t) 0+a/\(b.row c).getD (a0o b.ps t) 0+a<=B'):BkI (b.mv1 c (h0n (b.row c) (a0o b.ps f) (a0o b.ps t) a)) B':=by
 obtain ⟨hF,hT,hne,hc,ha,_⟩:=x0z hs;have hn:=h.n16;have hps:(b.mv1 c (h0n (b.row c) (a0o b.ps f) (a0o b.ps t) a)).ps=b.ps:=by unfold Bk.mv1;split<;>rfl
 have hnn:(b.mv1 c (h0n (b.row c) (a0o b.ps f) (a0o b.ps t) a)).n=b.n:=by unfold Bk.mv1;split<;>rfl
 have hg:=p0P (a:=a) (h.rl c) (show a0o b.ps f<16 by omega) (show a0o b.ps t<16 by omega) hne;refine ⟨i1t h.C _ _,by rw [hnn];exact hn,by rw [hps,hnn];exact h.psl,fun s q=> ?_,fun s q=> ?_,fun s=> ?_,fun s j=> ?_,fun s=> ?_,fun s j q=> ?_⟩
 .rw [x0v h.C] at q;rw [i0k h.C];rcases q with q|q
  .rw [if_neg q.2];exact h.nz s q.1
  .rw [if_pos q.1];exact q.2
 .rw [x0v h.C] at q;rcases q with q|q
  .exact h.c3 s q.1
  .rw [q.1];exact hc
 .rw [i0k h.C];split
  .rw [j1B,j1B];exact h.rl c
  .exact h.rl s
 .rw [i0k h.C];split
  .rw [hg j];have:=h.rb c j;by_cases e1:j=a0o b.ps f
   .rw [if_pos e1,if_neg (by omega),e1];omega
   .by_cases e2:j=a0o b.ps t
    .rw [if_neg e1,if_pos e2,e2];omega
    .rw [if_neg e1,if_neg e2];omega
  .have:=h.rb s j;omega
 .rw [i0k h.C];split
  .rw [x0y (h.rl c) (by omega) (by omega) hne];exact h.rs c
  .exact h.rs s
 .rw [hnn] at q;rw [i0k h.C];split
  .rw [hg j,if_neg (by omega),if_neg (by omega),h.rt c j q];rfl
  .exact h.rt s j q
theorem e1l (b:Bk) (f t c:ByteArray) (a:Int):(b.mv f t c a).ps=b.ps/\(b.mv f t c a).n=b.n:=by
 unfold Bk.mv Bk.mv1;split
 .split<;>exact ⟨rfl,rfl⟩
 .exact ⟨rfl,rfl⟩
theorem j1b (b:Bk) (f t c:ByteArray) (a:Int):(b.mv f t c a).m<=b.m+1:=by
 have hp:∀r,(b.put c r).m<=b.m+1:=fun r=>by
  unfold Bk.put;dsimp only;split<;>omega
 have hd:∀b':Bk,(b'.del c).m<=b'.m:=fun b'=>by
  unfold Bk.del;dsimp only;split<;>omega
 unfold Bk.mv Bk.mv1;split
 .split
  .exact g1x (hd _) (hp _)
  .exact hp _
 .omega
theorem i1R {b:Bk} (h:BkI b 4503599627370496) (f t c:ByteArray) (a:Int):BkI (b.mv f t c a) 4503599627370496:=by
 by_cases e:mvE b f t c a=0
 .have e2:=e;rw [c1G] at e2;by_cases s:stE b f t c a=0
  .rw [if_neg (by simpa using s)] at e2;split at e2
   .rename_i g;rw [m0l,m0l] at g;unfold Bk.mv;rw [if_pos e];exact i1u h s (j1T _) g.1 g.2
   .cases e2
  .rw [if_pos s] at e2;exact absurd e2 s
 .rw [i0I e];exact h
def dM (b:Bk) (f t c:ByteArray) (a:Int) (c':ByteArray) (j:Nat):Int:=if stE b f t c a=0/\c'=c then (if j=a0o b.ps f then-a else 0)+(if j=a0o b.ps t then a else 0) else 0
theorem g1D {b:Bk} {B:Int} (h:BkI b B) {f t c:ByteArray} {a:Int} (he:mvE b f t c a=stE b f t c a) (c':ByteArray) (j:Nat):((b.mv f t c a).row c').getD j 0=(b.row c').getD j 0+dM b f t c a c' j:=by
 unfold dM;by_cases s:stE b f t c a=0
 .obtain ⟨hF,hT,hne,hc,ha,_⟩:=x0z s;have hn:=h.n16;unfold Bk.mv;rw [if_pos (by rw [he];exact s),i0k h.C];by_cases q:c'=c
  .rw [if_pos q,if_pos ⟨s,q⟩,p0P (h.rl c) (by omega) (by omega) hne,q]
  .rw [if_neg q,if_neg (fun w=>q w.2)];omega
 .rw [i0I (by rw [he];exact s),if_neg (fun w=>s w.1)];omega
structure Mv where
 f:ByteArray
 t:ByteArray
 a:Int
 c:ByteArray
abbrev Bk.go (b:Bk) (m:Mv):Bk:=b.mv m.f m.t m.c m.a
def Bk.all (b:Bk) (M:List Mv):Bk:=M.foldl Bk.go b
end
section
attribute [local irreducible] a0q a0r a0k a0P
end
section
attribute [local irreducible] a0q a0r a0k a0P
theorem p0Q {k:Nat} (h:k<9223372036854775807):IntKind.i64.wrap ((k:Int)+1)=((k+1:Nat):Int):=by rw [a0m (by omega) (by omega)];rfl
abbrev rlB (q:RL):Blk:= .cols q.l [.sc (.strs q.f),.sc (.strs q.t),.sc (.ints .i64 q.n),.sc (.ints .i64 q.d)]
theorem t0n (ps:List ByteArray) (n:Nat) (hl:ps.length=n):FC Tryz.prog 2 21 [.sl 1 0 0 n] [(1,some (.one true (.cols n [.sc (.strs ps)])))] (u0Y ps):=by
 by_cases h16:16<n
 .unfold u0Y b0u;rw [hl,if_pos h16,if_pos (by decide)];refine fEx Tryz.func21 ?_;repeat' ((conv=>whnf);first|refine a0a ?_|(apply bRx<;>intro h<;>try (exfalso;(try dsimp only at h);omega)))
  all_goals (conv=>whnf)
  all_goals first
   |exact rOx [0,1] a0b
   |(exfalso;omega)
   |trace_state
 .exact d1W ps n hl (by omega)
theorem n0S {ps:List ByteArray}:∀{n k:Nat},nwK ps n=0->k<=n->nwK ps k=0
 |0,k,h,hk=>by rw [show k=0 by omega];rfl
 |n+1,k,h,hk=>by
  have h0:nwK ps n=0:=by
   simp only [nwK] at h;by_cases q:nwK ps n=0
   .exact q
   .rw [if_pos q] at h;exact h
  by_cases e:k=n+1
  .rw [e];exact h
  .exact n0S h0 (by omega)
theorem l0t {ps:List ByteArray} (h:b0u ps=0):ps.length<=16/\ps.Nodup/\∀s∈ps,nmB s=true:=by
 unfold b0u at h;split at h
 .cases h
 .have hE:∀k,k<ps.length->nwE ps k=0:=fun k hk=>by
   have h1:=n0S h (show k+1<=ps.length from hk);have h0:=n0S h (show k<=ps.length by omega);simp only [nwK] at h1
   rwa [if_neg (by simpa using h0)] at h1
  refine ⟨by omega,?_,fun s hs=> ?_⟩
  .refine g1z.2 fun i j hi hj hij e=> ?_
   have:=hE j hj;unfold nwE at this;split at this
   .cases this
   .split at this
    .cases this
    .rename_i g;have gj:ps.getD j ⟨#[]⟩=ps[j]:=by rw [List.getD,k0n hj];rfl
     have hm:ps[j]∈ps.take j:=by
      rw [<-e];exact k1J.2 ⟨i,by rw [d1P];omega,by rw [k1N]⟩
     have hlt:=Go.Sy.sidx_lt.2 hm;rw [d1P,k1p (by omega)] at hlt;rw [gj] at g;unfold idI at g;rw [if_pos hlt] at g;omega
  .obtain ⟨k,hk,rfl⟩:=d1O hs;have:=hE k hk;unfold nwE at this;have gj:ps.getD k ⟨#[]⟩=ps[k]:=by rw [List.getD,k0n hk];rfl
   rw [gj] at this;cases q:nmB ps[k] with
   |true=>rfl
   |false=>rw [q,if_pos rfl] at this;cases this
theorem e1m {ps:List ByteArray} (h:b0u ps=0):BkI (nwB ps) 0:=by
 have hr:∀c,(nwB ps).row c=z16:=fun c=>rfl
 refine ⟨⟨rfl,rfl,k1I⟩,(l0t h).1,a0S ps,fun c q=>absurd q (l1r),fun c q=>absurd q (l1r),fun c=>rfl,fun c j=> ?_,fun c=>rfl,fun c j _=> ?_⟩
 .rw [hr,b0Y];decide
 .rw [hr,b0Y]
abbrev bkX (ro:Bool) (np:Nat) (ps:List ByteArray) (b:Bk):a0j:= [(1,bkC true 2 3 np),(2,some (.one true (.cols np [.sc (.strs ps)]))),(3,bkM ro b)]
theorem p0R {b:Bk} (h:BkI b 4503599627370496) {np:Nat} {ps:List ByteArray} (hn:b.n=np) (hp:b.ps=ps) (f t c:ByteArray) (a:Int):FC Tryz.prog 4 39 [.ptr 1 0 0 0,.str f,.str t,.agg [.int .i64 a,.str c]] (bkX false np ps b) (a0h (.int .i64 (mvE b f t c a)) [(3,bkM false (b.mv f t c a))] 4):=by
 subst hn hp;exact a1H b (h.ok (j1T _)) f t c a
theorem x0A {b:Bk} (h:BkI b 4503599627370496) {np:Nat} {ps:List ByteArray} (hn:b.n=np) (hp:b.ps=ps) (hm:b.m<=100000):FC Tryz.prog 4 40 [.ptr 1 0 0 0] (bkX true np ps b) (a0h (.sl 4 0 0 b.list.length) [(4,some (.one false (pxB b.list.length (a0y b.list))))] 5):=by
 subst hn hp;exact a1K b (h.ok (j1T _)) (h.cok hm)
theorem BkI.up {b:Bk} {B B':Int} (h:BkI b B) (hB:B<=B'):BkI b B':=by
 have g:=h.rb;exact ⟨h.C,h.n16,h.psl,h.nz,h.c3,h.rl,fun c j=>by have:=g c j;omega,h.rs,h.rt⟩
theorem e1n (b:Bk) (hn:b.n<=16) (hm:b.m<=1000):b.list.length<=100000:=by
 have h:=n0B b (sortS b.cs) b.m;have h2:b.m*b.n<=1000*16:=l1S hm hn;unfold Bk.list;omega
end
section
attribute [local irreducible] a0q a0r a0k a0P
theorem t0o {α:Type} {l:List α} {n:Nat} (h:l.length=n):seg 0 n l=l:=by
 unfold seg;rw [k1X,k1j (by omega)]
theorem x0B (n:Nat) (l:List ByteArray) (hl:l.length=n) (hn:n<=1000000):FC Tryz.prog 2 22 [.sl 1 0 0 n] [(1,some (.one true (.cols n [.sc (.strs l)])))] (a0h (.sl 2 0 0 n) [(2,some (.one false (.cols n [.sc (.strs l)])))] 3):=by
 cases n with
 |zero=>
  obtain rfl:=j1r hl;refine p0s rfl ?_;refine fEx Tryz.func22 ?_;repeat' ((conv=>whnf);first|refine a0a ?_|(apply bRx<;>intro h<;>try (exfalso;(try dsimp only at h);omega))|(refine And.intro ?_ ?_))
  all_goals (conv=>whnf)
  all_goals first
   |exact d0q (fun _ _ _ h=> .inl h) (rOx [0,1] a0b)
   |exact d0q (fun _ _ _ h=> .inr h) (rOx [0,1,3] (a0d a0b))
   |decide
 |succ n=>
  refine fEx Tryz.func22 ?_;repeat' ((conv=>whnf);first|refine a0a ?_|(apply bRx<;>intro h<;>try (exfalso;(try dsimp only at h);omega)))
  all_goals (conv=>whnf)
  all_goals (rw [z0z (n+1),t0o hl];exact rOx [0,1,3] (a0d a0b))
abbrev bk0:Bk:=⟨0,[],0,[],[],[],0⟩
abbrev h1Y (b:Bk):Blk:= .obj (.map false false b.m [.strs b.cs] [.arrs 16 .i64 b.vs] b.bs b.ck)
abbrev cyC (ro:Bool) (hc hp hb hd np:Nat) (cut:Int):Option HB:=some (.one ro (.cells [.ptr hc 0 0 0,.int .i64 cut,.sl hp 0 0 np,.map hb 0,.map hd 0]))
abbrev cyP (ro:Bool) (n:Nat) (ps:List ByteArray):Option HB:=some (.one ro (.cols n [.sc (.strs ps)]))
abbrev cyB (ro:Bool) (h m:Nat) (ds:List Int):Option HB:=some (.one ro (.obj (.map false false m [.ints .i64 ds] [.ptrs h m] (List.range m) m)))
def f7 (hp hm np:Nat) (x:Nat):Blk:= .cells [.sl hp x 0 np,.map hm x]
def f8 (np:Nat) (sp:List ByteArray) (x:Nat):Blk:= .cols np [.sc (.strs sp)]
def f9 (B:List Bk) (x:Nat):Blk:=h1Y (B.getD x bk0)
abbrev fmB (ro:Bool) (m:Nat) (f:Nat->Blk):Option HB:=some (.fam ro (fun x=>x<m) f)
def cnE (cut:Int) (ps:List ByteArray):Int:=if cut<0\/86400<cut then 4 else b0u ps
def cnO (cut:Int) (ps:List ByteArray) (n:Nat):SV->a0j->Nat->Prop:=if cnE cut ps=0 then a0h (.tup [.ptr 3 0 0 0,.int .i64 0]) [(3,cyC false 1 4 5 6 n cut),(4,cyP false n ps),(5,cyB false 7 0 []),(6,tmM false 0 []),(7,fmB false 0 (f7 8 9 n)),(8,fmB false 0 (f8 n (sortS ps))),(9,fmB false 0 (f9 []))] 10 else a0h (.tup [.nptr,.int .i64 (cnE cut ps)]) [] 3
theorem c1H (cut:Int) (ps:List ByteArray) (n:Nat) (hl:ps.length=n):FC Tryz.prog 3 7 [.ptr 1 0 0 0,.int .i64 cut,.sl 2 0 0 n] [(2,some (.one true (.cols n [.sc (.strs ps)])))] (cnO cut ps n):=by
 have c1:=t0n ps n hl;unfold cnO cnE;by_cases h:cut<0\/86400<cut
 .rw [if_pos h,if_neg (by decide)];refine fEx Tryz.func7 ?_;repeat' ((conv=>whnf);first|refine a0a ?_|(apply bRx<;>intro h<;>try (exfalso;(try dsimp only at h);omega)))
  all_goals (conv=>whnf)
  all_goals first
   |exact rOx [0,1,2] a0b
   |(exfalso;omega)
   |trace_state
 rw [if_neg h];unfold u0Y at c1;by_cases he:b0u ps=0
 .rw [if_neg (by rw [he];simp)] at c1;rw [if_pos he];have c2:=x0B n ps hl (by have:=(l0t he).1;omega);refine fEx Tryz.func7 ?_;repeat' ((conv=>whnf);first|refine cOx (l:= [0,2]) c1 ?_|refine cOx (l:= [0,2]) c2 ?_|refine a0a ?_|(apply bRx<;>intro h<;>try (exfalso;(try dsimp only at h);omega)))
  all_goals (conv=>whnf)
  all_goals first
   |(exfalso;omega)
   |exact m0e (l:= [0,1,2,9,6,7,8,10,11,12]) [.relab (fun _ _=>none) (fun _=>0) ((7,cyB false 10 0 [])::gdN 10 0 0 [⟨0,0,f7 11 12 n⟩,⟨0,0,f8 n (sortS ps)⟩,⟨0,0,f9 []⟩]) [] 3] ⟨m0s (n:=10) (th:=7) [⟨0,0,f7 11 12 n⟩,⟨0,0,f8 n (sortS ps)⟩,⟨0,0,f9 []⟩] (by decide) rfl (n0L rfl (fun i hi=>by omega)),rfl,rfl,⟨rfl,rfl,rfl,rfl,rfl,rfl,rfl,trivial⟩⟩ (a0d (a0d (a0d (a0d (a0C (a0C (a0C a0b)))))))
   |trace_state
 .rw [if_pos he] at c1;rw [if_neg he];generalize b0u ps=e at*;refine fEx Tryz.func7 ?_;repeat' ((conv=>whnf);first|refine cOx (l:= [0,2]) c1 ?_|refine a0a ?_|(apply bRx<;>intro h<;>try (exfalso;(try dsimp only at h);omega)))
  all_goals (conv=>whnf)
  all_goals first
   |exact rOx [0,1,2] a0b
   |(exfalso;omega)
   |trace_state
end
section
attribute [local irreducible] a0q a0r a0k a0P
theorem c1I (p:Int->Bool):∀(k:Nat) (d:Int),nxK p k d<0\/(d<=nxK p k d/\nxK p k d<d+(k:Int)/\p (nxK p k d)=true)
 |0,d=> .inl (by simp [nxK])
 |k+1,d=>by
  simp only [nxK];split
  .rename_i h;exact .inr ⟨by omega,by omega,h⟩
  .rcases c1I p k (d+1) with h|⟨h1,h2,h3⟩
   .exact .inl h
   .exact .inr ⟨by omega,by omega,h3⟩
theorem x0C {hs:List Int} {d:Int} (h:¬nxI hs d<0):d<=nxI hs d/\nxI hs d<=99999/\j0g hs (nxI hs d)=true:=by
 rcases c1I (j0g hs) (100000-d).toNat d with q|⟨h1,h2,h3⟩
 .exact absurd q h
 .have h4:=h3;unfold j0g at h4;simp only [k0o] at h4;exact ⟨h1,(f0o.1 h4.1).2,h3⟩
def ofI (hs:List Int) (cut t:Int):Int:=if j0f t<0 then-1 else if j0g hs (j0f t)=true/\a1I t<cut then j0f t else nxI hs (j0f t+1)
def ofV (x:Int):SV:=if x<0 then .tup [.int .i64 0,.int .i64 14] else .tup [.int .i64 x,.int .i64 0]
abbrev cyR (np hn:Nat) (cut:Int) (hs:List Int):a0j:= [(1,cyC true 2 4 5 6 np cut),(2,v0C true 3),(3,tmM true hn hs)]
theorem t0p (np hn:Nat) (cut:Int) (hs:List Int) (hh:hs.length=hn) (d:Int) (hd:0<=d) (hd2:d<=99999):FC Tryz.prog 10 37 [.ptr 1 0 0 0,.int .i64 d] (cyR np hn cut hs) (a0h (ofV (nxI hs (d+1))) [] 10):=by
 have e:IntKind.i64.wrap (d+1)=d+1:=a0m (by omega) (by omega);have c:=a1J hn hs hh (d+1);have hv:(if isD (d+1)=true then nxV (nxI hs (d+1)) else nxV (-1))=nxV (nxI hs (d+1)):=by
  cases h:isD (d+1) with
  |true=>rw [if_pos rfl]
  |false=>rw [if_neg (by simp),n0A (by have:=c1p.1 h;omega)]
 rw [hv] at c;unfold nxV at c;unfold ofV;by_cases h:nxI hs (d+1)<0
 .rw [if_pos h] at c⊢;refine fEx Tryz.func37 ?_;repeat' ((conv=>whnf);first|(simp only [e])|refine cOx (l:= [0,2,3]) c ?_|refine a0a ?_|(apply bRx<;>intro h<;>try (exfalso;(try dsimp only at h);omega)))
  all_goals (conv=>whnf)
  all_goals first
   |exact rOx [0,1,2,3,4,5,6,7,8,9] a0b
   |(exfalso;omega)
   |trace_state
 .rw [if_neg h] at c⊢;refine fEx Tryz.func37 ?_;repeat' ((conv=>whnf);first|(simp only [e])|refine cOx (l:= [0,2,3]) c ?_|refine a0a ?_|(apply bRx<;>intro h<;>try (exfalso;(try dsimp only at h);omega)))
  all_goals (conv=>whnf)
  all_goals first
   |exact rOx [0,1,2,3,4,5,6,7,8,9] a0b
   |(exfalso;omega)
   |trace_state
theorem r0F {t:Int} (h:¬j0f t<0):okT t=true/\0<=j0f t/\j0f t<=99999/\0<=a1I t:=by
 unfold j0f a1I at*;by_cases q:okT t=true
 .rw [if_pos q] at h⊢;rw [if_pos q];have:=f0o.1 (e0G.1 q).2.2;exact ⟨q,this.1,this.2,by omega⟩
 .rw [if_neg q] at h;omega
theorem a1W (np hn:Nat) (cut:Int) (hs:List Int) (hh:hs.length=hn) (t:Int):FC Tryz.prog 10 15 [.ptr 1 0 0 0,.int .i64 t] (cyR np hn cut hs) (a0h (ofV (ofI hs cut t)) [] 10):=by
 have c1:=d1X t;unfold ofI;by_cases h:j0f t<0
 .rw [if_pos h];generalize j0f t=d at*;refine fEx Tryz.func15 ?_;repeat' ((conv=>whnf);first|refine cPx c1 ?_|refine a0a ?_|(apply bRx<;>intro h<;>try (exfalso;(try dsimp only at h);omega)))
  all_goals (conv=>whnf)
  all_goals first
   |exact rOx [0,1,2,3,4,5,6,7,8,9] a0b
   |(exfalso;omega)
   |trace_state
 .have hd:=r0F h;rw [if_neg h];have c2:=f0p hn hs hh (j0f t);have c3:=t0p np hn cut hs hh (j0f t) hd.2.1 hd.2.2.1;generalize j0f t=d at*;generalize a1I t=s at*;cases hb:j0g hs d with
  |true=>
   rw [hb] at c2;by_cases hq:s<cut
   .rw [if_pos ⟨rfl,hq⟩];unfold ofV;rw [if_neg h];refine fEx Tryz.func15 ?_;repeat' ((conv=>whnf);first|refine cPx c1 ?_|refine cOx (l:= [0,2,3]) c2 ?_|refine a0a ?_|(apply bRx<;>intro h<;>try (exfalso;(try dsimp only at h);omega)))
    all_goals (conv=>whnf)
    all_goals first
     |exact rOx [0,1,2,3,4,5,6,7,8,9] a0b
     |(exfalso;omega)
     |trace_state
   .rw [if_neg (fun w=>hq w.2)];unfold ofV at c3⊢;by_cases hx:nxI hs (d+1)<0
    .rw [if_pos hx] at c3⊢;refine fEx Tryz.func15 ?_;repeat' ((conv=>whnf);first|refine cPx c1 ?_|refine cOx (l:= [0,2,3]) c2 ?_|refine cOx (l:= [0,1,2,3,4,5,6,7,8,9]) c3 ?_|refine a0a ?_|(apply bRx<;>intro h<;>try (exfalso;(try dsimp only at h);omega)))
     all_goals (conv=>whnf)
     all_goals first
      |exact rOx [0,1,2,3,4,5,6,7,8,9] a0b
      |(exfalso;omega)
      |trace_state
    .rw [if_neg hx] at c3⊢;refine fEx Tryz.func15 ?_;repeat' ((conv=>whnf);first|refine cPx c1 ?_|refine cOx (l:= [0,2,3]) c2 ?_|refine cOx (l:= [0,1,2,3,4,5,6,7,8,9]) c3 ?_|refine a0a ?_|(apply bRx<;>intro h<;>try (exfalso;(try dsimp only at h);omega)))
     all_goals (conv=>whnf)
     all_goals first
      |exact rOx [0,1,2,3,4,5,6,7,8,9] a0b
      |(exfalso;omega)
      |trace_state
  |false=>
   rw [hb] at c2;rw [if_neg (fun w=>by simp at w)];unfold ofV at c3⊢;by_cases hx:nxI hs (d+1)<0
   .rw [if_pos hx] at c3⊢;refine fEx Tryz.func15 ?_;repeat' ((conv=>whnf);first|refine cPx c1 ?_|refine cOx (l:= [0,2,3]) c2 ?_|refine cOx (l:= [0,1,2,3,4,5,6,7,8,9]) c3 ?_|refine a0a ?_|(apply bRx<;>intro h<;>try (exfalso;(try dsimp only at h);omega)))
    all_goals (conv=>whnf)
    all_goals first
     |exact rOx [0,1,2,3,4,5,6,7,8,9] a0b
     |(exfalso;omega)
     |trace_state
   .rw [if_neg hx] at c3⊢;refine fEx Tryz.func15 ?_;repeat' ((conv=>whnf);first|refine cPx c1 ?_|refine cOx (l:= [0,2,3]) c2 ?_|refine cOx (l:= [0,1,2,3,4,5,6,7,8,9]) c3 ?_|refine a0a ?_|(apply bRx<;>intro h<;>try (exfalso;(try dsimp only at h);omega)))
    all_goals (conv=>whnf)
    all_goals first
     |exact rOx [0,1,2,3,4,5,6,7,8,9] a0b
     |(exfalso;omega)
     |trace_state
theorem x0D (np m:Nat) (cut:Int) (cd:List Int) (hm:cd.length=m) (d:Int):FC Tryz.prog 10 32 [.ptr 1 0 0 0,.int .i64 d] [(1,cyC true 2 4 5 6 np cut),(6,tmM true m cd)] (a0h (.bool (decide (d∈cd))) [] 10):=by
 have hg:=m0m hm d;rw [<-hg];refine fEx Tryz.func32 ?_;repeat' ((conv=>whnf);first|refine a0a ?_|(apply bRx<;>intro h<;>try (exfalso;(try dsimp only at h);omega)))
 all_goals (conv=>whnf)
 all_goals first
  |exact rOx [0,1,2,3,4,5,6,7,8,9] a0b
  |(exfalso;omega)
  |trace_state
end
section
attribute [local irreducible] a0q a0r a0k a0P sortI
theorem a1X (n:Nat) (l:List Int) (hn:n<4611686018427387904):FC Tryz.prog 2 34 [.sl 1 0 0 n] [(1,some (.one false (.cols n [.sc (.ints .i64 l)])))] (a0h (.tup []) [(1,some (.one false (.cols n [.sc (.ints .i64 (sortI l))])))] 2):=
 a1x ⟨fun blk off cap ss W hH hblk hsz=>AnyM.slices_Sort_int Tryz.sortI blk off cap ss W hH hblk hsz,fun p cap W=>AnyM.slices_Sort_int_none Tryz.sortI p cap W⟩ (f0j Tryz.func34 (by kernel_rfl) (by kernel_rfl)) n l hn
def opL (ds cd:List Int) (sn:List Nat):List Int:=(sn.reverse.map (fun i=>ds.getD i 0)).filter (fun t=> !decide (t∈cd))
def e0J (ds cd:List Int):List Int:=sortI (ds.filter (fun t=> !decide (t∈cd)))
theorem e1o {ds cd:List Int} {i:Nat} {sn:List Nat} (h:decide (ds.getD i 0∈cd)=false):opL ds cd (i::sn)=opL ds cd sn++ [ds.getD i 0]:=by
 unfold opL;rw [List.reverse_cons,h1W,j1v];simp only [j1D,k1H,j1y,l1x,h,Bool.not_false,if_true]
theorem g1E {ds cd:List Int} {i:Nat} {sn:List Nat} (h:decide (ds.getD i 0∈cd)=true):opL ds cd (i::sn)=opL ds cd sn:=by
 unfold opL;rw [List.reverse_cons,h1W,j1v];simp only [j1D,k1H,j1y,l1x,h,Bool.not_true,j1i,if_false,l1K]
theorem e1p (ds cd:List Int) (sn:List Nat):(opL ds cd sn).length<=sn.length:=by
 unfold opL;refine g1x (j1L _ _) ?_;simp
theorem g1F {m:Nat} {ds cd:List Int} {sn:List Nat} (hk:ds.length=m) (hd:sn.Nodup) (hl:∀i∈sn,i<m) (ha:∀i,i<m->i∈sn):sortI (opL ds cd sn)=e0J ds cd:=by
 unfold e0J opL;refine k0p (List.Perm.filter _ ?_);have:=((List.reverse_perm sn).trans (u0P hd hl ha)).map (fun i=>ds.getD i 0)
 rwa [<-hk,l0j] at this
abbrev opR (np m nc:Nat) (cut:Int) (ds cd:List Int):a0j:= [(1,cyC true 2 4 5 6 np cut),(5,cyB true 7 m ds),(6,tmM true nc cd)]
theorem x0E (np m nc:Nat) (cut:Int) (ds cd:List Int) (hds:ds.length=m) (hcd:cd.length=nc) (hm:m<=100000):FC Tryz.prog 10 12 [.ptr 1 0 0 0] (opR np m nc cut ds cd) (a0h (.sl 10 0 0 (e0J ds cd).length) [(10,some (.one false (.cols (e0J ds cd).length [.sc (.ints .i64 (e0J ds cd))])))] 11):=by
 refine fEx Tryz.func12 ?_;repeat' ((conv=>whnf);first|refine a0a ?_|(apply bRx<;>intro h<;>try (exfalso;(try dsimp only at h);omega)))
 all_goals (conv=>whnf)
 refine a0E (fun sn:List Nat=>⟨[(0,.ptr 1 0 0 0),(11,.ptr 10 0 0 0),(3,.sl 11 0 0 (opL ds cd sn).length)],(10,some (.one false (.obj (.iter 5 0 (List.range m) m sn))))::(11,some (.one false (.cols (opL ds cd sn).length [.sc (.ints .i64 (opL ds cd sn))])))::opR np m nc cut ds cd,12⟩) (fun sn=>sn.Nodup/\∀i∈sn,i<m) (fun sn=>m-sn.length) [] [0,1,2,3,4,5,6,7,8,9,10,11] [.slot 3 [.sc (.ints .i64 [])]] wHx ⟨k1I,by simp⟩ ?_;rintro sn ⟨hnd,hb⟩;have hsl:=h0g _ sn hnd hb;have htl:=e1p ds cd sn;have cs:=a1X (opL ds cd sn).length (opL ds cd sn) (by omega);have hg:∀d,(List.replicate nc true).getD (a0F cd d) false=decide (d∈cd):=m0m hcd;repeat' ((conv=>whnf);first|(refine ⟨⟨rfl,rfl⟩,fun i hi hni=> ?_,fun hall=> ?_⟩)|refine cOx (l:= [0,11]) cs ?_|refine a0a ?_|(apply bRx<;>intro h<;>try (exfalso;(try dsimp only at h);omega)))
 all_goals (conv=>whnf)
 all_goals (try simp only [hg] at h)
 .have hlt:=d0b hnd hb hi hni;refine ⟨i::sn,[0,1,2,3,4,5,6,7,8,9,10,13],[],⟨k1P.2 ⟨hni,hnd⟩,fun x hx=> ?_⟩,by simp only [d1G];omega,?_⟩
  .rcases a1q.1 hx with rfl|hx
   .exact hi
   .exact hb x hx
  .rw [e1o (by simpa using h),a1N];exact ⟨rfl,⟨rfl,rfl,rfl,trivial⟩,⟨rfl,rfl,rfl,rfl,rfl,trivial⟩⟩
 .have hlt:=d0b hnd hb hi hni;refine ⟨i::sn,[0,1,2,3,4,5,6,7,8,9,10,11],[],⟨k1P.2 ⟨hni,hnd⟩,fun x hx=> ?_⟩,by simp only [d1G];omega,?_⟩
  .rcases a1q.1 hx with rfl|hx
   .exact hi
   .exact hb x hx
  .rw [g1E (by simpa using h)];exact ⟨rfl,⟨rfl,rfl,rfl,trivial⟩,⟨rfl,rfl,rfl,rfl,rfl,trivial⟩⟩
 .have ed:=g1F (cd:=cd) hds hnd hb hall;have el:(opL ds cd sn).length=(e0J ds cd).length:=by rw [<-ed,f0k]
  rw [ed,el];exact rOx [0,1,2,3,4,5,6,7,8,9,11] (a0d a0b)
theorem x0F {B:List Bk} {m i np:Nat} {sp:List ByteArray} (hi:i<m) (h:BkI (B.getD i bk0) 4503599627370496) (hn:(B.getD i bk0).n=np) (hp:(B.getD i bk0).ps=sp) (hm:(B.getD i bk0).m<=100000):FC Tryz.prog 4 40 [.ptr 1 i 0 0] [(1,fmB true m (f7 2 3 np)),(2,fmB true m (f8 np sp)),(3,fmB true m (f9 B))] (a0h (.sl 4 0 0 (B.getD i bk0).list.length) [(4,some (.one false (pxB (B.getD i bk0).list.length (a0y (B.getD i bk0).list))))] 5):=by
 have c:=f0r [(1,⟨i,fun x=>x<m,f7 2 3 np⟩),(2,⟨i,fun x=>x<m,f8 np sp⟩),(3,⟨i,fun x=>x<m,f9 B⟩)] (by
  refine ⟨⟨by decide,by decide,_,_,rfl,hi,?_,.inl rfl⟩,⟨by decide,by decide,_,_,rfl,hi,rfl,.inl rfl⟩,⟨by decide,by decide,_,_,rfl,hi,rfl,.inl rfl⟩,trivial⟩;show Blk.cells [.sl 2 i 0 np,.map 3 i]= .cells [.sl 2 (0+i) 0 np,.map 3 (0+i)];rw [z0z]) (by exact ⟨rfl,rfl,rfl,trivial⟩) (by exact ⟨rfl,trivial⟩) (a0d a0b) (x0A h hn hp hm)
 have e:SV.mems (fmu [(1,⟨i,fun x=>x<m,f7 2 3 np⟩),(2,⟨i,fun x=>x<m,f8 np sp⟩),(3,⟨i,fun x=>x<m,f9 B⟩)]) [.ptr 1 0 0 0]= [.ptr 1 i 0 0]:=by
  show [SV.ptr 1 (0+i) 0 0]=_;rw [z0z]
 rw [e] at c;exact c
theorem x0G:b0m Tryz.prog 40 [.nptr] .nsl:=by
 refine fEx Tryz.func40 ?_;repeat' ((conv=>whnf);first|refine a0a ?_|(apply bRx<;>intro h<;>try (exfalso;(try dsimp only at h);omega)))
 all_goals (conv=>whnf)
 all_goals exact a0c rfl
def m0u (ds:List Int) (B:List Bk) (d:Int):List Px:=if d∈ds then (B.getD (a0F ds d) bk0).list else []
structure BksI (ds:List Int) (B:List Bk) (m np:Nat) (sp:List ByteArray):Prop where
 dl:ds.length=m
 bl:B.length=m
 nd:ds.Nodup
 I:∀i,i<m->BkI (B.getD i bk0) 4503599627370496/\(B.getD i bk0).n=np/\(B.getD i bk0).ps=sp/\(B.getD i bk0).m<=100000
abbrev psR (np m:Nat) (cut:Int) (ds:List Int) (B:List Bk) (sp:List ByteArray):a0j:= [(1,cyC true 2 4 5 6 np cut),(5,cyB true 7 m ds),(7,fmB true m (f7 8 9 np)),(8,fmB true m (f8 np sp)),(9,fmB true m (f9 B))]
theorem f0w {np m:Nat} {ds:List Int} {B:List Bk} {sp:List ByteArray} (hb:BksI ds B m np sp) (cut:Int) (d:Int):FC Tryz.prog 10 18 [.ptr 1 0 0 0,.int .i64 d] (psR np m cut ds B sp) (a0h (.sl 10 0 0 (m0u ds B d).length) [(10,some (.one false (pxB (m0u ds B d).length (a0y (m0u ds B d)))))] 11):=by
 unfold m0u;by_cases h:d∈ds
 .have hi:a0F ds d<m:=by rw [<-hb.dl];exact b0e.2 h
  obtain ⟨b1,b2,b3,b4⟩:=hb.I _ hi;rw [if_pos h];have c:=x0F (B:=B) hi b1 b2 b3 b4;have hfd:e0g false m [.ptrs 7 m] (a0F ds d)= .ptr 7 (a0F ds d) 0 0:=by
   show (bif decide (a0F ds d<m) then SV.ptr 7 (a0F ds d) 0 0 else .nptr)=_;rw [decide_eq_true hi];rfl
  refine fEx Tryz.func18 ?_;repeat' ((conv=>whnf);first|(rw [hfd])|refine cOx (l:= [0,7,8,9]) c ?_|refine a0a ?_|(apply bRx<;>intro h<;>try (exfalso;(try dsimp only at h);omega)))
  all_goals (conv=>whnf)
  all_goals first
   |exact rOx [0,1,2,3,4,5,6,7,8,9,10] (a0d a0b)
   |(exfalso;omega)
   |trace_state
 .have hi:¬a0F ds d<m:=by rw [<-hb.dl];exact fun q=>h (b0e.1 q)
  rw [if_neg h];refine p0s rfl ?_;have hfd:e0g false m [.ptrs 7 m] (a0F ds d)= .nptr:=by
   show (bif decide (a0F ds d<m) then SV.ptr 7 (a0F ds d) 0 0 else .nptr)=_;rw [decide_eq_false hi];rfl
  have c:=x0G;refine fEx Tryz.func18 ?_;repeat' ((conv=>whnf);first|(rw [hfd])|refine cPx c ?_|refine a0a ?_|(apply bRx<;>intro h<;>try (exfalso;(try dsimp only at h);omega)))
  all_goals (conv=>whnf)
  all_goals first
   |exact d0q (fun _ _ _ h=> .inl h) (rOx [0,1,2,3,4,5,6,7,8,9] a0b)
   |(exfalso;omega)
   |trace_state
end
section
attribute [local irreducible] a0q a0r a0k a0P sortI
def clE (hs ds cd:List Int) (d:Int):Int:=if j0g hs d=false then 14 else if d∈cd then 23 else if 0<(e0J ds cd).length/\(e0J ds cd).getD 0 0<d then 8 else 0
abbrev clH (np m hn nc:Nat) (cut:Int) (hs ds cd:List Int) (B:List Bk) (sp:List ByteArray):a0j:= [(1,cyC true 2 4 5 6 np cut),(2,v0C true 3),(3,tmM true hn hs),(5,cyB true 7 m ds),(6,tmM false nc cd),(7,fmB true m (f7 8 9 np)),(8,fmB true m (f8 np sp)),(9,fmB true m (f9 B))]
def clO (hs ds cd:List Int) (B:List Bk) (d:Int):SV->a0j->Nat->Prop:=if clE hs ds cd d=0 then a0h (.tup [.sl 10 0 0 (m0u ds B d).length,.int .i64 0]) [(6,tmM false (cd++ [d]).length (cd++ [d])),(10,some (.one false (pxB (m0u ds B d).length (a0y (m0u ds B d)))))] 11 else a0h (.tup [.nsl,.int .i64 (clE hs ds cd d)]) [(6,tmM false cd.length cd)] 10
theorem t0q {np m hn nc:Nat} {hs ds cd:List Int} {B:List Bk} {sp:List ByteArray} (hb:BksI ds B m np sp) (hh:hs.length=hn) (hc:cd.length=nc) (hm:m<=100000) (cut d:Int):FC Tryz.prog 10 16 [.ptr 1 0 0 0,.int .i64 d] (clH np m hn nc cut hs ds cd B sp) (clO hs ds cd B d):=by
 subst hc;have c1:=f0p hn hs hh d;have c2:=x0E np m cd.length cut ds cd hb.dl rfl hm;have c3:=f0w hb cut d;have hg:=m0m (n:=cd.length) (ks:=cd) rfl d;have hput:=g1s (s:=cd) rfl d;unfold clO clE;cases hq:j0g hs d with
 |false=>
  rw [hq] at c1;rw [if_pos rfl,if_neg (by decide)];refine fEx Tryz.func16 ?_;repeat' ((conv=>whnf);first|refine cOx (l:= [0,2,3]) c1 ?_|refine a0a ?_|(apply bRx<;>intro h<;>try (exfalso;(try dsimp only at h);omega)))
  all_goals (conv=>whnf)
  all_goals first
   |exact rOx [0,1,2,3,4,5,6,7,8,9] (a0d a0b)
   |(exfalso;omega)
   |trace_state
 |true=>
  rw [hq] at c1;rw [if_neg (show¬true=false by simp)];by_cases hd:d∈cd
  .rw [decide_eq_true hd] at hg;rw [if_pos hd,if_neg (by decide)];refine fEx Tryz.func16 ?_;repeat' ((conv=>whnf);first|refine cOx (l:= [0,2,3]) c1 ?_|refine a0a ?_|(apply bRx<;>intro h<;>try (exfalso;(try dsimp only at h);omega)))
   all_goals (conv=>whnf)
   all_goals first
    |exact rOx [0,1,2,3,4,5,6,7,8,9] (a0d a0b)
    |(exfalso;rw [hg] at h;cases h;done)
    |trace_state
  .rw [decide_eq_false hd] at hg;rw [if_neg hd] at hput⊢;have hol:(e0J ds cd).length<=100000:=by
    unfold e0J;rw [f0k];exact g1x (j1L _ _) (by rw [hb.dl];exact hm)
   generalize e0J ds cd=S at*;by_cases hS:0<S.length/\S.getD 0 0<d
   .rw [if_pos hS,if_neg (by decide)];refine fEx Tryz.func16 ?_;repeat' ((conv=>whnf);first|refine cOx (l:= [0,2,3]) c1 ?_|refine cOx (l:= [0,1,2,3,4,5,6,7,8,9]) c2 ?_|refine a0a ?_|(apply bRx<;>intro h<;>try (exfalso;(try dsimp only at h);omega)))
    all_goals (conv=>whnf)
    all_goals first
     |exact rOx [0,1,2,3,4,5,6,7,8,9] (a0d a0b)
     |(exfalso;rw [hg] at h;cases h;done)
     |exact absurd hS.2 h
     |exact absurd ⟨by omega,h⟩ hS
     |(exfalso;omega)
     |trace_state
   .rw [if_neg hS,if_pos rfl];refine fEx Tryz.func16 ?_;repeat' ((conv=>whnf);first|refine cOx (l:= [0,2,3]) c1 ?_|refine cOx (l:= [0,1,2,3,4,5,6,7,8,9]) c2 ?_|refine cOx (l:= [0,1,2,3,4,5,6,7,8,9]) c3 ?_|refine a0a ?_|(apply bRx<;>intro h<;>try (exfalso;(try dsimp only at h);omega)))
    all_goals (conv=>whnf)
    all_goals first
     |exact c0S (l:= [0,1,2,3,4,5,6,7,8,9,10]) rfl rfl ⟨hput,rfl,trivial⟩ (a0d (a0d a0b))
     |exact c0S (l:= [0,1,2,3,4,5,6,7,8,9,11]) rfl rfl ⟨hput,rfl,trivial⟩ (a0d (a0d a0b))
     |(exfalso;rw [hg] at h;cases h;done)
     |exact absurd hS.2 h
     |exact absurd ⟨by omega,h⟩ hS
     |(exfalso;omega)
     |trace_state
end
section
attribute [local irreducible] a0q a0r a0k a0P sortI
theorem g1G {B:List Bk} {i:Nat} (hi:i<B.length) (b:Bk) (x:Nat):(if x=i then h1Y b else f9 B x)=f9 (B.set i b) x:=by
 unfold f9;by_cases e:x=i
 .subst e;rw [if_pos rfl,List.getD,j1S hi];rfl
 .rw [if_neg e,List.getD,List.getD,j1R (fun q=>e q.symm)]
theorem x0H {B:List Bk} {m i np:Nat} {sp:List ByteArray} (hi:i<m) (hB:B.length=m) (h:BkI (B.getD i bk0) 4503599627370496) (hn:(B.getD i bk0).n=np) (hp:(B.getD i bk0).ps=sp) (f t c:ByteArray) (a:Int):FC Tryz.prog 4 39 [.ptr 1 i 0 0,.str f,.str t,.agg [.int .i64 a,.str c]] [(1,fmB true m (f7 2 3 np)),(2,fmB true m (f8 np sp)),(3,fmB false m (f9 B))] (a0h (.int .i64 (mvE (B.getD i bk0) f t c a)) [(3,fmB false m (f9 (B.set i ((B.getD i bk0).mv f t c a))))] 4):=by
 have c0:=f0r [(1,⟨i,fun x=>x<m,f7 2 3 np⟩),(2,⟨i,fun x=>x<m,f8 np sp⟩),(3,⟨i,fun x=>x<m,f9 B⟩)] (by
  refine ⟨⟨by decide,by decide,_,_,rfl,hi,?_,.inl rfl⟩,⟨by decide,by decide,_,_,rfl,hi,rfl,.inl rfl⟩,⟨by decide,by decide,_,_,rfl,hi,rfl,.inr ⟨rfl,_,rfl⟩⟩,trivial⟩;show Blk.cells [.sl 2 i 0 np,.map 3 i]= .cells [.sl 2 (0+i) 0 np,.map 3 (0+i)];rw [z0z]) (by exact ⟨rfl,rfl,rfl,trivial⟩) (by exact ⟨rfl,trivial⟩) (a0d a0b) (p0R h hn hp f t c a)
 have e:SV.mems (fmu [(1,⟨i,fun x=>x<m,f7 2 3 np⟩),(2,⟨i,fun x=>x<m,f8 np sp⟩),(3,⟨i,fun x=>x<m,f9 B⟩)]) [.ptr 1 0 0 0,.str f,.str t,.agg [.int .i64 a,.str c]]= [.ptr 1 i 0 0,.str f,.str t,.agg [.int .i64 a,.str c]]:=by
  show [SV.ptr 1 (0+i) 0 0,.str f,.str t,.agg [.int .i64 a,.str c]]=_;rw [z0z]
 rw [e] at c0;have e2:f9 (B.set i ((B.getD i bk0).mv f t c a))=fun x=>if x=i then h1Y ((B.getD i bk0).mv f t c a) else f9 B x:=funext fun x=>(g1G (by omega) _ x).symm
 rw [e2];exact c0
abbrev t0r (h5 h7 h8 h9 np m:Nat) (ds:List Int) (B:List Bk) (sp:List ByteArray):a0j:= [(h5,cyB false h7 m ds),(h7,fmB false m (f7 h8 h9 np)),(h8,fmB false m (f8 np sp)),(h9,fmB false m (f9 B))]
theorem k0J {np m:Nat} {ds:List Int} (hds:ds.length=m) (cut d:Int) (h:d∈ds):FC Tryz.prog 10 38 [.ptr 1 0 0 0,.int .i64 d] [(1,cyC true 2 4 5 6 np cut),(5,cyB true 7 m ds)] (a0h (.tup [.ptr 7 (a0F ds d) 0 0,.int .i64 0]) [] 10):=by
 have hi:a0F ds d<m:=by rw [<-hds];exact b0e.2 h
 have hfd:e0g false m [.ptrs 7 m] (a0F ds d)= .ptr 7 (a0F ds d) 0 0:=by
  show (bif decide (a0F ds d<m) then SV.ptr 7 (a0F ds d) 0 0 else .nptr)=_;rw [decide_eq_true hi];rfl
 have hdec:decide (a0F ds d<m)=true:=decide_eq_true hi;refine fEx Tryz.func38 ?_;repeat' ((conv=>whnf);first|(rw [hfd,hdec])|refine a0a ?_|(apply bRx<;>intro h<;>try (exfalso;(try dsimp only at h);omega)))
 all_goals (conv=>whnf)
 all_goals first
  |exact rOx [0,1,2,3,4,5,6,7,8,9] a0b
  |(exfalso;omega)
  |trace_state
theorem k0K {np m:Nat} {ds:List Int} {pr:List ByteArray} (hds:ds.length=m) (hp:pr.length=np) (he:b0u pr=0) (cut d:Int) (h:¬d∈ds):FC Tryz.prog 10 38 [.ptr 1 0 0 0,.int .i64 d] [(1,cyC true 2 4 5 6 np cut),(4,cyP true np pr),(5,cyB true 7 m ds)] (a0h (.tup [.ptr 10 0 0 0,.int .i64 0]) [(10,bkC false 11 12 np),(11,cyP false np (sortS pr)),(12,bkM false (nwB pr))] 13):=by
 subst hp;have hi:¬a0F ds d<m:=by rw [<-hds];exact fun q=>h (b0e.1 q)
 have hdec:decide (a0F ds d<m)=false:=decide_eq_false hi;have hfd:e0g false m [.ptrs 7 m] (a0F ds d)= .nptr:=by
  show (bif decide (a0F ds d<m) then SV.ptr 7 (a0F ds d) 0 0 else .nptr)=_;rw [hdec];rfl
 have c:=t0n pr pr.length rfl;unfold u0Y at c;rw [if_neg (by rw [he];simp)] at c;refine fEx Tryz.func38 ?_;repeat' ((conv=>whnf);first|(rw [hfd,hdec])|refine cOx (l:= [0,4]) c ?_|refine a0a ?_|(apply bRx<;>intro h<;>try (exfalso;(try dsimp only at h);omega)))
 all_goals (conv=>whnf)
 all_goals first
  |exact rOx [0,1,2,3,4,5,6,7,8,9,10,11,12] (a0d (a0d (a0d a0b)))
  |(exfalso;omega)
  |trace_state
end
section
attribute [local irreducible] a0q a0r a0k a0P sortI
def mvF (hs cd:List Int):Nat->Int->Int
 |0,_=> -1
 |k+1,x=>if x<0 then-1 else if x∈cd then mvF hs cd k (nxI hs (x+1)) else x
@[irreducible] def mvD (hs cd:List Int) (x:Int):Int:=mvF hs cd 100001 x
theorem x0I {hs cd:List Int} {x:Int} (h:x<0):∀k,mvF hs cd k x= -1
 |0=>rfl
 |k+1=>by simp only [mvF];rw [if_pos h]
def ofP (x:Int):Int:=if x<0 then 0 else x
def ofQ (x:Int):Int:=if x<0 then 14 else 0
theorem p0S (x:Int):ofV x= .tup [.int .i64 (ofP x),.int .i64 (ofQ x)]:=by unfold ofV ofP ofQ;split<;>rfl
theorem c1J {hs:List Int} {cut t:Int}:ofI hs cut t<=99999:=by
 unfold ofI;split
 .omega
 .rename_i h;have:=r0F h;split
  .omega
  .by_cases q:nxI hs (j0f t+1)<0
   .omega
   .exact (x0C q).2.1
def c0V (ds:List Int) (B:List Bk) (pr:List ByteArray) (d:Int):Bk:=if d∈ds then B.getD (a0F ds d) bk0 else nwB pr
def t0s (ds:List Int) (d:Int):List Int:=if d∈ds then ds else ds++ [d]
def z0C (ds:List Int) (B:List Bk) (d:Int) (b:Bk):List Bk:=if d∈ds then B.set (a0F ds d) b else B++ [b]
def mvX (hs ds cd:List Int) (B:List Bk) (pr:List ByteArray) (D:Int) (f t c:ByteArray) (a:Int):Int:=if D<0 then 14 else mvE (c0V ds B pr D) f t c a
def mvO (np m:Nat) (hs ds cd:List Int) (B:List Bk) (pr:List ByteArray) (D:Int) (f t c:ByteArray) (a:Int):SV->a0j->Nat->Prop:=
 if mvX hs ds cd B pr D f t c a=0 then a0h (.tup [.int .i64 D,.int .i64 0]) (t0r 5 10 11 12 np (t0s ds D).length (t0s ds D) (z0C ds B D ((c0V ds B pr D).mv f t c a)) (sortS pr)) 13
 else a0h (.tup [.int .i64 0,.int .i64 (mvX hs ds cd B pr D f t c a)]) (t0r 5 7 8 9 np m ds B (sortS pr)) 10
abbrev mvH (np m hn nc:Nat) (cut:Int) (hs ds cd:List Int) (B:List Bk) (pr:List ByteArray):a0j:=(1,cyC true 2 4 5 6 np cut)::(2,v0C true 3)::(3,tmM true hn hs)::(4,cyP true np pr)::(6,tmM true nc cd)::t0r 5 7 8 9 np m ds B (sortS pr)
theorem x0J {B:List Bk} {q:Nat} (h:q<B.length) (b:Bk):f9 (B++ [b]) q=f9 B q:=by
 unfold f9;rw [List.getD,List.getD,c1u h]
theorem x0K {B:List Bk} {m:Nat} (h:B.length=m) (b:Bk):f9 (B++ [b]) m=h1Y b:=by
 unfold f9;rw [List.getD,c1l (by omega),<-h,j1k];rfl
theorem a1Y {np m:Nat} {hs ds cd:List Int} {B:List Bk} {pr:List ByteArray} {D:Int} {f t c:ByteArray} {a:Int} (h:D<0):mvO np m hs ds cd B pr D f t c a=a0h (.tup [.int .i64 0,.int .i64 14]) (t0r 5 7 8 9 np m ds B (sortS pr)) 10:=by
 unfold mvO mvX;rw [if_pos h,if_neg (by decide)]
theorem x0L {np m:Nat} {hs ds cd:List Int} {B:List Bk} {pr:List ByteArray} {D:Int} {f t c:ByteArray} {a:Int} (h:¬D<0) (he:¬mvE (c0V ds B pr D) f t c a=0):mvO np m hs ds cd B pr D f t c a=a0h (.tup [.int .i64 0,.int .i64 (mvE (c0V ds B pr D) f t c a)]) (t0r 5 7 8 9 np m ds B (sortS pr)) 10:=by
 unfold mvO mvX;rw [if_neg h,if_neg he]
theorem e1q {np m:Nat} {hs ds cd:List Int} {B:List Bk} {pr:List ByteArray} {D:Int} {f t c:ByteArray} {a:Int} (h:¬D<0) (he:mvE (c0V ds B pr D) f t c a=0) (hd:D∈ds) (hm:ds.length=m):mvO np m hs ds cd B pr D f t c a=a0h (.tup [.int .i64 D,.int .i64 0]) (t0r 5 10 11 12 np m ds (B.set (a0F ds D) ((c0V ds B pr D).mv f t c a)) (sortS pr)) 13:=by
 unfold mvO mvX t0s z0C;rw [if_neg h,if_pos he,if_pos hd,if_pos hd,hm]
theorem x0M {np m:Nat} {hs ds cd:List Int} {B:List Bk} {pr:List ByteArray} {D:Int} {f t c:ByteArray} {a:Int} (h:¬D<0) (he:mvE (c0V ds B pr D) f t c a=0) (hd:¬D∈ds) (hm:ds.length=m):mvO np m hs ds cd B pr D f t c a=a0h (.tup [.int .i64 D,.int .i64 0]) (t0r 5 10 11 12 np (m+1) (ds++ [D]) (B++ [(c0V ds B pr D).mv f t c a]) (sortS pr)) 13:=by
 unfold mvO mvX t0s z0C;rw [if_neg h,if_pos he,if_neg hd,if_neg hd,a1N,hm];rfl
theorem a1Z {n m h h':Nat} {R:Nat->Nat->Option (Nat×Nat)} (hn:n<=h') (h1:∀q,q<m->R h' q=some (h,q)):∀i,i<m->SLe n R ((BCol.svs (e0d h m)).at i) ((BCol.ptrs h' m).at i):=by
 intro i hi;have e1:(BCol.svs (e0d h m)).at i= .ptr h i 0 0:=e0x hi;rw [e1];exact c0U hn (h1 i hi)
theorem x0N {ds:List Int} {m:Nat} (hm:ds.length=m) {D:Int} (hd:D∈ds):(some (HB.one false (.obj (.map false false (if a0F ds D<m then m else m+1) [.ints .i64 (a0Z (a0F ds D) D ds)] [.svs (a0Z (a0F ds D) (.ptr 7 (a0F ds D) 0 0) (e0d 7 m))] (if a0F ds D<m then List.range m else List.range m++ [m]) (if a0F ds D<m then m else m+1)))):Option HB)=some (.one false (.obj (.map false false m [.ints .i64 ds] [.svs (e0d 7 m)] (List.range m) m))):=by
 have hi:=b0e.2 hd;rw [n0r,if_pos hi,if_pos (by omega),if_pos (by omega),a1R (by omega)]
theorem x0O {ds:List Int} {m h:Nat} (hm:ds.length=m) {D:Int} (hd:¬D∈ds):(some (HB.one false (.obj (.map false false (if a0F ds D<m then m else m+1) [.ints .i64 (a0Z (a0F ds D) D ds)] [.svs (a0Z (a0F ds D) (.ptr h 0 0 0) (e0d 7 m))] (if a0F ds D<m then List.range m else List.range m++ [m]) (if a0F ds D<m then m else m+1)))):Option HB)=some (.one false (.obj (.map false false (m+1) [.ints .i64 (ds++ [D])] [.svs (e0d 7 m++ [.ptr h 0 0 0])] (List.range (m+1)) (m+1)))):=by
 have hi:¬a0F ds D<ds.length:=fun q=>hd (b0e.1 q)
 have e:a0F ds D=m:=by have:=w0I ds D;omega
 rw [n0r,if_neg hi,if_neg (by omega),if_neg (by omega),e,a1S,List.range_succ]
theorem k0L {h5 h7 h8 h9 np m:Nat} {ds:List Int} {B:List Bk} {sp:List ByteArray}:g0h (t0r h5 h7 h8 h9 np m ds B sp):=a0d (a0C (a0C (a0C a0b)))
abbrev odD (n np:Nat) (B:List Bk) (sp:List ByteArray):List RD:= [⟨7,f7 (n+1) (n+2) np⟩,⟨8,f8 np sp⟩,⟨9,f9 B⟩]
theorem e1r {H:a0j} {n m np:Nat} {ds:List Int} {B:List Bk} {sp:List ByteArray} (hn:10<=n) (h5:a0s H 5=some (.one false (.obj (.map false false m [.ints .i64 ds] [.svs (e0d 7 m)] (List.range m) m)))) (h7:a0s H 7=fmB false m (f7 8 9 np)) (h8:a0s H 8=fmB false m (f8 np sp)) (h9:a0s H 9=fmB false m (f9 B)):
  Relab H n (rdR n m (odD n np B sp)) (fun _=>0) ((5,cyB false n m ds)::rdN n m 0 (odD n np B sp)) [7,8,9] 3:=by
 have r0:∀q,q<m->rdR n m (odD n np B sp) n q=some (7,q):=fun q hq=>i0M (D:=odD n np B sp) (i:=0) (d:=⟨7,f7 (n+1) (n+2) np⟩) rfl hq
 have r1:∀q,q<m->rdR n m (odD n np B sp) (n+1) q=some (8,q):=fun q hq=>i0M (D:=odD n np B sp) (i:=1) (d:=⟨8,f8 np sp⟩) rfl hq
 have r2:∀q,q<m->rdR n m (odD n np B sp) (n+2) q=some (9,q):=fun q hq=>i0M (D:=odD n np B sp) (i:=2) (d:=⟨9,f9 B⟩) rfl hq
 exact p0K (n:=n) (th:=5) (odD n np B sp) (by omega) h5 (n0L rfl (a1Z (by omega) r0))
  ⟨⟨(show (7:Nat)≠5 by decide),_,_,h7,fun q hq=>⟨hq,b0k ⟨h0i (by omega) (r1 q hq),r0u (by omega) (r2 q hq),trivial⟩⟩⟩,⟨(show (8:Nat)≠5 by decide),_,_,h8,fun q hq=>⟨hq,.inl rfl⟩⟩,⟨(show (9:Nat)≠5 by decide),_,_,h9,fun q hq=>⟨hq,.inl rfl⟩⟩,trivial⟩ rfl
abbrev nwD (n h np:Nat) (B:List Bk) (sp:List ByteArray):List GD:= [⟨7,h,f7 (n+1) (n+2) np⟩,⟨8,h+1,f8 np sp⟩,⟨9,h+2,f9 B⟩]
theorem e1s {H:a0j} {n m np h:Nat} {ds:List Int} {B:List Bk} {b:Bk} {sp:List ByteArray} (hn:10<=n) (hh:10<=h) (hB:B.length=m) (h5:a0s H 5=some (.one false (.obj (.map false false (m+1) [.ints .i64 ds] [.svs (e0d 7 m++ [.ptr h 0 0 0])] (List.range (m+1)) (m+1))))) (h7:a0s H 7=fmB false m (f7 8 9 np)) (h8:a0s H 8=fmB false m (f8 np sp)) (h9:a0s H 9=fmB false m (f9 B)) (k7:a0s H h=bkC false (h+1) (h+2) np) (k8:a0s H (h+1)=cyP false np sp) (k9:a0s H (h+2)=bkM false b) (hdist:x0i (nwD n h np (B++ [b]) sp)=true):
  Relab H n (gdR n m (nwD n h np (B++ [b]) sp)) (fun _=>0) ((5,cyB false n (m+1) ds)::gdN n (m+1) 0 (nwD n h np (B++ [b]) sp)) [7,h,8,h+1,9,h+2] 3:=by
 have r0:∀q,q<m->gdR n m (nwD n h np (B++ [b]) sp) n q=some (7,q):=fun q hq=>g0y (D:=nwD n h np (B++ [b]) sp) (i:=0) (d:=⟨7,h,f7 (n+1) (n+2) np⟩) rfl hq
 have r1:∀q,q<m->gdR n m (nwD n h np (B++ [b]) sp) (n+1) q=some (8,q):=fun q hq=>g0y (D:=nwD n h np (B++ [b]) sp) (i:=1) (d:=⟨8,h+1,f8 np sp⟩) rfl hq
 have r2:∀q,q<m->gdR n m (nwD n h np (B++ [b]) sp) (n+2) q=some (9,q):=fun q hq=>g0y (D:=nwD n h np (B++ [b]) sp) (i:=2) (d:=⟨9,h+2,f9 (B++ [b])⟩) rfl hq
 have s0:gdR n m (nwD n h np (B++ [b]) sp) n m=some (h,0):=f0s (D:=nwD n h np (B++ [b]) sp) (i:=0) (d:=⟨7,h,f7 (n+1) (n+2) np⟩) rfl;have s1:gdR n m (nwD n h np (B++ [b]) sp) (n+1) m=some (h+1,0):=f0s (D:=nwD n h np (B++ [b]) sp) (i:=1) (d:=⟨8,h+1,f8 np sp⟩) rfl;have s2:gdR n m (nwD n h np (B++ [b]) sp) (n+2) m=some (h+2,0):=f0s (D:=nwD n h np (B++ [b]) sp) (i:=2) (d:=⟨9,h+2,f9 (B++ [b])⟩) rfl;exact m0r (n:=n) (th:=5) (nwD n h np (B++ [b]) sp) (by omega) h5 (n0L rfl (t0e (by omega) r0 s0))
  ⟨⟨(show (7:Nat)≠5 by decide),(show h≠5 by omega),⟨_,_,h7,fun q hq=>⟨hq,b0k ⟨h0i (by omega) (r1 q hq),r0u (by omega) (r2 q hq),trivial⟩⟩⟩,_,k7,b0k ⟨h0i (by omega) s1,r0u (by omega) s2,trivial⟩⟩,
    ⟨(show (8:Nat)≠5 by decide),(show h+1≠5 by omega),⟨_,_,h8,fun q hq=>⟨hq,.inl rfl⟩⟩,_,k8,.inl rfl⟩,
    ⟨(show (9:Nat)≠5 by decide),(show h+2≠5 by omega),⟨_,_,h9,fun q hq=>⟨hq,.inl (x0J (by rw [hB];exact hq) b)⟩⟩,_,k9,.inl (x0K hB b)⟩,trivial⟩ hdist
set_option maxHeartbeats 1000000 in
theorem x0P {np m hn nc:Nat} {hs ds cd:List Int} {B:List Bk} {pr:List ByteArray} (hb:BksI ds B m np (sortS pr)) (hh:hs.length=hn) (hc:cd.length=nc) (hp:pr.length=np) (he:b0u pr=0) (cut t:Int) (f g c:ByteArray) (a:Int):FC Tryz.prog 10 17 [.ptr 1 0 0 0,.int .i64 t,.str f,.str g,.agg [.int .i64 a,.str c]] (mvH np m hn nc cut hs ds cd B pr) (mvO np m hs ds cd B pr (mvD hs cd (ofI hs cut t)) f g c a):=by
 have c1:=a1W np hn cut hs hh t;rw [p0S] at c1;have hX:=c1J (hs:=hs) (cut:=cut) (t:=t);have hg:∀d,(List.replicate nc true).getD (a0F cd d) false=decide (d∈cd):=m0m hc;generalize ofI hs cut t=X at*;have hD:mvF hs cd 100001 X=mvD hs cd X:=by unfold mvD;rfl
 generalize mvD hs cd X=D at*;obtain ⟨K0,hK⟩:∃K:Nat,K=100001:=⟨_,rfl⟩;rw [<-hK] at hD;refine fEx Tryz.func17 ?_;repeat' ((conv=>whnf);first|refine cOx (l:= [0,1,2,3,4,5,6,7,8,9]) c1 ?_|refine a0a ?_|(apply bRx<;>intro h<;>try (exfalso;(try dsimp only at h);omega)))
 all_goals (conv=>whnf)
 refine a0E (fun x:Nat×Int=>⟨[(0,.ptr 1 0 0 0),(2,.str f),(3,.str g),(9,.ptr 10 0 0 0),(12,.int .i64 (ofP x.2)),(13,.int .i64 (ofQ x.2))],(10,some (.one false (.cells [.int .i64 a,.str c])))::mvH np m hn nc cut hs ds cd B pr,11⟩) (fun x=>mvF hs cd x.1 x.2=D/\x.2<=99999/\(x.2<0\/100001-x.2<=(x.1:Int))) (fun x=>x.1) (K0,X) [0,1,2,3,4,5,6,7,8,9,10] [] wHx ⟨hD,hX,by dsimp only;omega⟩ ?_;rintro ⟨k,x⟩ ⟨hF,hx,hk⟩;dsimp only at hF hx hk;clear hD hX hK c1;by_cases h0:x<0
 .have e1:ofP x=0:=if_pos h0;have e2:ofQ x=14:=if_pos h0;dsimp only;rw [e1,e2];rw [x0I h0] at hF;subst hF;rw [a1Y (by decide)];repeat' ((conv=>whnf);first|refine a0a ?_|(apply bRx<;>intro h<;>try (exfalso;(try dsimp only at h);omega)))
  all_goals (conv=>whnf)
  all_goals first
   |exact rOx [0,1,2,3,4,5,6,7,8,9] k0L
   |(exfalso;omega)
   |trace_state
 .have e1:ofP x=x:=if_neg h0;have e2:ofQ x=0:=if_neg h0;dsimp only;rw [e1,e2];obtain ⟨k,rfl⟩:∃j,k=j+1:=⟨k-1,by omega⟩;simp only [mvF] at hF;rw [if_neg h0] at hF;have hgx:=hg x;by_cases hxc:x∈cd
  .rw [if_pos hxc] at hF;rw [decide_eq_true hxc] at hgx;have c2:=t0p np hn cut hs hh x (by omega) hx;rw [p0S] at c2;have hN:nxI hs (x+1)<=99999/\(nxI hs (x+1)<0\/x+1<=nxI hs (x+1)):=by
    by_cases q:nxI hs (x+1)<0
    .exact ⟨by omega,.inl q⟩
    .have:=x0C q;exact ⟨this.2.1,.inr this.1⟩
   generalize nxI hs (x+1)=y at*;repeat' ((conv=>whnf);first|refine cOx (l:= [0,1,2,3,4,5,6,7,8,9]) c2 ?_|refine a0a ?_|(apply bRx<;>intro h<;>try (exfalso;(try dsimp only at h);omega)))
   all_goals (conv=>whnf)
   all_goals first
    |exact ⟨(k,y),[0,1,2,3,4,5,6,7,8,9,10],[],⟨hF,hN.1,by dsimp only;omega⟩,l1q k,⟨rfl,⟨rfl,rfl,rfl,rfl,rfl,rfl,trivial⟩,⟨rfl,rfl,rfl,rfl,rfl,rfl,rfl,rfl,rfl,rfl,trivial⟩⟩⟩
    |(exfalso;rw [hgx] at h;cases h;done)
    |(exfalso;omega)
    |trace_state
  .rw [if_neg hxc] at hF;rw [decide_eq_false hxc] at hgx;subst hF;by_cases hd:x∈ds
   .have hi:a0F ds x<m:=by rw [<-hb.dl];exact b0e.2 hd
    obtain ⟨b1,b2,b3,b4⟩:=hb.I _ hi;have c3:=k0J (np:=np) hb.dl cut x hd;have c4:=x0H hi hb.bl b1 b2 b3 f g c a;have hat:c0V ds B pr x=B.getD (a0F ds x) bk0:=if_pos hd;have hput:=x0N hb.dl hd;rw [<-hat] at c4;by_cases hz:mvE (c0V ds B pr x) f g c a=0
    .rw [e1q h0 hz hd hb.dl];rw [hz] at c4;generalize (c0V ds B pr x).mv f g c a=b' at*;repeat' ((conv=>whnf);first|refine cOx (l:= [0,1,2,3,4,5,6,7,8,9]) c3 ?_|refine cOx (l:= [0,7,8,9]) c4 ?_|refine a0a ?_|(apply bRx<;>intro h<;>try (exfalso;(try dsimp only at h);omega)))
     all_goals (conv=>whnf)
     all_goals first
      |exact m0e (l:= [0,1,2,3,4,5,6,7,8,9,11,12,13]) [.relab (rdR 11 m (odD 11 np (B.set (a0F ds x) b') (sortS pr))) (fun _=>0) ((5,cyB false 11 m ds)::rdN 11 m 0 (odD 11 np (B.set (a0F ds x) b') (sortS pr))) [7,8,9] 3] ⟨e1r (n:=11) (by decide) hput rfl rfl rfl,rfl,rfl,⟨rfl,rfl,rfl,rfl,trivial⟩⟩ k0L
      |(exfalso;rw [hgx] at h;cases h;done)
      |(exfalso;omega)
      |trace_state
    .rw [x0L h0 hz];have hbs:mvE (c0V ds B pr x) f g c a≠0:=hz;have hmv:(c0V ds B pr x).mv f g c a=c0V ds B pr x:=if_neg hz;have hset:B.set (a0F ds x) (c0V ds B pr x)=B:=by
      rw [hat];refine k1M fun j=> ?_
      rw [j1H];split
      .rename_i e;subst e;rw [if_pos (by rw [hb.bl];exact hi),List.getD,k0n (by rw [hb.bl];exact hi)];rfl
      .rfl
     rw [hmv,hset] at c4;generalize mvE (c0V ds B pr x) f g c a=e at*;repeat' ((conv=>whnf);first|refine cOx (l:= [0,1,2,3,4,5,6,7,8,9]) c3 ?_|refine cOx (l:= [0,7,8,9]) c4 ?_|refine a0a ?_|(apply bRx<;>intro h<;>try (exfalso;(try dsimp only at h);omega)))
     all_goals (conv=>whnf)
     all_goals first
      |exact rOx [0,1,2,3,4,5,6,7,8,9] k0L
      |(exfalso;rw [hgx] at h;cases h;done)
      |(exfalso;omega)
      |trace_state
   .have c3:=k0K hb.dl hp he cut x hd;have hat:c0V ds B pr x=nwB pr:=if_neg hd;have c4:=p0R ((e1m he).up (B':=4503599627370496) (by decide)) hp rfl f g c a;have hput:=x0O (h:=11) hb.dl hd;rw [<-hat] at c4;by_cases hz:mvE (c0V ds B pr x) f g c a=0
    .rw [x0M h0 hz hd hb.dl];rw [hz] at c4;rw [hat] at c4;rw [hat];have hsp:(nwB pr).ps=sortS pr:=rfl;generalize hbb:(nwB pr).mv f g c a=b' at*;repeat' ((conv=>whnf);first|refine cOx (l:= [0,1,2,3,4,5,6,7,8,9]) c3 ?_|refine cOx (l:= [0,11,12,13]) c4 ?_|refine a0a ?_|(apply bRx<;>intro h<;>try (exfalso;(try dsimp only at h);omega)))
     all_goals (conv=>whnf)
     all_goals first
      |exact m0e (l:= [0,1,2,3,4,5,6,7,8,9,14,15,16]) [.relab (gdR 14 m (nwD 14 11 np (B++ [b']) (sortS pr))) (fun _=>0) ((5,cyB false 14 (m+1) (ds++ [x]))::gdN 14 (m+1) 0 (nwD 14 11 np (B++ [b']) (sortS pr))) [7,11,8,12,9,13] 3] ⟨e1s (n:=14) (h:=11) (by decide) (by decide) hb.bl hput rfl rfl rfl rfl rfl rfl rfl,rfl,rfl,⟨rfl,rfl,rfl,rfl,trivial⟩⟩ k0L
      |(exfalso;rw [hgx] at h;cases h;done)
      |(exfalso;omega)
      |trace_state
    .rw [x0L h0 hz];rw [hat] at c4 hz⊢;generalize mvE (nwB pr) f g c a=e at*;repeat' ((conv=>whnf);first|refine cOx (l:= [0,1,2,3,4,5,6,7,8,9]) c3 ?_|refine cOx (l:= [0,11,12,13]) c4 ?_|refine a0a ?_|(apply bRx<;>intro h<;>try (exfalso;(try dsimp only at h);omega)))
     all_goals (conv=>whnf)
     all_goals first
      |exact rOx [0,1,2,3,4,5,6,7,8,9] k0L
      |(exfalso;rw [hgx] at h;cases h;done)
      |(exfalso;omega)
      |trace_state
end
section
attribute [local irreducible] a0q a0r a0k a0P sortI
theorem b1a:FC Tryz.prog 1 5 [.nsl] [] (g1r [] 0):=
 x0h (n:=1) (args:= [.nsl]) (args1:= [.sl 1 0 0 0]) (cs:= [.sc (.ints .i64 [])]) rfl (by exact ⟨.inr ⟨rfl,rfl⟩,trivial⟩) (w0U [] 0 rfl)
theorem x0Q:b0u p3=0:=by kernel_rfl
theorem g1H:nwB p3=k0:=by unfold nwB;rw [k0H];rfl
abbrev cyH (np m hn nc:Nat) (cut:Int) (hs ds cd:List Int) (B:List Bk) (pr sp:List ByteArray):a0j:=(1,cyC false 2 4 5 6 np cut)::(2,v0C false 3)::(3,tmM false hn hs)::(4,cyP false np pr)::(6,tmM false nc cd)::t0r 5 7 8 9 np m ds B sp
def maO (cut:Int):SV->a0j->Nat->Prop:=if cut<0\/86400<cut then a0h (.tup [.nptr,.int .i64 4]) [] 1 else a0h (.tup [.ptr 1 0 0 0,.int .i64 0]) (cyH 3 0 0 0 cut [] [] [] [] p3 p3) 10
theorem b1b (cut:Int):FC Tryz.prog 1 14 [.int .i64 cut] [] (maO cut):=by
 have c1:=b1a;unfold g1r at c1;rw [if_pos (by rfl)] at c1;have c2:=c1H cut p3 3 rfl;unfold cnO cnE at c2;rw [x0Q,k0H] at c2;unfold maO;by_cases h:cut<0\/86400<cut
 .rw [if_pos h,if_neg (by decide)] at c2;rw [if_pos h];refine fEx Tryz.func14 ?_;repeat' ((conv=>whnf);first|refine cOx (l:= [0]) c1 ?_|refine cOx (l:= [0,2,4]) c2 ?_|refine a0a ?_|(apply bRx<;>intro h<;>try (exfalso;(try dsimp only at h);omega)))
  all_goals (conv=>whnf)
  all_goals first
   |exact rOx [0] a0b
   |(exfalso;omega)
   |trace_state
 .rw [if_neg h,if_pos rfl] at c2;rw [if_neg h];refine fEx Tryz.func14 ?_;repeat' ((conv=>whnf);first|refine cOx (l:= [0]) c1 ?_|refine cOx (l:= [0,2,4]) c2 ?_|refine a0a ?_|(apply bRx<;>intro h<;>try (exfalso;(try dsimp only at h);omega)))
  all_goals (conv=>whnf)
  all_goals first
   |(exfalso;omega)
   |exact rOx [0,5,2,3,6,7,8,9,10,11] (a0d (a0d (a0d (a0d (a0d k0L)))))
   |trace_state
def k5:Bk:=⟨3,p3,1,[v0D],[[-5,5,0,0,0,0,0,0,0,0,0,0,0,0,0,0]],[0],1⟩
def l5:List Px:= [⟨⟨#[97]⟩,-5,v0D⟩,⟨⟨#[98]⟩,5,v0D⟩]
theorem g1I:mvE k0 ⟨#[97]⟩ ⟨#[98]⟩ v0D 5=0:=by kernel_rfl
theorem g1J:k0.mv ⟨#[97]⟩ ⟨#[98]⟩ v0D 5=k5:=by kernel_rfl
theorem j1c:BkI k0 4503599627370496:=by
 have h:=(e1m x0Q).up (B':=4503599627370496) (by decide)
 rwa [g1H] at h
theorem j1d:BkI k5 4503599627370496:=by rw [<-g1J];exact i1R j1c _ _ _ _
theorem e1t:k5.list=l5:=by
 unfold Bk.list;rw [show sortS k5.cs= [v0D] from a1V v0D]
 kernel_rfl
theorem g1K:nxI [] 2=4:=by
 rw [s0W (by decide) (by decide),show (2:Int)+1=3 from rfl,s0W (by decide) (by decide),show (3:Int)+1=4 from rfl,n0z (by decide) (by decide)]
theorem g1L:nxI [] 1=1:=n0z (by decide) (by decide)
theorem e1u:mvD [] [1] 1=4:=by
 have e:∀k,mvF [] [1] (k+1+1) 1=4:=by
  intro k;simp only [mvF];rw [if_neg (by decide),if_pos (by decide),show (1:Int)+1=2 from rfl,g1K,if_neg (by decide),if_neg (by decide)]
 unfold mvD;exact e 99999
theorem x0R:b0m Tryz.prog 4 [] (.bool true):=by
 have c1:=b1b 3600;unfold maO at c1;rw [if_neg (by decide)] at c1;have c2:=a1W 3 0 3600 [] rfl 3599;rw [show ofV (ofI [] 3600 3599)= .tup [.int .i64 0,.int .i64 0] from by rfl] at c2;have c3:=a1W 3 0 3600 [] rfl 3600;have e3:ofI [] 3600 3600=1:=by
  unfold ofI;rw [if_neg (by decide),if_neg (by decide),show j0f 3600+1=1 from rfl,g1L]
 rw [e3,show ofV 1= .tup [.int .i64 1,.int .i64 0] from by rfl] at c3;have hb0:BksI [] [] 0 3 p3:=⟨rfl,rfl,k1I,fun i h=>by omega⟩;have c4:=t0q (hs:= []) (cd:= []) hb0 rfl rfl (by decide) 3600 1;have e4:clE [] [] [] 1=0:=by
  unfold clE;rw [if_neg (by decide),if_neg (by simp),if_neg (by simp [e0J,sortI])]
 unfold clO at c4;rw [e4,if_pos rfl,show m0u [] [] 1= [] from rfl] at c4;have c5:=x0P (np:=3) (hs:= []) (cd:= [1]) (pr:=p3) (by rw [k0H];exact hb0) rfl rfl rfl x0Q 3600 3600 ⟨#[97]⟩ ⟨#[98]⟩ v0D 5;have hO:mvO 3 0 [] [] [1] [] p3 4 ⟨#[97]⟩ ⟨#[98]⟩ v0D 5=a0h (.tup [.int .i64 4,.int .i64 0]) (t0r 5 10 11 12 3 1 [4] [k5] p3) 13:=by
  have hat:c0V [] [] p3 4=k0:=g1H;rw [x0M (m:=0) (by decide) (by rw [hat];exact g1I) (by simp) rfl,hat,g1J,k0H];rfl
 rw [e3,e1u,hO] at c5;have hb5:BksI [4] [k5] 1 3 p3:=⟨rfl,rfl,by simp,fun i h=>by
  obtain rfl:i=0:=by omega
  exact ⟨j1d,rfl,rfl,by decide⟩⟩
 have c6:=f0w hb5 3600 4;rw [show m0u [4] [k5] 4=l5 from by unfold m0u;rw [if_pos (by simp)];exact e1t] at c6;unfold mvH at c5;rw [k0H] at c5;refine fEx Tryz.func4 ?_;repeat' ((conv=>whnf);first|refine cOx (l:= [0]) c1 ?_|refine cOx (l:= [0,1,2,3,4,5,6,7,8,9]) c2 ?_|refine cOx (l:= [0,1,2,3,4,5,6,7,8,9]) c3 ?_|refine cOx (l:= [0,1,2,3,4,5,6,7,8,9]) c4 ?_|refine cOx (l:= [0,1,2,3,4,5,6,7,8,9]) c5 ?_|refine cOx (l:= [0,1,2,3,4,5,6,11,12,13]) c6 ?_|refine a0a ?_|(apply bRx<;>intro h<;>try (exfalso;(try dsimp only at h);omega)))
 all_goals (conv=>whnf)
 all_goals first
  |exact a0c rfl
  |trace_state
end
section
attribute [local irreducible] a0q a0r a0k a0P sortI
theorem e0q (d:Int):b0m Tryz.prog 20 [.int .i64 d] (.bool (isD d)):=by
 unfold isD;by_cases h1:0<=d<;>by_cases h2:d<=99999;all_goals simp only [h1,h2,decide_true,decide_false,l1H,k1L,j1O,j1I]
 all_goals refine fEx Tryz.func20 ?_
 all_goals repeat' ((conv=>whnf);first|refine a0a ?_|(apply bRx<;>intro h<;>try (exfalso;(try dsimp only at h);omega)))
 all_goals (conv=>whnf)
 all_goals first
  |exact a0c rfl
  |exact a0c (congrArg SV.bool (by simp;omega))
  |(exfalso;omega)
  |trace_state
theorem r0G (d:Int):b0m Tryz.prog 74 [.int .i64 d] (.int .i64 (wkI d)):=by
 have c:=e0q d;unfold wkI;cases h:isD d with
 |true=>
  have hd:=f0o.1 h;rw [h] at c;rw [if_pos rfl];refine fEx Tryz.func74 ?_;repeat' ((conv=>whnf);first|refine cPx c ?_|refine a0a ?_|(apply bRx<;>intro h<;>try (exfalso;(try dsimp only at h);omega)))
  all_goals (conv=>whnf)
  all_goals first
   |exact a0c (congrArg (SV.int .i64) (by rw [a0m (n:=d+3) (by omega) (by omega),j0e (by omega)]))
   |(exfalso;omega)
   |trace_state
 |false=>
  rw [h] at c;rw [if_neg (by simp)];refine fEx Tryz.func74 ?_;repeat' ((conv=>whnf);first|refine cPx c ?_|refine a0a ?_|(apply bRx<;>intro h<;>try (exfalso;(try dsimp only at h);omega)))
  all_goals (conv=>whnf)
  all_goals first
   |exact a0c rfl
   |(exfalso;omega)
   |trace_state
theorem e1v (t:Int):b0m Tryz.prog 55 [.int .i64 t] (.tup [.int .i64 (j0f t),.int .i64 (a1I t)]):=by
 have c:=e0q (t/86400);unfold j0f a1I;by_cases h1:0<=t
 .by_cases h2:t<=1099511627776
  .have e1:IntKind.i64.wrap (t.tdiv 86400)=t/86400:=by rw [s0V h1,a0m (by omega) (by omega)]
   have e2:t.tmod 86400=t%86400:=j0e h1;cases h3:isD (t/86400) with
   |true=>
    have hk:okT t=true:=e0G.2 ⟨h1,h2,h3⟩;rw [h3] at c;rw [if_pos hk,if_pos hk];refine fEx Tryz.func55 ?_;repeat' ((conv=>whnf);first|(simp only [e1])|refine cPx c ?_|refine a0a ?_|(apply bRx<;>intro h<;>try (exfalso;(try dsimp only at h);omega)))
    all_goals (conv=>whnf)
    all_goals (try simp only [e2])
    all_goals first
     |exact a0c rfl
     |(exfalso;omega)
     |trace_state
   |false=>
    have hk:¬okT t=true:=fun q=>by have:=(e0G.1 q).2.2;rw [h3] at this;cases this
    rw [h3] at c;rw [if_neg hk,if_neg hk];refine fEx Tryz.func55 ?_;repeat' ((conv=>whnf);first|(simp only [e1])|refine cPx c ?_|refine a0a ?_|(apply bRx<;>intro h<;>try (exfalso;(try dsimp only at h);omega)))
    all_goals (conv=>whnf)
    all_goals first
     |exact a0c rfl
     |(exfalso;omega)
     |trace_state
  .have hk:¬okT t=true:=fun q=>h2 (e0G.1 q).2.1
   rw [if_neg hk,if_neg hk];refine fEx Tryz.func55 ?_;repeat' ((conv=>whnf);first|refine a0a ?_|(apply bRx<;>intro h<;>try (exfalso;(try dsimp only at h);omega)))
   all_goals (conv=>whnf)
   all_goals first
    |exact a0c rfl
    |(exfalso;omega)
    |trace_state
 .have hk:¬okT t=true:=fun q=>h1 (e0G.1 q).1
  rw [if_neg hk,if_neg hk];refine fEx Tryz.func55 ?_;repeat' ((conv=>whnf);first|refine a0a ?_|(apply bRx<;>intro h<;>try (exfalso;(try dsimp only at h);omega)))
  all_goals (conv=>whnf)
  all_goals first
   |exact a0c rfl
   |(exfalso;omega)
   |trace_state
abbrev rcC (ro:Bool) (h n:Nat):Option HB:=some (.one ro (.cells [.sl h 0 0 n]))
abbrev inB (n:Nat) (l:List Int):Option HB:=some (.one true (.cols n [.sc (.ints .i64 l)]))
def r3O (l:List Int) (n:Nat):SV->a0j->Nat->Prop:=if c1r l n=0 then a0h (.tup [.ptr 2 0 0 0,.int .i64 0]) [(2,rcC false 1 n)] 3 else a0h (.tup [.nptr,.int .i64 (c1r l n)]) [] 2
theorem e1w (l:List Int) (n:Nat) (hn:n<=maxLen):FC Tryz.prog 2 6 [.sl 1 0 0 n] [(1,inB n l)] (r3O l n):=by
 have eM:maxLen=9223372036854775807:=rfl;unfold r3O c1r;by_cases h4:400<n
 .rw [if_pos h4,if_neg (by decide)];refine fEx Tryz.func6 ?_;repeat' ((conv=>whnf);first|refine a0a ?_|(apply bRx<;>intro h<;>try (exfalso;(try dsimp only at h);omega)))
  all_goals (conv=>whnf)
  all_goals first
   |exact rOx [0,1] a0b
   |(exfalso;omega)
   |trace_state
 rw [if_neg h4];refine fEx Tryz.func6 ?_;repeat' ((conv=>whnf);first|refine a0a ?_|(apply bRx<;>intro h<;>try (exfalso;(try dsimp only at h);omega)))
 all_goals (conv=>whnf)
 all_goals first
  |(exfalso;omega)
  |skip
 refine a0f (fun k:Nat=>⟨[(0,.sl 1 0 0 n),(4,.int .i64 k)],[(1,inB n l)],2⟩) (fun k=>k<=n/\z0B l k=true) (fun k=>n-k) 0 [0,1] [] wHx ⟨w0F _,rfl⟩ ?_;rintro k ⟨hk,hh⟩;by_cases hk2:k<n
 .have c:=e0q (l.getD k 0);cases hb:isD (l.getD k 0) with
  |false=>
   rw [hb] at c;rw [if_neg (by rw [if_neg (by rw [f0q hb n hk2];simp)];decide),if_neg (by rw [f0q hb n hk2];simp)];repeat' ((conv=>whnf);first|refine cPx c ?_|refine a0a ?_|(apply bRx<;>intro h<;>try (exfalso;(try dsimp only at h);omega)))
   all_goals (conv=>whnf)
   all_goals first
    |exact rOx [0,1] a0b
    |(exfalso;omega)
    |trace_state
  |true=>
   rw [hb] at c;have hh2:z0B l (k+1)=true:=by simp only [z0B,hh,hb,l1H]
   repeat' ((conv=>whnf);first|refine cPx c ?_|refine a0a ?_|(apply bRx<;>intro h<;>try (exfalso;(try dsimp only at h);omega)))
   all_goals (conv=>whnf)
   all_goals first
    |exact ⟨k+1,[0,1],[],⟨hk2,hh2⟩,(show n-(k+1)<n-k by omega),⟨rfl,⟨rfl,congrArg (fun z=>some (SV.int .i64 z)) (a0e (by omega)),trivial⟩,⟨rfl,trivial⟩⟩⟩
    |(exfalso;omega)
    |trace_state
 .have e:k=n:=by omega
  subst e;rw [if_pos (by rw [if_pos hh])];repeat' ((conv=>whnf);first|refine a0a ?_|(apply bRx<;>intro h<;>try (exfalso;(try dsimp only at h);omega)))
  all_goals (conv=>whnf)
  all_goals first
   |exact rOx [0,1,2] (a0d a0b)
   |(exfalso;omega)
   |trace_state
theorem b1c {l:List Int} {x:Int}:∀{k:Nat},k<=l.length->(¬∃i,i<k/\l.getD i 0=x)->¬x∈l.take k
 |k,hk,h,hx=>by
  obtain ⟨i,hi,e⟩:=d1O hx;rw [d1P] at hi;rw [k1N] at e;exact h ⟨i,by omega,by rw [List.getD,k0n (by omega)];exact e⟩
theorem f0x (l:List Int) (n:Nat) (hl:l.length=n) (hn:n<=100000) (d:Int):FC Tryz.prog 3 49 [.ptr 1 0 0 0,.int .i64 d] [(1,rcC true 2 n),(2,inB n l)] (a0h (.bool (j0g l d)) [] 3):=by
 have c1:=e0q d;have c2:=r0G d;unfold j0g;cases h:isD d with
 |false=>
  rw [h] at c1;rw [j1I];refine fEx Tryz.func49 ?_;repeat' ((conv=>whnf);first|refine cPx c1 ?_|refine cPx c2 ?_|refine a0a ?_|(apply bRx<;>intro h<;>try (exfalso;(try dsimp only at h);omega)))
  all_goals (conv=>whnf)
  all_goals first
   |exact rOx [0,1,2] a0b
   |(exfalso;omega)
   |trace_state
 |true=>
  have hd:=f0o.1 h;unfold wkI at c2;rw [if_pos h] at c2;rw [h] at c1;rw [j1O];by_cases q:(d+3)%7<5
  .rw [decide_eq_true q,j1O];refine fEx Tryz.func49 ?_;repeat' ((conv=>whnf);first|refine cPx c1 ?_|refine cPx c2 ?_|refine a0a ?_|(apply bRx<;>intro h<;>try (exfalso;(try dsimp only at h);omega)))
   all_goals (conv=>whnf)
   all_goals first
    |(exfalso;omega)
    |skip
   refine a0f (fun k:Nat=>⟨[(0,.ptr 1 0 0 0),(1,.int .i64 d),(5,.int .i64 k)],[(1,rcC true 2 n),(2,inB n l)],3⟩) (fun k=>k<=n/\∀i,i<k->l.getD i 0≠d) (fun k=>n-k) 0 [0,1,2] [] wHx ⟨w0F _,fun i hi=>by omega⟩ ?_;rintro k ⟨hk,hi⟩;by_cases hk2:k<n
   .by_cases e:l.getD k 0=d
    .have hm:d∈l:=by
      rw [<-e,List.getD,k0n (by omega)];exact g1v _
     rw [decide_eq_true hm];repeat' ((conv=>whnf);first|refine a0a ?_|(apply bRx<;>intro h<;>try (exfalso;(try dsimp only at h);omega)))
     all_goals (conv=>whnf)
     all_goals first
      |exact rOx [0,1,2] a0b
      |(exfalso;first|omega|contradiction)
      |trace_state
    .have hi2:∀i,i<k+1->l.getD i 0≠d:=fun i hx=>by
      by_cases w:i=k
      .rw [w];exact e
      .exact hi i (by omega)
     repeat' ((conv=>whnf);first|refine a0a ?_|(apply bRx<;>intro h<;>try (exfalso;(try dsimp only at h);omega)))
     all_goals (conv=>whnf)
     all_goals first
      |exact ⟨k+1,[0,1,2],[],⟨hk2,hi2⟩,(show n-(k+1)<n-k by omega),⟨rfl,⟨rfl,rfl,congrArg (fun z=>some (SV.int .i64 z)) (a0e (by omega)),trivial⟩,⟨rfl,rfl,trivial⟩⟩⟩
      |(exfalso;first|omega|contradiction)
      |trace_state
   .have hm:¬d∈l:=by
     have:=b1c (l:=l) (x:=d) (k:=k) (by omega) (fun ⟨i,h1,h2⟩=>hi i h1 h2)
     rwa [k1j (by omega)] at this
    rw [decide_eq_false hm];repeat' ((conv=>whnf);first|refine a0a ?_|(apply bRx<;>intro h<;>try (exfalso;(try dsimp only at h);omega)))
    all_goals (conv=>whnf)
    all_goals first
     |exact rOx [0,1,2] a0b
     |(exfalso;omega)
     |trace_state
  .rw [decide_eq_false q,j1I];refine fEx Tryz.func49 ?_;repeat' ((conv=>whnf);first|refine cPx c1 ?_|refine cPx c2 ?_|refine a0a ?_|(apply bRx<;>intro h<;>try (exfalso;(try dsimp only at h);omega)))
   all_goals (conv=>whnf)
   all_goals first
    |exact rOx [0,1,2] a0b
    |(exfalso;omega)
    |trace_state
theorem r0H:∀(L l:List Int),L.Nodup->(∀x∈L,x∈l)->L.length<=l.length
 | [],l,_,_=>w0F _
 |x::L,l,hd,h=>by
  obtain ⟨h1,h2⟩:=k1P.1 hd;have hx:=h x (l1f);have:=r0H L (l.erase x) h2 (fun y hy=>(List.mem_erase_of_ne (fun e:y=x=>h1 (e▸hy))).2 (h y (k1K _ hy)));rw [List.length_erase_of_mem hx] at this;have:=List.length_pos_of_mem hx;simp only [d1G];omega
theorem c1K (l:List Int) (cut t:Int):ofI (ddS l) cut t=ofI l cut t:=by
 unfold ofI;rw [c1q,r0m]
end
section
attribute [local irreducible] a0q a0r a0k a0P
end
section
def plt (x y:Px):Bool:=a0D x.c y.c||(seq x.c y.c&&a0D x.p y.p)
theorem b1d {a b:ByteArray}:seq a b=true↔a=b:=by unfold seq;exact decide_eq_true_iff
theorem d0z {x y:Px}:plt x y=true↔a0D x.c y.c=true\/(x.c=y.c/\a0D x.p y.p=true):=by
 unfold plt;rw [j1E,k0o,b1d]
theorem i0l (x:Px):plt x x=false:=by
 cases h:plt x x with
 |false=>rfl
 |true=>
  rcases d0z.1 h with h|⟨_,h⟩
  .rw [a0p] at h;cases h
  .rw [a0p] at h;cases h
theorem f0y {x y z:Px} (h:plt x y=true) (k:plt y z=true):plt x z=true:=by
 rw [d0z] at*;rcases h with h|⟨h1,h2⟩
 .rcases k with k|⟨k1,k2⟩
  .exact .inl (d0t h k)
  .exact .inl (k1▸h)
 .rcases k with k|⟨k1,k2⟩
  .exact .inl (h1▸k)
  .exact .inr ⟨h1.trans k1,d0t h2 k2⟩
theorem k0M {x y:Px} (h:plt x y=true):plt y x=false:=by
 cases k:plt y x with
 |false=>rfl
 |true=>
  have:=f0y h k;rw [i0l] at this;cases this
def p0T (x y:Px):Prop:=x.p=y.p/\x.c=y.c
theorem h0x {x y:Px} (h:plt x y=false) (hne:¬p0T x y):plt y x=true:=by
 rw [d0z];by_cases hc:x.c=y.c
 .by_cases hp:x.p=y.p
  .exact absurd ⟨hp,hc⟩ hne
  .right;refine ⟨hc.symm,?_⟩;cases k:a0D x.p y.p with
   |true=>rw [d0z.2 (.inr ⟨hc,k⟩)] at h;cases h
   |false=>exact c0w k hp
 .left;cases k:a0D x.c y.c with
  |true=>rw [d0z.2 (.inl k)] at h;cases h
  |false=>exact c0w k hc
theorem v0g {l m:List Px} (hp:l.Perm m) (hl:l.Pairwise (fun a b=>plt a b=true)) (hm:m.Pairwise (fun a b=>plt a b=true)):l=m:=
 k1x (le:=fun a b=>plt a b=true) (fun a b _ _ h1 h2=>by rw [k0M h1] at h2;cases h2) hl hm hp
def g0A (l:List Px):Prop:=l.Pairwise (fun a b=>¬p0T a b)
theorem f0P {a b:Px} (h:p0T a b):p0T b a:=⟨h.1.symm,h.2.symm⟩
theorem p0U {l m:List Px} (h:l.Perm m) (hl:g0A l):g0A m:=List.Perm.pairwise h hl (fun {a b} h k=>h (f0P k))
theorem b1e {l:List Px} (h:l.Pairwise (fun a b=>plt a b=true)):g0A l:=by
 refine h.imp fun {a b} hab e=> ?_
 rcases d0z.1 hab with k|⟨_,k⟩
 .rw [e.2,a0p] at k;cases k
 .rw [e.1,a0p] at k;cases k
def srt (l:List Px):List Px:=l.mergeSort (fun x y=> !plt y x)
theorem h0y (l:List Px):(srt l).Perm l:=l1Z l _
theorem v0h {x y z:Px} (h:plt y x=false) (k:plt z y=false):plt z x=false:=by
 cases e:plt z x with
 |false=>rfl
 |true=>
  by_cases hs:p0T x y
  .have:plt z y=true:=by
    rw [d0z] at e⊢;rw [<-hs.1,<-hs.2];exact e
   rw [this] at k;cases k
  .have:=f0y e (h0x h (fun q=>hs (f0P q)));rw [this] at k;cases k
theorem e1x {l:List Px} (hd:g0A l):(srt l).Pairwise (fun a b=>plt a b=true):=by
 have h1:=l1E (le:=fun x y:Px=> !plt y x) (fun a b c h k=>by
  simp only [d1I] at*;exact v0h h k) (fun a b=>by
  cases h:plt b a with
  |false=>rfl
  |true=>simp [k0M h]) l
 have h2:g0A (srt l):=p0U (h0y l).symm hd;refine (h1.and h2).imp ?_;rintro a b ⟨k1,k2⟩;simp only [d1I] at k1;exact h0x k1 (fun q=>k2 (f0P q))
theorem x0S {l m:List Px} (hp:m.Perm l) (hm:m.Pairwise (fun a b=>plt a b=true)):srt l=m:=
 v0g ((h0y l).trans hp.symm) (e1x (p0U hp (b1e hm))) hm
theorem atP (L:List Px) (j:Nat):(a0y L).p.getD j ⟨#[]⟩=(L.getD j px0).p/\(a0y L).a.getD j 0=(L.getD j px0).a/\(a0y L).c.getD j ⟨#[]⟩=(L.getD j px0).c:=by
 unfold a0y;simp only [List.getD,a1u];cases L[j]?<;>exact ⟨rfl,rfl,rfl⟩
theorem c0K {L:List Px} {k:Nat} (hk:k<L.length):L.take (k+1)=L.take k++ [L.getD k px0]:=by
 rw [j1x hk,List.getD,k0n hk];rfl
def nz (R:List Px):List Px:=R.filter (fun x=>decide (x.a≠0))
abbrev Asc (l:List Px):Prop:=l.Pairwise (fun a b=>plt a b=true)
theorem p0V (A B:List Px):nz (A++B)=nz A++nz B:=j1v _ _
theorem e1y {O:List Px} {x:Px} {k:Nat} (hk:k<=O.length) (ha:Asc O) (hlt:∀j,j<k->plt (O.getD j px0) x=true) (hge:k<O.length->plt (O.getD k px0) x=false) (hx:∀y∈O,¬p0T y x):Asc (O.take k++x::O.drop k):=by
 have h1:∀y∈O.take k,plt y x=true:=by
  intro y hy;obtain ⟨j,hj,rfl⟩:=d1O hy;have hj':j<k:=by rw [d1P] at hj;omega
  have:=hlt j hj';rw [List.getD,k0n (by omega)] at this;rw [k1N];exact this
 have hd:Asc (O.drop k):=ha.sublist (l1l k O);have h2:∀y∈O.drop k,plt x y=true:=by
  intro y hy;have hkl:k<O.length:=by
   refine k1U fun h=> ?_
   rw [l1M h] at hy;cases hy
  have hh:=hge hkl;have hxk:plt x (O.getD k px0)=true:=by
   refine h0x hh fun e=>hx (O.getD k px0) ?_ e
   rw [List.getD,k0n hkl];exact g1v hkl
  rw [l1d hkl] at hy hd;rcases a1q.1 hy with rfl|hy
  .rw [List.getD,k0n hkl] at hxk;exact hxk
  .rw [List.getD,k0n hkl] at hxk;exact f0y hxk ((k1Y.1 hd).1 y hy)
 refine j1z.2 ⟨ha.sublist (l1O k O),k1Y.2 ⟨h2,hd⟩,?_⟩;intro a ha1 b hb;rcases a1q.1 hb with rfl|hb
 .exact h1 a ha1
 .exact f0y (h1 a ha1) (h2 b hb)
theorem b1f {α:Type} (O:List α) (x:α) (k:Nat):(O.take k++x::O.drop k).Perm (O++ [x]):=by
 have h1:(O.take k++x::O.drop k).Perm (x::(O.take k++O.drop k)):=List.perm_middle;rw [k1o] at h1;exact h1.trans (List.perm_append_comm (l₁:= [x]))
theorem t0t {R:List Px} (hd:g0A R) {i:Nat} (hi:i<R.length):∀y∈R.take i,¬p0T y (R.getD i px0):=by
 intro y hy;obtain ⟨j,hj,rfl⟩:=d1O hy;rw [d1P] at hj;rw [k1N,List.getD,k0n hi];exact g1z.1 hd j i (by omega) hi (by omega)
theorem e1z (L:List Px) (k:Nat):(⟨(a0y L).p.getD k ⟨#[]⟩,(a0y L).a.getD k 0,(a0y L).c.getD k ⟨#[]⟩⟩:Px)=L.getD k px0:=by
 obtain ⟨a1,a2,a3⟩:=atP L k;rw [a1,a2,a3]
structure SoI (R:List Px) (i m:Nat) (O:List Px):Prop where
 le:i<=R.length
 m:O.length=m
 asc:Asc O
 perm:O.Perm (nz (R.take i))
theorem b1g {R:List Px} {i m:Nat} {O:List Px} (h:SoI R i m O) (hi:i<R.length) (hz:(R.getD i px0).a=0):SoI R (i+1) m O:=by
 refine ⟨hi,h.m,h.asc,?_⟩;rw [c0K hi,p0V,show nz [R.getD i px0]= [] from by unfold nz;rw [j1y,if_neg (by simpa using hz)];rfl,l1K];exact h.perm
theorem e1A {R:List Px} {i m k:Nat} {O:List Px} (h:SoI R i m O) (hd:g0A R) (hi:i<R.length) (hz:(R.getD i px0).a≠0) (hk:k<=m) (hlt:∀j,j<k->plt (O.getD j px0) (R.getD i px0)=true) (hge:k<m->plt (O.getD k px0) (R.getD i px0)=false):SoI R (i+1) (m+1) (O.take k++R.getD i px0::O.drop k):=by
 have hm:=h.m;refine ⟨hi,by simp;omega,e1y (by omega) h.asc hlt (fun q=>hge (by omega)) ?_,?_⟩
 .intro y hy;exact t0t hd hi y (j1j.1 (h.perm.subset hy)).1
 .rw [c0K hi,p0V,show nz [R.getD i px0]= [R.getD i px0] from by unfold nz;rw [j1y,if_pos (decide_eq_true hz)];rfl];exact (b1f O _ k).trans (h.perm.append_right _)
theorem t0u {α:Type} (l:List α) (k:Nat):seg 0 k l=l.take k:=rfl
theorem j0m {α:Type} {l:List α} {k m:Nat} (h:l.length=m):seg (k+0) (m-k) l=l.drop k:=by
 unfold seg;rw [w0G,k1j (by rw [j1C];omega)]
end
section
attribute [local irreducible] a0q a0r a0k a0P
def idC (c:Int):Prop:=(97<=c/\c<=122)\/(65<=c/\c<=90)\/(48<=c/\c<=57)\/c=95\/c=45
instance (c:Int):Decidable (idC c):=by unfold idC;infer_instance
def idB (s:ByteArray):Bool:=decide (∀k,k<s.size->idC (a0i s (k:Int)))&&decide (1<=s.size)&&decide (s.size<=16)
theorem g1M {s:ByteArray} {k:Nat} (h:k<s.size) (hc:¬idC (a0i s (k:Int))):idB s=false:=by
 unfold idB;rw [decide_eq_false (fun hh=>hc (hh k h))];rfl
theorem x0T {s:ByteArray} (h:∀k,k<s.size->idC (a0i s (k:Int))):idB s=(decide (1<=s.size)&&decide (s.size<=16)):=by
 unfold idB;rw [decide_eq_true h];rfl
theorem g1N {s:ByteArray} (h:idB s=true):(∀k,k<s.size->idC (a0i s (k:Int)))/\1<=s.size/\s.size<=16:=by
 unfold idB at h;simp only [k0o,decide_eq_true_eq] at h;exact ⟨h.1.1,h.1.2,h.2⟩
theorem e1B {s:ByteArray} {k:Nat} (h:∀i,i<k->idC (a0i s (i:Int))) (hk:idC (a0i s (k:Int))):∀i,i<k+1->idC (a0i s (i:Int)):=by
 intro i hi;by_cases e:i=k
 .subst e;exact hk
 .exact h i (by omega)
theorem v0i (s:ByteArray) (hs:s.size<=9223372036854775807):b0m Tryz.prog 68 [.str s] (.bool (idB s)):=by
 refine fEx Tryz.func68 ?_
 (conv=>whnf)
 refine a0f (fun k:Nat=>⟨[(0,.str s),(3,.int .i64 k)],[],1⟩) (fun k=>k<=s.size/\∀i,i<k->idC (a0i s (i:Int))) (fun k=>s.size-k) 0 [0] [] wHx ⟨by omega,fun i hi=>by omega⟩ ?_;rintro k ⟨hk,hc⟩;by_cases hk2:k<s.size
 .by_cases hi:idC (a0i s (k:Int))
  .have hn:=e1B hc hi;unfold idC at hi;repeat' ((conv=>whnf);first|refine a0a ?_|(apply bRx<;>intro h<;>try (exfalso;(try dsimp only at h);omega)))
   all_goals (conv=>whnf)
   all_goals first
    |exact ⟨k+1,[0],[],⟨hk2,hn⟩,(show s.size-(k+1)<s.size-k by omega),⟨rfl,⟨rfl,congrArg (fun z=>some (SV.int .i64 z)) (p0Q (by omega)),trivial⟩,trivial⟩⟩
    |(exfalso;first|omega|(simp at*;omega))
    |trace_state
  .rw [g1M hk2 hi];unfold idC at hi;repeat' ((conv=>whnf);first|refine a0a ?_|(apply bRx<;>intro h<;>try (exfalso;(try dsimp only at h);omega)))
   all_goals (conv=>whnf)
   all_goals first
    |exact a0c rfl
    |(exfalso;first|omega|(simp at*;omega))
    |trace_state
 .have e:k=s.size:=by omega
  subst e;rw [x0T hc];by_cases w1:1<=s.size<;>by_cases w2:s.size<=16;all_goals simp only [w1,w2,decide_true,decide_false,l1H,k1L,j1O,j1I]
  all_goals repeat' ((conv=>whnf);first|refine a0a ?_|(apply bRx<;>intro h<;>try (exfalso;(try dsimp only at h);omega)))
  all_goals (conv=>whnf)
  all_goals first
   |exact a0c rfl
   |exact a0c (congrArg SV.bool (decide_eq_true (by omega)))
   |exact a0c (congrArg SV.bool (decide_eq_false (by omega)))
   |(exfalso;omega)
   |trace_state
theorem g1O {s:ByteArray}:nmB s=true↔idB s=true/\ltP (a0i s 0)/\∀k,k<s.size->a0i s (k:Int)≠45:=by
 constructor
 .intro h;unfold nmB at h;simp only [k0o,decide_eq_true_eq] at h;have hw:=fun k (hk:k<s.size)=>w0P hk h.2
  refine ⟨?_,h.1.2,fun k hk=> ?_⟩
  .rw [x0T (fun k hk=>by have:=hw k hk;unfold wdP ltP at this;unfold idC;omega),decide_eq_true h.1.1.1,decide_eq_true h.1.1.2];rfl
  .have:=hw k hk;unfold wdP ltP at this;omega
 .rintro ⟨h1,h2,h3⟩;obtain ⟨g1,g2,g3⟩:=g1N h1;unfold nmB;have hw:q0A s s.size=true:=by
   cases e:q0A s s.size with
   |true=>rfl
   |false=>
    obtain ⟨k,q1,_,q3⟩:=i0c _ e;exfalso;have a:=g1 k q1;have b:=h3 k q1;unfold idC at a;unfold wdP ltP at q3;omega
  rw [hw,decide_eq_true g2,decide_eq_true g3,decide_eq_true h2];rfl
theorem e1C {s:ByteArray} (h:¬(idB s=true/\ltP (a0i s 0)/\∀k,k<s.size->a0i s (k:Int)≠45)):nmB s=false:=by
 cases e:nmB s with
 |false=>rfl
 |true=>exact absurd (g1O.1 e) h
theorem p0W (s:ByteArray) (hs:s.size<=9223372036854775807):b0m Tryz.prog 44 [.str s] (.bool (nmB s)):=by
 have c:=v0i s hs;cases hid:idB s with
 |false=>
  rw [hid] at c;rw [e1C (fun h=>by rw [hid] at h;exact absurd h.1 (by decide))];refine fEx Tryz.func44 ?_;repeat' ((conv=>whnf);first|refine cPx c ?_|refine a0a ?_|(apply bRx<;>intro h<;>try (exfalso;(try dsimp only at h);omega)))
  all_goals (conv=>whnf)
  all_goals first
   |exact a0c rfl
   |(exfalso;omega)
   |trace_state
 |true=>
 rw [hid] at c;obtain ⟨g1,g2,g3⟩:=g1N hid;by_cases hl:ltP (a0i s 0)
 case neg=>
  rw [e1C (fun h=>hl h.2.1)];unfold ltP at hl;refine fEx Tryz.func44 ?_;repeat' ((conv=>whnf);first|refine cPx c ?_|refine a0a ?_|(apply bRx<;>intro h<;>try (exfalso;(try dsimp only at h);omega)))
  all_goals (conv=>whnf)
  all_goals first
   |exact a0c rfl
   |(exfalso;first|omega|(simp at*;omega))
   |trace_state
 have hl2:=hl;unfold ltP at hl2;refine fEx Tryz.func44 ?_;repeat' ((conv=>whnf);first|refine cPx c ?_|refine a0a ?_|(apply bRx<;>intro h<;>try (exfalso;(try dsimp only at h);omega)))
 all_goals (conv=>whnf)
 all_goals first
  |(exfalso;first|omega|(simp at*;omega))
  |skip
 all_goals refine a0f (fun k:Nat=>⟨[(0,.str s),(3,.int .i64 k)],[],1⟩) (fun k=>k<=s.size/\∀i,i<k->a0i s (i:Int)≠45) (fun k=>s.size-k) 0 [0] [] wHx ⟨by omega,fun i hi=>by omega⟩ ?_
 all_goals rintro k ⟨hk,hc⟩
 all_goals by_cases hk2:k<s.size
 all_goals first
  |(by_cases h45:a0i s (k:Int)=45
    .rw [e1C (fun h=>h.2.2 k hk2 h45)];repeat' ((conv=>whnf);first|refine a0a ?_|(apply bRx<;>intro h<;>try (exfalso;(try dsimp only at h);omega)))
     all_goals (conv=>whnf)
     all_goals first
      |exact a0c rfl
      |(exfalso;omega)
    .have hn:∀i,i<k+1->a0i s (i:Int)≠45:=fun i hi=>by
      by_cases e:i=k
      .subst e;exact h45
      .exact hc i (by omega)
     repeat' ((conv=>whnf);first|refine a0a ?_|(apply bRx<;>intro h<;>try (exfalso;(try dsimp only at h);omega)))
     all_goals (conv=>whnf)
     all_goals first
      |exact ⟨k+1,[0],[],⟨hk2,hn⟩,(show s.size-(k+1)<s.size-k by omega),⟨rfl,⟨rfl,congrArg (fun z=>some (SV.int .i64 z)) (p0Q (by omega)),trivial⟩,trivial⟩⟩
      |(exfalso;omega))
  |(have e:k=s.size:=by omega
    subst e;rw [g1O.2 ⟨hid,hl,hc⟩];repeat' ((conv=>whnf);first|refine a0a ?_|(apply bRx<;>intro h<;>try (exfalso;(try dsimp only at h);omega)))
    all_goals (conv=>whnf)
    all_goals first
     |exact a0c rfl
     |(exfalso;omega))
  |trace_state
def inK (ps:List ByteArray) (s:ByteArray):Nat->Bool
 |0=>false
 |k+1=>inK ps s k||seq (ps.getD k ⟨#[]⟩) s
theorem x0U {ps:List ByteArray} {s:ByteArray}:∀{k:Nat},inK ps s k=true↔∃j,j<k/\ps.getD j ⟨#[]⟩=s
 |0=>by simp [inK]
 |k+1=>by
  simp only [inK,j1E,x0U (k:=k),s0U];constructor
  .rintro (⟨j,h1,h2⟩|h)
   .exact ⟨j,by omega,h2⟩
   .exact ⟨k,by omega,h⟩
  .rintro ⟨j,h1,h2⟩;by_cases e:j=k
   .subst e;exact .inr h2
   .exact .inl ⟨j,by omega,h2⟩
theorem j0n (n:Nat) (ps:List ByteArray) (s:ByteArray) (m:Nat) (hm:m<=n) (hn:n<=1000000):FC Tryz.prog 2 45 [.sl 1 0 0 m,.str s] [(1,some (.one true (.cols n [.sc (.strs ps)])))] (a0h (.bool (inK ps s m)) [] 2):=by
 refine fEx Tryz.func45 ?_;repeat' ((conv=>whnf);first|refine a0a ?_|(apply bRx<;>intro h<;>try (exfalso;(try dsimp only at h);omega)))
 all_goals (conv=>whnf)
 refine a0f (fun k:Nat=>⟨[(0,.sl 1 0 0 m),(1,.str s),(5,.int .i64 k)],[(1,some (.one true (.cols n [.sc (.strs ps)])))],2⟩) (fun k=>k<=m/\inK ps s k=false) (fun k=>m-k) 0 [0,1] [] wHx ⟨w0F _,rfl⟩ ?_;rintro k ⟨hk,hin⟩;by_cases hk2:k<m
 .by_cases q:ps.getD k ⟨#[]⟩=s
  .have e:inK ps s m=true:=x0U.2 ⟨k,hk2,q⟩;rw [e];repeat' ((conv=>whnf);first|refine a0a ?_|(apply bRx<;>intro h<;>try (exfalso;(try dsimp only at h);omega)))
   all_goals (conv=>whnf)
   all_goals (try simp only [a0u] at*)
   all_goals first
    |exact rOx [0,1] a0b
    |(exfalso;first|omega|contradiction|exact absurd q.symm (by assumption))
    |trace_state
  .have e:inK ps s (k+1)=false:=by simp only [inK];rw [hin,Bool.false_or];unfold seq;exact decide_eq_false q
   repeat' ((conv=>whnf);first|refine a0a ?_|(apply bRx<;>intro h<;>try (exfalso;(try dsimp only at h);omega)))
   all_goals (conv=>whnf)
   all_goals (try simp only [a0u] at*)
   all_goals first
    |exact ⟨k+1,[0,1],[],⟨hk2,e⟩,(show m-(k+1)<m-k by omega),⟨rfl,⟨rfl,rfl,congrArg (fun z=>some (SV.int .i64 z)) (a0e (by omega)),trivial⟩,⟨rfl,trivial⟩⟩⟩
    |(exfalso;first|omega|contradiction)
    |trace_state
 .have e:k=m:=by omega
  subst e;rw [hin];repeat' ((conv=>whnf);first|refine a0a ?_|(apply bRx<;>intro h<;>try (exfalso;(try dsimp only at h);omega)))
  all_goals (conv=>whnf)
  all_goals first
   |exact rOx [0,1] a0b
   |(exfalso;omega)
   |trace_state
theorem i0m (x:Int):b0m Tryz.prog 72 [.int .i64 x] (.bool (f0n x)):=by
 by_cases h: -4503599627370496<=x/\x<=4503599627370496
 .rw [m0l.2 h];refine fEx Tryz.func72 ?_;repeat' ((conv=>whnf);first|refine a0a ?_|(apply bRx<;>intro h<;>try (exfalso;(try dsimp only at h);omega)))
  all_goals (conv=>whnf)
  all_goals first
   |exact a0c rfl
   |(refine a0c (congrArg SV.bool ?_);simp;omega)
   |(exfalso;omega)
   |trace_state
 .rw [w0T.2 h];refine fEx Tryz.func72 ?_;repeat' ((conv=>whnf);first|refine a0a ?_|(apply bRx<;>intro h<;>try (exfalso;(try dsimp only at h);omega)))
  all_goals (conv=>whnf)
  all_goals first
   |exact a0c rfl
   |(refine a0c (congrArg SV.bool ?_);simp;omega)
   |(exfalso;omega)
   |trace_state
theorem v0j (p1:ByteArray) (a1:Int) (c1:ByteArray) (p2:ByteArray) (a2:Int) (c2:ByteArray):b0m Tryz.prog 139 [.agg [.str p1,.int .i64 a1,.str c1],.agg [.str p2,.int .i64 a2,.str c2]] (.bool (plt ⟨p1,a1,c1⟩ ⟨p2,a2,c2⟩)):=by
 unfold plt;dsimp only;by_cases h1:c1=c2
 .have e:seq c1 c2=true:=s0U.2 h1;subst h1;rw [e,a0p,Bool.false_or,j1O];have hi:=a0p c1;refine fEx Tryz.func139 ?_;repeat' ((conv=>whnf);first|(simp only [hi])|refine a0a ?_|(apply bRx<;>intro h<;>try (exfalso;(try dsimp only at h);omega)))
  all_goals (conv=>whnf)
  all_goals first
   |exact a0c rfl
   |(exfalso;first|contradiction|(simp [hi] at*;done))
   |trace_state
 .have e:seq c1 c2=false:=by unfold seq;exact decide_eq_false h1
  rw [e,j1I,Bool.or_false];cases hs:a0D c1 c2 with
  |true=>
   refine fEx Tryz.func139 ?_;repeat' ((conv=>whnf);first|(simp only [hs])|refine a0a ?_|(apply bRx<;>intro h<;>try (exfalso;(try dsimp only at h);omega)))
   all_goals (conv=>whnf)
   all_goals first
    |exact a0c rfl
    |(exfalso;first|contradiction|(simp [hs] at*;done))
    |trace_state
  |false=>
   refine fEx Tryz.func139 ?_;repeat' ((conv=>whnf);first|(simp only [hs])|refine a0a ?_|(apply bRx<;>intro h<;>try (exfalso;(try dsimp only at h);omega)))
   all_goals (conv=>whnf)
   all_goals first
    |exact a0c rfl
    |(exfalso;first|contradiction|(simp [hs] at*;done))
    |trace_state
def b1h (ps:List ByteArray) (n:Nat):SV->a0j->Nat->Prop:=if b0u ps≠0 then a0h (.tup [.nptr,.int .i64 (b0u ps)]) [] 2 else a0h (.tup [.ptr 2 0 0 0,.int .i64 0]) [(2,some (.one false (.cells [.sl 1 0 0 n,.nsl])))] 3
theorem p0X (ps:List ByteArray) (n:Nat) (hl:ps.length=n) (hsz:∀k,(ps.getD k ⟨#[]⟩).size<=9223372036854775807):FC Tryz.prog 2 23 [.sl 1 0 0 n] [(1,some (.one true (.cols n [.sc (.strs ps)])))] (b1h ps n):=by
 unfold b1h b0u;by_cases h16:16<n
 .rw [hl,if_pos h16,if_pos (by decide)];refine fEx Tryz.func23 ?_;repeat' ((conv=>whnf);first|refine a0a ?_|(apply bRx<;>intro h<;>try (exfalso;(try dsimp only at h);omega)))
  all_goals (conv=>whnf)
  all_goals first
   |exact rOx [0,1] a0b
   |(exfalso;omega)
   |trace_state
 rw [hl,if_neg h16];refine fEx Tryz.func23 ?_;repeat' ((conv=>whnf);first|refine a0a ?_|(apply bRx<;>intro h<;>try (exfalso;(try dsimp only at h);omega)))
 all_goals (conv=>whnf)
 all_goals first
  |(exfalso;omega)
  |skip
 refine a0f (fun k:Nat=>⟨[(0,.sl 1 0 0 n),(4,.int .i64 k)],[(1,some (.one true (.cols n [.sc (.strs ps)])))],2⟩) (fun k=>k<=n/\nwK ps k=0) (fun k=>n-k) 0 [0,1] [] wHx ⟨w0F _,rfl⟩ ?_;rintro k ⟨hk,h0⟩;by_cases hk2:k<n
 .have c1:=p0W (ps.getD k ⟨#[]⟩) (hsz k);have c2:=j0n n ps (ps.getD k ⟨#[]⟩) k (by omega) (by omega);have hE:nwE ps k=if nmB (ps.getD k ⟨#[]⟩)=false then 5 else if 0<=idI (ps.take k) (ps.getD k ⟨#[]⟩) k then 7 else 0:=rfl
  have hst:=fun h=>n0y h0 h n hk2
  have hs0:nwE ps k=0->nwK ps (k+1)=0:=fun h=>by simp only [nwK];rw [if_neg (by omega)];exact h
  have hII:inK ps (ps.getD k ⟨#[]⟩) k=decide (0<=idI (ps.take k) (ps.getD k ⟨#[]⟩) k):=by
   have htl:(ps.take k).length=k:=by rw [d1P];omega
   by_cases g:0<=idI (ps.take k) (ps.getD k ⟨#[]⟩) k
   .rw [decide_eq_true g];have hlt:a0o (ps.take k) (ps.getD k ⟨#[]⟩)<k:=by
     unfold idI at g;by_cases w:a0o (ps.take k) (ps.getD k ⟨#[]⟩)<k
     .exact w
     .rw [if_neg w] at g;omega
    have a0s:=Go.Sy.sidx_get (l:=ps.take k) (s:=ps.getD k ⟨#[]⟩) (by rw [htl];exact hlt);rw [j1U,if_pos hlt] at a0s;exact x0U.2 ⟨_,hlt,by rw [List.getD,a0s];rfl⟩
   .rw [decide_eq_false g];cases w:inK ps (ps.getD k ⟨#[]⟩) k with
    |false=>rfl
    |true=>
     exfalso;obtain ⟨j,hj,hje⟩:=x0U.1 w;apply g;have hmem:ps.getD k ⟨#[]⟩∈ps.take k:=by
      rw [<-hje];refine j1o.2 ⟨j,?_⟩;rw [j1U,if_pos hj,List.getD,k0n (by omega)];rfl
     have:=Go.Sy.sidx_lt.2 hmem;rw [htl] at this;unfold idI;rw [if_pos this];omega
  cases hnm:nmB (ps.getD k ⟨#[]⟩) with
  |false=>
   rw [hnm] at c1;rw [hnm,if_pos rfl] at hE;rw [hst (by omega),hE,if_pos (by decide)];repeat' ((conv=>whnf);first|refine cPx c1 ?_|refine a0a ?_|(apply bRx<;>intro h<;>try (exfalso;(try dsimp only at h);omega)))
   all_goals (conv=>whnf)
   all_goals first
    |exact rOx [0,1] a0b
    |(exfalso;omega)
    |trace_state
  |true=>
   rw [hnm] at c1;rw [hnm,if_neg (by simp)] at hE;by_cases hin:0<=idI (ps.take k) (ps.getD k ⟨#[]⟩) k
   .rw [if_pos hin] at hE;rw [hII,decide_eq_true hin] at c2;rw [hst (by omega),hE,if_pos (by decide)];repeat' ((conv=>whnf);first|refine cPx c1 ?_|refine cOx (l:= [0,1]) c2 ?_|refine a0a ?_|(apply bRx<;>intro h<;>try (exfalso;(try dsimp only at h);omega)))
    all_goals (conv=>whnf)
    all_goals first
     |exact rOx [0,1] a0b
     |(exfalso;omega)
     |trace_state
   .rw [if_neg hin] at hE;rw [hII,decide_eq_false hin] at c2;repeat' ((conv=>whnf);first|refine cPx c1 ?_|refine cOx (l:= [0,1]) c2 ?_|refine a0a ?_|(apply bRx<;>intro h<;>try (exfalso;(try dsimp only at h);omega)))
    all_goals (conv=>whnf)
    all_goals first
     |exact ⟨k+1,[0,1],[],⟨hk2,hs0 hE⟩,(show n-(k+1)<n-k by omega),⟨rfl,⟨rfl,congrArg (fun z=>some (SV.int .i64 z)) (a0e (by omega)),trivial⟩,⟨rfl,trivial⟩⟩⟩
     |(exfalso;omega)
     |trace_state
 .have e:k=n:=by omega
  subst e;rw [if_neg (by omega)];repeat' ((conv=>whnf);first|refine a0a ?_|(apply bRx<;>intro h<;>try (exfalso;(try dsimp only at h);omega)))
  all_goals (conv=>whnf)
  all_goals first
   |exact rOx [0,1,2] (a0d a0b)
   |(exfalso;omega)
   |trace_state
end
section
attribute [local irreducible] a0q a0r a0k a0P
def b1i (R:List Px) (p c:ByteArray):Nat->Nat->Int
 |0,_=>0
 |m+1,k=>if (R.getD k px0).p=p/\(R.getD k px0).c=c then (R.getD k px0).a else b1i R p c m (k+1)
def c0b (R:List Px) (p c:ByteArray):Int:=b1i R p c R.length 0
abbrev rbH (ro:Bool) (np:Nat) (ps:List ByteArray) (m:Nat) (R:List Px):a0j:= [(1,some (.one ro (.cells [.sl 2 0 0 np,.sl 3 0 0 m]))),(2,some (.one true (.cols np [.sc (.strs ps)]))),(3,some (.one true (pxB m (a0y R))))]
theorem p0Y (np:Nat) (ps:List ByteArray) (R:List Px) (m:Nat) (hm:R.length=m) (hl:m<=100000) (p c:ByteArray):FC Tryz.prog 4 71 [.ptr 1 0 0 0,.str p,.str c] (rbH true np ps m R) (a0h (.int .i64 (c0b R p c)) [] 4):=by
 refine fEx Tryz.func71 ?_;repeat' ((conv=>whnf);first|refine a0a ?_|(apply bRx<;>intro h<;>try (exfalso;(try dsimp only at h);omega)))
 all_goals (conv=>whnf)
 refine a0f (fun k:Nat=>⟨[(0,.ptr 1 0 0 0),(1,.str p),(2,.str c),(7,.int .i64 k)],rbH true np ps m R,4⟩) (fun k=>k<=m/\b1i R p c (m-k) k=c0b R p c) (fun k=>m-k) 0 [0,1,2,3] [] wHx ⟨w0F _,by rw [Nat.sub_zero,<-hm];rfl⟩ ?_;rintro k ⟨hk,hc⟩;by_cases hk2:k<m
 .obtain ⟨b1,b2,b3⟩:=atP R k;rw [show m-k=(m-(k+1))+1 by omega,b1i] at hc;by_cases g:(R.getD k px0).p=p/\(R.getD k px0).c=c
  .rw [if_pos g] at hc;rw [<-hc];have g1:=g.1;have g2:=g.2;have bb:(SV.int .i64 ((a0y R).a.getD k 0))= .int .i64 (R.getD k px0).a:=by rw [b2]
   rw [<-b1] at g1;rw [<-b3] at g2;rw [<-b2];repeat' ((conv=>whnf);first|refine a0a ?_|(apply bRx<;>intro h<;>try (exfalso;(try dsimp only at h);omega)))
   all_goals (conv=>whnf)
   all_goals (try simp only [a0u,p0F,w0G] at*)
   all_goals first
    |exact rOx [0,1,2,3] a0b
    |(exfalso;first|omega|contradiction|exact absurd g1.symm (by assumption)|exact absurd g2.symm (by assumption))
    |trace_state
  .rw [if_neg g] at hc;rw [<-b1,<-b3] at g;repeat' ((conv=>whnf);first|refine a0a ?_|(apply bRx<;>intro h<;>try (exfalso;(try dsimp only at h);omega)))
   all_goals (conv=>whnf)
   all_goals (try simp only [a0u,p0F,w0G] at*)
   all_goals first
    |exact ⟨k+1,[0,1,2,3],[],⟨hk2,hc⟩,(show m-(k+1)<m-k by omega),⟨rfl,⟨rfl,rfl,rfl,congrArg (fun z=>some (SV.int .i64 z)) (a0e (by omega)),trivial⟩,⟨rfl,rfl,rfl,trivial⟩⟩⟩
    |(exfalso;first|omega|contradiction|exact g ⟨by assumption,by assumption⟩)
    |trace_state
 .have e:k=m:=by omega
  subst e;rw [j1k,b1i] at hc;rw [<-hc];repeat' ((conv=>whnf);first|refine a0a ?_|(apply bRx<;>intro h<;>try (exfalso;(try dsimp only at h);omega)))
  all_goals (conv=>whnf)
  all_goals first
   |exact rOx [0,1,2,3] a0b
   |(exfalso;omega)
   |trace_state
def ptX (p c:ByteArray) (n:Int) (x:Px):Px:=if x.p=p/\x.c=c then ⟨x.p,n,x.c⟩ else x
def ptK (R:List Px) (p c:ByteArray) (n:Int):Nat->List Px
 |0=> []
 |k+1=>ptK R p c n k++ [ptX p c n (R.getD k px0)]
def ptD (R:List Px) (p c:ByteArray):Nat->Bool
 |0=>false
 |k+1=>ptD R p c k||decide ((R.getD k px0).p=p/\(R.getD k px0).c=c)
theorem k0N (R:List Px) (p c:ByteArray) (n:Int):∀k,(ptK R p c n k).length=k
 |0=>rfl
 |k+1=>by simp only [ptK,a1N,k0N R p c n k];rfl
def j0o (R:List Px) (p c:ByteArray) (n:Int):List Px:=if ptD R p c R.length=true then ptK R p c n R.length else ptK R p c n R.length++ [⟨p,n,c⟩]
theorem j0p (R:List Px) (p c:ByteArray) (n:Int):(j0o R p c n).length<=R.length+1:=by
 unfold j0o;split
 .rw [k0N];omega
 .rw [a1N,k0N];exact n0q _
theorem h0z (R:List Px) (m:Nat) (hm:R.length=m) (hl:m<=100000) (p c:ByteArray) (n:Int) (r:Nat) (hr:(j0o R p c n).length=r):FC Tryz.prog 2 73 [.sl 1 0 0 m,.str p,.str c,.int .i64 n] [(1,some (.one true (pxB m (a0y R))))] (a0h (.sl 2 0 0 r) [(2,some (.one false (pxB r (a0y (j0o R p c n)))))] 3):=by
 refine fEx Tryz.func73 ?_;repeat' ((conv=>whnf);first|refine a0a ?_|(apply bRx<;>intro h<;>try (exfalso;(try dsimp only at h);omega)))
 all_goals (conv=>whnf)
 refine a0f (fun k:Nat=>⟨[(0,.sl 1 0 0 m),(1,.str p),(2,.str c),(3,.int .i64 n),(10,.bool (ptD R p c k)),(11,.int .i64 k),(9,.sl 2 0 0 k)],[(1,some (.one true (pxB m (a0y R)))),(2,some (.one false (pxB k (a0y (ptK R p c n k)))))],3⟩) (fun k=>k<=m) (fun k=>m-k) 0 [0,1,2] [.slot 9 [.sc (.strs []),.sc (.ints .i64 []),.sc (.strs [])]] wHx (w0F _) ?_;intro k hk;by_cases hk2:k<m
 .obtain ⟨b1,b2,b3⟩:=atP R k;have hs:=h0o (ptK R p c n k) (ptX p c n (R.getD k px0));have hst:ptK R p c n (k+1)=ptK R p c n k++ [ptX p c n (R.getD k px0)]:=rfl;have hd:ptD R p c (k+1)=(ptD R p c k||decide ((R.getD k px0).p=p/\(R.getD k px0).c=c)):=rfl;rw [<-hst] at hs;unfold ptX at hs;by_cases g:(R.getD k px0).p=p/\(R.getD k px0).c=c
  .rw [decide_eq_true g,Bool.or_true] at hd;rw [if_pos g] at hs;rw [<-b1,<-b3] at g;dsimp only at hs;rw [<-b1,<-b3] at hs;have g1:=g.1;have g2:=g.2;have bb:(some (HB.one false (pxB (k+1) ⟨(a0y (ptK R p c n k)).p++ [(a0y R).p.getD k ⟨#[]⟩],(a0y (ptK R p c n k)).a++ [n],(a0y (ptK R p c n k)).c++ [(a0y R).c.getD k ⟨#[]⟩]⟩)):Option HB)=some (.one false (pxB (k+1) (a0y (ptK R p c n (k+1))))):=by rw [hs]
   have bd:some (SV.bool true)=some (SV.bool (ptD R p c (k+1))):=by rw [hd]
   repeat' ((conv=>whnf);first|refine a0a ?_|(apply bRx<;>intro h<;>try (exfalso;(try dsimp only at h);omega)))
   all_goals (conv=>whnf)
   all_goals (try simp only [a0u,p0F,w0G] at*)
   all_goals first
    |exact ⟨k+1,[0,1,5],[],hk2,(show m-(k+1)<m-k by omega),⟨rfl,⟨rfl,rfl,rfl,rfl,bd,congrArg (fun z=>some (SV.int .i64 z)) (a0e (by omega)),rfl,trivial⟩,⟨rfl,bb,trivial⟩⟩⟩
    |(exfalso;first|omega|contradiction|exact absurd g1.symm (by assumption)|exact absurd g2.symm (by assumption))
    |trace_state
  .rw [decide_eq_false g,Bool.or_false] at hd;rw [if_neg g] at hs;rw [<-b1,<-b3] at g;rw [<-b1,<-b2,<-b3] at hs;have bb:(some (HB.one false (pxB (k+1) ⟨(a0y (ptK R p c n k)).p++ [(a0y R).p.getD k ⟨#[]⟩],(a0y (ptK R p c n k)).a++ [(a0y R).a.getD k 0],(a0y (ptK R p c n k)).c++ [(a0y R).c.getD k ⟨#[]⟩]⟩)):Option HB)=some (.one false (pxB (k+1) (a0y (ptK R p c n (k+1))))):=by rw [hs]
   have bd:some (SV.bool (ptD R p c k))=some (SV.bool (ptD R p c (k+1))):=by rw [hd]
   repeat' ((conv=>whnf);first|refine a0a ?_|(apply bRx<;>intro h<;>try (exfalso;(try dsimp only at h);omega)))
   all_goals (conv=>whnf)
   all_goals (try simp only [a0u,p0F,w0G] at*)
   all_goals first
    |exact ⟨k+1,[0,1,5],[],hk2,(show m-(k+1)<m-k by omega),⟨rfl,⟨rfl,rfl,rfl,rfl,bd,congrArg (fun z=>some (SV.int .i64 z)) (a0e (by omega)),rfl,trivial⟩,⟨rfl,bb,trivial⟩⟩⟩
    |(exfalso;first|omega|contradiction|exact g ⟨by assumption,by assumption⟩)
    |trace_state
 .have e:k=m:=by omega
  subst e;unfold j0o at hr⊢;rw [hm] at hr⊢;have hs:=h0o (ptK R p c n k) ⟨p,n,c⟩;cases hd:ptD R p c k with
  |true=>
   rw [hd,if_pos rfl,k0N] at hr;rw [if_pos rfl];subst hr;repeat' ((conv=>whnf);first|refine a0a ?_|(apply bRx<;>intro h<;>try (exfalso;(try dsimp only at h);omega)))
   all_goals (conv=>whnf)
   all_goals first
    |exact rOx [0,1,2] (a0d a0b)
    |(exfalso;first|omega|contradiction)
    |trace_state
  |false=>
   rw [hd,if_neg (by simp),a1N,k0N] at hr;rw [if_neg (by simp)];have bb:(some (HB.one false (pxB (k+1) ⟨(a0y (ptK R p c n k)).p++ [p],(a0y (ptK R p c n k)).a++ [n],(a0y (ptK R p c n k)).c++ [c]⟩)):Option HB)=some (.one false (pxB (k+1) (a0y (ptK R p c n k++ [⟨p,n,c⟩])))):=by rw [hs]
   have er:r=k+1:=hr.symm;subst er;repeat' ((conv=>whnf);first|refine a0a ?_|(apply bRx<;>intro h<;>try (exfalso;(try dsimp only at h);omega)))
   all_goals (conv=>whnf)
   all_goals first
    |exact c0S (l:= [0,1,4]) rfl rfl ⟨bb,trivial⟩ (a0d a0b)
    |(exfalso;first|omega|contradiction)
    |trace_state
end
section
attribute [local irreducible] a0q a0r a0k a0P
def rmE (np:Nat) (ps:List ByteArray) (R:List Px) (f t c:ByteArray) (a:Int):Int:=
 if inK ps f np=false\/inK ps t np=false then 6
 else if f=t then 4
 else if b0O a c≠0 then b0O a c
 else if a<0 then 4
 else if f0n (c0b R f c-a)=true/\f0n (c0b R t c+a)=true then 0 else 4
def rmR (R:List Px) (f t c:ByteArray) (a:Int):List Px:=j0o (j0o R f c (c0b R f c-a)) t c (c0b R t c+a)
def b1j (np:Nat) (ps:List ByteArray) (m:Nat) (R:List Px) (f t c:ByteArray) (a:Int):SV->a0j->Nat->Prop:=
 if rmE np ps R f t c a=0 then a0h (.int .i64 0) [(1,some (.one false (.cells [.sl 2 0 0 np,.sl 4 0 0 (rmR R f t c a).length]))),(4,some (.one false (pxB (rmR R f t c a).length (a0y (rmR R f t c a)))))] 5
 else a0h (.int .i64 (rmE np ps R f t c a)) [(1,some (.one false (.cells [.sl 2 0 0 np,.sl 3 0 0 m])))] 4
theorem m0v (np:Nat) (ps:List ByteArray) (hnp:np<=1000000) (R:List Px) (m:Nat) (hm:R.length=m) (hl:m<=10000) (f t c:ByteArray) (a:Int) (hb:∀p c,-4503599627370496<=c0b R p c/\c0b R p c<=4503599627370496):FC Tryz.prog 4 48 [.ptr 1 0 0 0,.str f,.str t,.agg [.int .i64 a,.str c]] (rbH false np ps m R) (b1j np ps m R f t c a):=by
 have c1:=j0n np ps f np (n0q _) hnp;have c2:=j0n np ps t np (n0q _) hnp;have c3:=c0v a c;unfold b1j;cases h1:inK ps f np with
 |false=>
  rw [h1] at c1;have e:rmE np ps R f t c a=6:=by unfold rmE;rw [if_pos (.inl h1)]
  rw [e,if_neg (by decide)];refine fEx Tryz.func48 ?_;repeat' ((conv=>whnf);first|refine cOx (l:= [0,2]) c1 ?_|refine a0a ?_|(apply bRx<;>intro h<;>try (exfalso;(try dsimp only at h);omega)))
  all_goals (conv=>whnf)
  all_goals first
   |exact rOx [0,1,2,3] (a0d a0b)
   |(exfalso;omega)
   |trace_state
 |true=>
 rw [h1] at c1;cases h2:inK ps t np with
 |false=>
  rw [h2] at c2;have e:rmE np ps R f t c a=6:=by unfold rmE;rw [if_pos (.inr h2)]
  rw [e,if_neg (by decide)];refine fEx Tryz.func48 ?_;repeat' ((conv=>whnf);first|refine cOx (l:= [0,2]) c1 ?_|refine cOx (l:= [0,2]) c2 ?_|refine a0a ?_|(apply bRx<;>intro h<;>try (exfalso;(try dsimp only at h);omega)))
  all_goals (conv=>whnf)
  all_goals first
   |exact rOx [0,1,2,3] (a0d a0b)
   |(exfalso;omega)
   |trace_state
 |true=>
 rw [h2] at c2;have e0:rmE np ps R f t c a=if f=t then 4 else if b0O a c≠0 then b0O a c else if a<0 then 4 else if f0n (c0b R f c-a)=true/\f0n (c0b R t c+a)=true then 0 else 4:=by
  unfold rmE;rw [if_neg (by rw [h1,h2];simp)]
 by_cases h3:f=t
 .rw [if_pos h3] at e0;rw [e0,if_neg (by decide)];refine fEx Tryz.func48 ?_;repeat' ((conv=>whnf);first|refine cOx (l:= [0,2]) c1 ?_|refine cOx (l:= [0,2]) c2 ?_|refine a0a ?_|(apply bRx<;>intro h<;>try (exfalso;(try dsimp only at h);omega)))
  all_goals (conv=>whnf)
  all_goals first
   |exact rOx [0,1,2,3] (a0d a0b)
   |(exfalso;first|omega|contradiction)
   |trace_state
 rw [if_neg h3] at e0;by_cases h4:b0O a c=0
 case neg=>
  rw [if_pos h4] at e0;rw [e0,if_neg h4];refine fEx Tryz.func48 ?_;repeat' ((conv=>whnf);first|refine cOx (l:= [0,2]) c1 ?_|refine cOx (l:= [0,2]) c2 ?_|refine cPx c3 ?_|refine a0a ?_|(apply bRx<;>intro h<;>try (exfalso;(try dsimp only at h);omega)))
  all_goals (conv=>whnf)
  all_goals first
   |exact rOx [0,1,2,3] (a0d a0b)
   |(exfalso;first|omega|contradiction)
   |trace_state
 rw [if_neg (by simpa using h4)] at e0;rw [h4] at c3;have ham:=e0F a c;rw [h4] at ham;have hF:=hb f c;have hT:=hb t c;have n1:=p0Y np ps R m hm (by omega) f c;have n2:=p0Y np ps R m hm (by omega) t c;have g1:IntKind.i64.wrap (c0b R f c-a)=c0b R f c-a:=a0m (by omega) (by omega);have g2:IntKind.i64.wrap (c0b R t c+a)=c0b R t c+a:=a0m (by omega) (by omega);have f1:=i0m (IntKind.i64.wrap (c0b R f c-a));have f2:=i0m (IntKind.i64.wrap (c0b R t c+a));have q1:f0n (IntKind.i64.wrap (c0b R f c-a))=f0n (c0b R f c-a):=by rw [g1]
 have q2:f0n (IntKind.i64.wrap (c0b R t c+a))=f0n (c0b R t c+a):=by rw [g2]
 rw [q1] at f1;rw [q2] at f2;by_cases h6:¬a<0/\f0n (c0b R f c-a)=true/\f0n (c0b R t c+a)=true
 case neg=>
  have e:rmE np ps R f t c a=4:=by
   rw [e0];by_cases w:a<0
   .rw [if_pos w]
   .rw [if_neg w,if_neg (fun q=>h6 ⟨w,q⟩)]
  rw [e,if_neg (by decide)];clear e0 e;refine fEx Tryz.func48 ?_;repeat' ((conv=>whnf);first|refine cOx (l:= [0,2]) c1 ?_|refine cOx (l:= [0,2]) c2 ?_|refine cPx c3 ?_|refine cOx (l:= [0,1,2,3]) n1 ?_|refine cOx (l:= [0,1,2,3]) n2 ?_|refine cPx f1 ?_|refine cPx f2 ?_|refine a0a ?_|(apply bRx<;>intro h<;>try (exfalso;(try dsimp only at h);omega)))
  all_goals (conv=>whnf)
  all_goals first
   |exact rOx [0,1,2,3] (a0d a0b)
   |(exfalso;first|omega|contradiction)
   |(exfalso;exact h6 ⟨by assumption,by assumption,by assumption⟩)
   |trace_state
 rw [if_neg h6.1,if_pos h6.2] at e0;have h61:=h6.1;rw [h6.2.1] at f1;rw [h6.2.2] at f2;rw [e0,if_pos rfl];have p1:=h0z R m hm (by omega) f c (c0b R f c-a) _ rfl;have hl1:=j0p R f c (c0b R f c-a);have p2:=h0z (j0o R f c (c0b R f c-a)) _ rfl (by omega) t c (c0b R t c+a) _ rfl;have eR:rmR R f t c a=j0o (j0o R f c (c0b R f c-a)) t c (c0b R t c+a):=rfl;rw [<-eR] at p2;clear e0 eR hl1;generalize rmR R f t c a=R2 at*;generalize j0o R f c (c0b R f c-a)=R1 at*;rw [<-g1] at p1;rw [<-g2] at p2;refine fEx Tryz.func48 ?_;repeat' ((conv=>whnf);first|refine cOx (l:= [0,2]) c1 ?_|refine cOx (l:= [0,2]) c2 ?_|refine cPx c3 ?_|refine cOx (l:= [0,1,2,3]) n1 ?_|refine cOx (l:= [0,1,2,3]) n2 ?_|refine cPx f1 ?_|refine cPx f2 ?_|refine cOx (l:= [0,3]) p1 ?_|refine cOx (l:= [0,5]) p2 ?_|refine a0a ?_|(apply bRx<;>intro h<;>try (exfalso;(try dsimp only at h);omega)))
 all_goals (conv=>whnf)
 all_goals first
  |exact rOx [0,1,2,3,6] (a0d (a0d a0b))
  |(exfalso;first|omega|contradiction)
  |trace_state
end
section
attribute [local irreducible] a0q a0r a0k a0P
theorem e1D {O:List Px} {m k:Nat} (hm:O.length=m) (hk:k<=m) {p c:ByteArray} {a:Int} {x:Px} (hx:(⟨p,a,c⟩:Px)=x):
  (some (HB.one false (.cols (k+1+(m-k)) [.sc (.strs (seg 0 k (a0y O).p++ [p]++seg (k+0) (m-k) (a0y O).p)),.sc (.ints .i64 (seg 0 k (a0y O).a++ [a]++seg (k+0) (m-k) (a0y O).a)),.sc (.strs (seg 0 k (a0y O).c++ [c]++seg (k+0) (m-k) (a0y O).c))])):Option HB)=some (.one false (pxB (k+1+(m-k)) (a0y (O.take k++x::O.drop k)))):=by
 subst hx;rw [j0m (l:=(a0y O).p) (by simp [a0y,hm]),j0m (l:=(a0y O).a) (by simp [a0y,hm]),j0m (l:=(a0y O).c) (by simp [a0y,hm])];unfold a0y;simp [t0u,List.map_take,List.map_drop]
theorem c1L {O:List Px} (ha:Asc O) {i j:Nat} (hij:i<j) (hj:j<O.length):plt (O.getD i px0) (O.getD j px0)=true:=by
 have:=g1z.1 ha i j (by omega) hj hij;rw [List.getD,List.getD,k0n (by omega),k0n hj];exact this
theorem g1P {R O:List Px} {i m k:Nat} (h:SoI R i m O) (hd:g0A R) (hi:i<R.length) (hk:k<=m) (hl:0<k->plt (R.getD i px0) (O.getD (k-1) px0)=false):∀j,j<k->plt (O.getD j px0) (R.getD i px0)=true:=by
 intro j hj;have hm:=h.m;have hlast:plt (O.getD (k-1) px0) (R.getD i px0)=true:=by
  refine h0x (hl (by omega)) fun e=> ?_
  have hmem:O.getD (k-1) px0∈O:=by
   rw [List.getD,k0n (show k-1<O.length by omega)];exact g1v _
  exact t0t hd hi _ (j1j.1 (h.perm.subset hmem)).1 (f0P e)
 by_cases e:j=k-1
 .rw [e];exact hlast
 .exact f0y (c1L h.asc (show j<k-1 by omega) (by omega)) hlast
abbrev soS (n:Nat) (R:List Px) (x:Nat×Nat×List Px):VS:=⟨[(0,.sl 1 0 0 n),(3,.sl 2 0 0 x.2.1),(4,.int .i64 x.1)],[(1,some (.one true (pxB n (a0y R)))),(2,some (.one false (pxB x.2.1 (a0y x.2.2))))],3⟩
theorem i0O (R:List Px) (n:Nat) (hn:R.length=n) (hl:n<=100000) (hd:g0A R):FC Tryz.prog 2 93 [.sl 1 0 0 n] [(1,some (.one true (pxB n (a0y R))))] (a0h (.sl 2 0 0 (nz R).length) [(2,some (.one false (pxB (nz R).length (a0y (srt (nz R))))))] 3):=by
 have hnz:∀{i:Nat},i<=n->(nz (R.take i)).length<=n:=fun {i} hi=>by
  have:=j1L (fun x:Px=>decide (x.a≠0)) (R.take i);rw [d1P] at this;unfold nz;omega
 refine fEx Tryz.func93 ?_;repeat' ((conv=>whnf);first|refine a0a ?_|(apply bRx<;>intro h<;>try (exfalso;(try dsimp only at h);omega)))
 all_goals (conv=>whnf)
 refine a0f (soS n R) (fun x=>SoI R x.1 x.2.1 x.2.2) (fun x=>n-x.1) (0,0,[]) [0,1,2] [.slot 3 [.sc (.strs []),.sc (.ints .i64 []),.sc (.strs [])]] wHx ⟨w0F _,rfl,List.Pairwise.nil,List.Perm.refl _⟩ ?_;rintro ⟨i,m,O⟩ hI;dsimp only at hI;unfold soS;dsimp only;have hi:=hI.le;have hmn:m<=n:=by rw [<-hI.m,hI.perm.length_eq];exact hnz (by omega)
 rw [hn] at hi;by_cases hi2:i<n
 .obtain ⟨b1,b2,b3⟩:=atP R i;by_cases hz:(a0y R).a.getD i 0=0
  .have hs:=b1g hI (by omega) (by rw [<-b2];exact hz);repeat' ((conv=>whnf);first|refine a0a ?_|(apply bRx<;>intro h<;>try (exfalso;(try dsimp only at h);omega)))
   all_goals (conv=>whnf)
   all_goals first
    |exact ⟨(i+1,m,O),[0,1,2],[],hs,(show n-(i+1)<n-i by omega),⟨rfl,⟨rfl,rfl,congrArg (fun z=>some (SV.int .i64 z)) (a0e (by omega)),trivial⟩,⟨rfl,rfl,trivial⟩⟩⟩
    |(exfalso;first|omega|contradiction)
    |trace_state
  .repeat' ((conv=>whnf);first|refine a0a ?_|(apply bRx<;>intro h<;>try (exfalso;(try dsimp only at h);omega)))
   all_goals (conv=>whnf)
   all_goals first
    |(exfalso;first|omega|contradiction)
    |skip
   refine a0f (fun k:Nat=>⟨[(0,.sl 1 0 0 n),(3,.sl 2 0 0 m),(4,.int .i64 i),(5,.int .i64 k)],[(1,some (.one true (pxB n (a0y R)))),(2,some (.one false (pxB m (a0y O))))],3⟩) (fun k=>k<=m/\(k<m->plt (R.getD i px0) (O.getD k px0)=true)) (fun k=>k) m [0,1,2] [] wHx ⟨n0q _,fun h=>absurd h (k1r _)⟩ ?_;rintro k ⟨hk,hge⟩;have hge2:k<m->plt (O.getD k px0) (R.getD i px0)=false:=fun h=>k0M (hge h)
   have e1:IntKind.i64.wrap ((k:Int)-1)=(k:Int)-1:=a0m (by omega) (by omega);have e2:((k:Int)-1).toNat=k-1:=by omega
   have c1:b0m Tryz.prog 139 [.agg [.str ((a0y R).p.getD i ⟨#[]⟩),.int .i64 ((a0y R).a.getD i 0),.str ((a0y R).c.getD i ⟨#[]⟩)],.agg [.str ((a0y O).p.getD (k-1) ⟨#[]⟩),.int .i64 ((a0y O).a.getD (k-1) 0),.str ((a0y O).c.getD (k-1) ⟨#[]⟩)]] (.bool (plt (R.getD i px0) (O.getD (k-1) px0))):=by
    obtain ⟨a1,a2,a3⟩:=atP O (k-1);rw [a1,a2,a3,b1,b2,b3];exact v0j _ _ _ _ _ _
   have hput:=fun (hl:0<k->plt (R.getD i px0) (O.getD (k-1) px0)=false)=>(show k+1+(m-k)=m+1 by omega)▸e1A hI hd (by omega) (by rw [<-b2];exact hz) hk (g1P hI hd (by omega) hk hl) hge2
   have hrow:=e1D hI.m hk (e1z R i);by_cases hk2:0<k
   .cases hlt:plt (R.getD i px0) (O.getD (k-1) px0) with
    |true=>
     rw [hlt] at c1;have hn2:k-1<=m/\(k-1<m->plt (R.getD i px0) (O.getD (k-1) px0)=true):=⟨by omega,fun _=>hlt⟩;have e3:(k:Int)-1=((k-1:Nat):Int):=by omega
     repeat' ((conv=>whnf);first|refine cPx c1 ?_|(simp only [e1,e2])|refine a0a ?_|(apply bRx<;>intro h<;>try (exfalso;(try dsimp only at h);omega)))
     all_goals (conv=>whnf)
     all_goals first
      |exact ⟨k-1,[0,1,2],[],hn2,(show k-1<k by omega),⟨rfl,⟨rfl,rfl,rfl,congrArg (fun z=>some (SV.int .i64 z)) (e1.trans e3),trivial⟩,⟨rfl,rfl,trivial⟩⟩⟩
      |exact ⟨k-1,[0,1,2],[],hn2,(show k-1<k by omega),⟨rfl,⟨rfl,rfl,rfl,congrArg (fun z=>some (SV.int .i64 z)) e3,trivial⟩,⟨rfl,rfl,trivial⟩⟩⟩
      |(exfalso;first|omega|contradiction)
      |trace_state
    |false=>
     rw [hlt] at c1;have hp:=hput (fun _=>hlt);repeat' ((conv=>whnf);first|refine cPx c1 ?_|(simp only [e1,e2])|refine a0a ?_|(apply bRx<;>intro h<;>try (exfalso;(try dsimp only at h);omega)))
     all_goals (conv=>whnf)
     all_goals first
      |(exfalso;first|omega|contradiction)
      |exact ⟨(i+1,k+1+(m-k),O.take k++R.getD i px0::O.drop k),[0,1,6],[],hp,(show n-(i+1)<n-i by omega),⟨rfl,⟨rfl,rfl,congrArg (fun z=>some (SV.int .i64 z)) (a0e (by omega)),trivial⟩,⟨rfl,hrow,trivial⟩⟩⟩
      |trace_state
   .have hp:=hput (fun h=>absurd h hk2);repeat' ((conv=>whnf);first|refine cPx c1 ?_|(simp only [e1,e2])|refine a0a ?_|(apply bRx<;>intro h<;>try (exfalso;(try dsimp only at h);omega)))
    all_goals (conv=>whnf)
    all_goals first
     |(exfalso;first|omega|contradiction)
     |exact ⟨(i+1,k+1+(m-k),O.take k++R.getD i px0::O.drop k),[0,1,6],[],hp,(show n-(i+1)<n-i by omega),⟨rfl,⟨rfl,rfl,congrArg (fun z=>some (SV.int .i64 z)) (a0e (by omega)),trivial⟩,⟨rfl,hrow,trivial⟩⟩⟩
     |trace_state
 .have e:i=n:=by omega
  subst e;have e1:srt (nz R)=O:=x0S (by have:=hI.perm;rwa [<-hn,g1y] at this) hI.asc;have e2:(nz R).length=m:=by have:=hI.perm.length_eq;rw [<-hn,g1y] at this;rw [<-this];exact hI.m
  rw [e1,e2];repeat' ((conv=>whnf);first|refine a0a ?_|(apply bRx<;>intro h<;>try (exfalso;(try dsimp only at h);omega)))
  all_goals (conv=>whnf)
  all_goals first
   |exact rOx [0,1,2] (a0d a0b)
   |(exfalso;omega)
   |trace_state
theorem i0n (np:Nat) (ps:List ByteArray) (R:List Px) (m:Nat) (hm:R.length=m) (hl:m<=100000) (hd:g0A R):FC Tryz.prog 4 56 [.ptr 1 0 0 0] (rbH true np ps m R) (a0h (.sl 4 0 0 (nz R).length) [(4,some (.one false (pxB (nz R).length (a0y (srt (nz R))))))] 5):=by
 have c1:=i0O R m hm hl hd;refine fEx Tryz.func56 ?_;repeat' ((conv=>whnf);first|refine cOx (l:= [0,3]) c1 ?_|refine a0a ?_|(apply bRx<;>intro h<;>try (exfalso;(try dsimp only at h);omega)))
 all_goals (conv=>whnf)
 all_goals first
  |exact rOx [0,1,2,3,4] (a0d a0b)
  |(exfalso;omega)
  |trace_state
def cuK (L:List Px):Nat->List ByteArray
 |0=> []
 |k+1=>if inK (cuK L k) (L.getD k px0).c (cuK L k).length=true then cuK L k else cuK L k++ [(L.getD k px0).c]
theorem r0I (L:List Px):∀k,(cuK L k).length<=k
 |0=>n0q _
 |k+1=>by
  have:=r0I L k;simp only [cuK];split<;>simp<;>omega
theorem r0J {l:List ByteArray} {s:ByteArray} {n:Nat} (hn:l.length=n):inK l s n=true↔s∈l:=by
 rw [x0U];constructor
 .rintro ⟨j,hj,e⟩;rw [<-e,List.getD,k0n (by omega)];exact g1v _
 .intro h;obtain ⟨j,hj,e⟩:=d1O h;exact ⟨j,by omega,by rw [List.getD,k0n hj];exact e⟩
def cuR (R:List Px):List ByteArray:=cuK (srt (nz R)) (nz R).length
theorem i0W (np:Nat) (ps:List ByteArray) (R:List Px) (m:Nat) (hm:R.length=m) (hl:m<=100000) (hd:g0A R):FC Tryz.prog 4 87 [.ptr 1 0 0 0] (rbH true np ps m R) (a0h (.sl 4 0 0 (cuR R).length) [(4,some (.one false (.cols (cuR R).length [.sc (.strs (cuR R))])))] 5):=by
 have c1:=i0n np ps R m hm hl hd;have hlm:(nz R).length<=m:=by rw [<-hm];exact j1L _ _
 have hL:(srt (nz R)).length=(nz R).length:=(h0y _).length_eq;unfold cuR;generalize (nz R).length=n at*;generalize srt (nz R)=L at*;refine fEx Tryz.func87 ?_;repeat' ((conv=>whnf);first|refine cOx (l:= [0,1,2,3]) c1 ?_|refine a0a ?_|(apply bRx<;>intro h<;>try (exfalso;(try dsimp only at h);omega)))
 all_goals (conv=>whnf)
 refine a0f (fun k:Nat=>⟨[(4,.sl 4 0 0 n),(5,.int .i64 k),(3,.sl 5 0 0 (cuK L k).length)],(4,some (.one false (pxB n (a0y L))))::(5,some (.one false (.cols (cuK L k).length [.sc (.strs (cuK L k))])))::rbH true np ps m R,6⟩) (fun k=>k<=n) (fun k=>n-k) 0 [0,1,2,3,4,5] [.slot 3 [.sc (.strs [])]] wHx (w0F _) ?_;intro k hk;by_cases hk2:k<n
 .have c2:=j0n (cuK L k).length (cuK L k) ((a0y L).c.getD k ⟨#[]⟩) (cuK L k).length (n0q _) (by have:=r0I L k;omega);obtain ⟨b1,b2,b3⟩:=atP L k;have hst:cuK L (k+1)=if inK (cuK L k) ((a0y L).c.getD k ⟨#[]⟩) (cuK L k).length=true then cuK L k else cuK L k++ [(a0y L).c.getD k ⟨#[]⟩]:=by rw [b3];rfl
  have hle:=r0I L k;by_cases g:inK (cuK L k) ((a0y L).c.getD k ⟨#[]⟩) (cuK L k).length=true
  .rw [g] at c2;rw [if_pos g] at hst;repeat' ((conv=>whnf);first|refine cOx (l:= [0,5]) c2 ?_|refine a0a ?_|(apply bRx<;>intro h<;>try (exfalso;(try dsimp only at h);omega)))
   all_goals (conv=>whnf)
   all_goals first
    |exact ⟨k+1,[0,1,2,3,4,5],[],hk2,(show n-(k+1)<n-k by omega),⟨rfl,⟨rfl,congrArg (fun z=>some (SV.int .i64 z)) (a0e (by omega)),(by rw [hst];rfl),trivial⟩,⟨rfl,(by rw [hst];rfl),rfl,rfl,rfl,trivial⟩⟩⟩
    |(exfalso;first|omega|contradiction)
    |trace_state
  .rw [Bool.eq_false_iff.2 g] at c2;rw [if_neg g] at hst;have hl1:(cuK L (k+1)).length=(cuK L k).length+1:=by rw [hst,a1N];rfl
   repeat' ((conv=>whnf);first|refine cOx (l:= [0,5]) c2 ?_|refine a0a ?_|(apply bRx<;>intro h<;>try (exfalso;(try dsimp only at h);omega)))
   all_goals (conv=>whnf)
   all_goals first
    |exact ⟨k+1,[0,1,2,3,4,7],[],hk2,(show n-(k+1)<n-k by omega),⟨rfl,⟨rfl,congrArg (fun z=>some (SV.int .i64 z)) (a0e (by omega)),(by rw [hl1];rfl),trivial⟩,⟨rfl,(by rw [hl1,hst];rfl),rfl,rfl,rfl,trivial⟩⟩⟩
    |(exfalso;first|omega|contradiction)
    |trace_state
 .have e:k=n:=by omega
  subst e;repeat' ((conv=>whnf);first|refine a0a ?_|(apply bRx<;>intro h<;>try (exfalso;(try dsimp only at h);omega)))
  all_goals (conv=>whnf)
  all_goals first
   |exact rOx [0,1,2,3,5] (a0d a0b)
   |(exfalso;omega)
   |trace_state
end
section
def swN (ws:List Int):Nat->Nat
 |0=>0
 |k+1=>swN ws k+(ws.getD k 0).toNat
theorem c1M {ws:List Int} {n:Nat} (hw:∀k,k<n->1<=ws.getD k 0):∀k,k<=n->(swN ws k:Int)=swK ws k
 |0,_=>rfl
 |k+1,h=>by
  have:=hw k (by omega);have ih:=c1M hw k (by omega);simp only [swN,swK];omega
def rsK (A:Nat) (ws:List Int) (n:Nat):Nat->Nat
 |0=>0
 |k+1=>rsK A ws n k+rN A ws n k
theorem c1N (A:Nat) (ws:List Int) (n:Nat):∀k,A*swN ws k=qsK A ws n k*(swK ws n).toNat+rsK A ws n k
 |0=>by simp [swN,qsK,rsK]
 |k+1=>by
  have ih:=c1N A ws n k;have:A*(ws.getD k 0).toNat=qN A ws n k*(swK ws n).toNat+rN A ws n k:=by
   unfold qN rN;have:=j1X (A*(ws.getD k 0).toNat) (swK ws n).toNat;rw [j1Z] at this;exact this.symm
  simp only [swN,qsK,rsK];rw [l1m,Nat.add_mul,ih,this];omega
theorem g1Q (A:Nat) (ws:List Int) (n:Nat) (hS:0<(swK ws n).toNat):∀k,rsK A ws n k+k<=k*(swK ws n).toNat
 |0=>by simp [rsK]
 |k+1=>by
  have ih:=g1Q A ws n hS k;have:rN A ws n k<(swK ws n).toNat:=j1l _ hS;simp only [rsK];rw [Nat.succ_mul];omega
theorem t0v (r:List Int) (s:Int):∀k i j,i<j->j<(plK r s k).length->(plK r s k).getD i 0<(plK r s k).getD j 0
 |0,i,j,_,h=>by simp [plK] at h
 |k+1,i,j,hij,h=>by
  simp only [plK] at h⊢;by_cases q:0<r.getD k 0*s
  .rw [if_pos q] at h⊢;rw [a1N,f1M] at h;rw [e0m,e0m,if_neg (by omega)];split
   .exact (l0n r s k i (by omega)).2
   .exact t0v r s k i j hij (by omega)
  .rw [if_neg q] at h⊢;exact t0v r s k i j hij h
theorem t0w (r:List Int) (s:Int):∀k i,i<(plK r s k).length->0<r.getD ((plK r s k).getD i 0).toNat 0*s
 |0,i,h=>by simp [plK] at h
 |k+1,i,h=>by
  simp only [plK] at h⊢;by_cases q:0<r.getD k 0*s
  .rw [if_pos q] at h⊢;rw [a1N,f1M] at h;rw [e0m];split
   .rw [p0F];exact q
   .exact t0w r s k i (by omega)
  .rw [if_neg q] at h⊢;exact t0w r s k i h
theorem r0K {row pl P:List Int} {s:Int} {j:Nat}:∀k,(∀i,i<k->(pl.getD i 0).toNat≠j)->(dvK row pl P s k).getD j 0=row.getD j 0
 |0,_=>rfl
 |k+1,h=>by
  have ih:=r0K (row:=row) (P:=P) (s:=s) k (fun i hi=>h i (by omega));have hk:=h k (by omega);simp only [dvK];rw [List.getD,j1R hk];exact ih
theorem g1R (r:List Int) (s:Int) (i:Nat) (hi:i<dvN r s):1<=(wtK r s 16).getD i 0:=by
 have:∀l:List Int,∃M,∀j,l.getD j 0*s<=M:=by
  intro l;have:∃M,0<=M/\∀j,l.getD j 0*s<=M:=by
   induction l with
   |nil=>exact ⟨0,j1T _,fun j=>by simp⟩
   |cons x l ih=>
    obtain ⟨M,h0,h⟩:=ih;refine ⟨max M (x*s),by omega,fun j=> ?_⟩;cases j with
    |zero=>rw [l1B];omega
    |succ j=>rw [j1n];have:=h j;omega
  obtain ⟨M,_,h⟩:=this;exact ⟨M,h⟩
 obtain ⟨M,hM⟩:=this r;exact (w0Z hM 16 i hi).1
theorem e1E (A:Nat) (ws:List Int) (n:Nat):(spP A ws n).length=n:=by
 unfold spP;rw [h0p];unfold spQ;exact b0K _ _ _ _
theorem e1F {row r:List Int} {A:Nat} {s:Int} {j:Nat} (h:¬0<r.getD j 0*s):(dvR row A r s).getD j 0=row.getD j 0:=by
 unfold dvR;refine r0K _ fun i hi e=>h ?_
 rw [<-e];exact t0w r s 16 i (by rw [k0y];exact hi)
theorem c0k {r:List Int} {ps:List ByteArray} {c:ByteArray}:∀i x,x∈liR r ps c i->x.c=c/\x.a≠0/\∃j,j<i/\x.p=ps.getD j ⟨#[]⟩/\x.a=r.getD j 0
 |0,x,h=>by simp [liR] at h
 |i+1,x,h=>by
  simp only [liR] at h;by_cases z:r.getD i 0=0
  .rw [if_pos z] at h;obtain ⟨h1,h2,j,h3,h4⟩:=c0k i x h;exact ⟨h1,h2,j,by omega,h4⟩
  .rw [if_neg z] at h;rcases g1h.1 h with h|h
   .obtain ⟨h1,h2,j,h3,h4⟩:=c0k i x h;exact ⟨h1,h2,j,by omega,h4⟩
   .rw [a1A] at h;subst h;exact ⟨rfl,z,i,by omega,rfl,rfl⟩
theorem r0L {r:List Int} {ps:List ByteArray} {c:ByteArray} {n:Nat} (h:∀i j,i<j->j<n->a0D (ps.getD i ⟨#[]⟩) (ps.getD j ⟨#[]⟩)=true):∀i,i<=n->(liR r ps c i).Pairwise (fun x y=>a0D x.p y.p=true)
 |0,_=>List.Pairwise.nil
 |i+1,hi=>by
  have ih:=r0L (r:=r) (c:=c) h i (by omega);simp only [liR];split
  .exact ih
  .refine j1z.2 ⟨ih,k1f _ _,fun x hx y hy=> ?_⟩;rw [a1A] at hy;subst hy;obtain ⟨_,_,j,hj,e,_⟩:=c0k i x hx;rw [e];exact h j i hj hi
end
end Go.Proofs.YtegbehopnoocnaaGreatDoor
