/- Several texts in one: Kk6 BooksKeepsC. -/
import Derived.Test.YtmnjebhdclmcfaaGreatDoorP9
set_option linter.unusedVariables false
set_option linter.unusedSimpArgs false
set_option maxRecDepth 100000
open Go.Proofs.Tryz hiding sortI
open Go.IntKind (i64 u8 u64)
attribute [local irreducible] Go.Sy.a0n Go.Sy.a0o Go.Sy.a0i Go.Sy.a0E
namespace Go.Sy
abbrev u1L:=@BitVec.ofInt_natCast
abbrev u1V:=@BitVec.toNat_ofNat
abbrev u1p:=@List.flatten_append
end Go.Sy
namespace Go.Proofs.YtmnjebhdclmcfaaGreatDoor
open Go.RowKit Go.Sy
section
theorem x0W (x:Nat) (h:x<2^64):u64.wrap (x:Int)=(x:Int):=by
 have e:u64.wrap (x:Int)=(x:Int)%18446744073709551616:=rfl;omega
theorem j1u (x:Nat):u8.wrap (x:Int)=((x%256:Nat):Int):=by
 rfl
theorem z0T (x:Nat) (h:x<2^64):t0I .u64 (x:Int) 1=((x%2:Nat):Int):=by
 unfold t0I;have e:(BitVec.ofInt u64.bits (x:Int)&&&BitVec.ofInt u64.bits 1).toNat=x%2:=by
  rw [show (1:Int)=((1:Nat):Int) from rfl,u1L,u1L,u1d,u1V,u1V];rw [show u64.bits=64 from rfl,s1u h,show 1%2^64=1 from rfl,Nat.and_one_is_mod]
 rw [e];exact x0W _ oM
theorem e1C (x:Nat) (h:x<2^8):t0I .u8 (x:Int) 1=((x%2:Nat):Int):=by
 unfold t0I;have e:(BitVec.ofInt u8.bits (x:Int)&&&BitVec.ofInt u8.bits 1).toNat=x%2:=by
  rw [show (1:Int)=((1:Nat):Int) from rfl,u1L,u1L,u1d,u1V,u1V];rw [show u8.bits=8 from rfl,s1u h,show 1%2^8=1 from rfl,Nat.and_one_is_mod]
 rw [e,j1u];omega
theorem n0B (k:IntKind) (x n:Nat) (h:n<=k.bits):i0b k (x:Int) (n:Int)=((x/2^n:Nat):Int):=by
 unfold i0b;grind
theorem e1D (a b:Nat):decide ((a:Int)=(b:Int))=decide (a=b):=by grind
theorem p1m (m k:Nat) (hm:m<2^64) (hk:k<64):h0A (m:Int) k=decide (t0I .u64 (i0b .u64 (m:Int) (k:Int)) 1=1):=by
 have lt1:m/2^k<2^64:=Nat.lt_of_le_of_lt (t1h _ _) hm;have e1:h0A (m:Int) k=d1q m k:=by
  simp_all [h0A,s1u,f0u]
 have lt2:m/2^(8*(k/8))%256/2^(k%8)<2^8:=Nat.lt_of_le_of_lt (t1h _ _) (t1J _ oM);rw [e1];unfold d1q;rw [d1p,n0B _ _ _ (by show 8*(k/8)<=64;omega),j1u,n0B _ _ _ (by show k%8<=8;omega),e1C _ lt2,n0B _ _ _ (by show k<=64;omega),z0T _ lt1];rw [show (1:Int)=((1:Nat):Int) from rfl,e1D,e1D,<-Nat.testBit_eq_decide_div_mod_eq,<-Nat.testBit_eq_decide_div_mod_eq,show 256=2^8 from rfl,Nat.testBit_mod_two_pow,Nat.testBit_div_two_pow];grind
def rkC (p:Nat) (d:Dk):List SV:= [.sl 2 0 0 d.nn,.sl p 0 0 d.np,.bool d.down,.i d.steps,.int .u64 d.mask]
def rkH (p:Nat) (d:Dk):a0k:=
 [(1,some (.one false (.cells (rkC p d)))),(2,some (.one false (.cols d.nn [.sc (.strs d.kept)]))),
  (p,some (.one false (.cols d.np [.sc (.ints .i64 d.pn),.sc (.strs d.ps)])))]
theorem e0X (p:Nat) (d:Dk):c0x (rkH p d):=a0b (a0b (a0b a0c))
theorem p0u (d:Dk):FC prog 4 121 [.ptr 1 0 0 0] [(1,some (.one true (.cells (rkC 3 d))))] (a0g (.i d.nn) [] 4):=by
 let l:=[0,1,2,3];exact Wx func121
theorem h1W (d:Dk):FC prog 4 77 [.ptr 1 0 0 0] [(1,some (.one true (.cells (rkC 3 d))))] (a0g (.bool d.down) [] 4):=by
 let l:=[0,1,2,3];exact Wx func77
theorem t0z (d:Dk) (hs:0<=d.steps/\d.steps<=1000000):FC prog 4 147 [.ptr 1 0 0 0] [(1,some (.one false (.cells (rkC 3 d))))]
  (a0g (.bool (decide (d.steps=1))) [(1,some (.one false (.cells (rkC 3 (c0A d)))))] 4):=by
 have hz:i64.wrap (d.steps-1)=d.steps-1:=a0l oM oM;refine fEx func147 ?_;repeat' (first|(apply bRx<;>intro h))
 .refine a0A (l:= [0,1,2,3]) rfl ?_ ⟨?_,trivial⟩ (a0b a0c)
  .rw [show decide (d.steps=1)=false from decide_eq_false oM];rfl
  .have e:d0D d.steps=d.steps:=by simp_all [d0D]
   unfold c0A;rw [e];rfl
 .refine a0A (l:= [0,1,2,3]) rfl ?_ ⟨?_,trivial⟩ (a0b a0c)
  .show SV.bool (decide (i64.wrap (d.steps-1)=0))=SV.bool (decide (d.steps=1));rw [hz];grind
  .have e:d0D d.steps=i64.wrap (d.steps-1):=by grind [d0D]
   unfold c0A;rw [e];rfl
theorem t0A (d:Dk) (h0:d.ok) (m:Nat) (hm:m<2^64):FC prog 4 38 [.ptr 1 0 0 0,.int .u64 m] (rkH 3 d) (a0g (.tup []) (rkH 4 (c0S m d)) 5):=by
 have hpm:=h0.pm;have hpl:=h0.pl;refine fEx func38 ?_;repeat' ((conv=>whnf);first|refine a0a ?_|(apply bRx<;>intro h<;>try exact aX))
 (conv=>whnf)
 refine a0h (fun k:Nat=>⟨[(0,.ptr 1 0 0 0),(1,.int .u64 m),(4,.i k)],
  [(1,some (.one false (.cells (rkC 3 d)))),(2,some (.one false (.cols d.nn [.sc (.strs (a0W (h0A m) d.pn d.ps k d.kept))]))),
   (3,some (.one false (.cols d.np [.sc (.ints .i64 d.pn),.sc (.strs d.ps)])))],4⟩) (fun k=>k<=d.np) (fun k=>d.np-k) 0 [0,1,2,3] [] wHx oM ?_
 intro k hk;by_cases hlt:k<d.np
 .have hk64:(k:Int).tmod 64=((k%64:Nat):Int):=by rw [s1Q oM];omega
  have hku:u64.wrap ((k:Int).tmod 64)=((k%64:Nat):Int):=by rw [hk64];exact x0W _ oM
  have hb:=h0.pb _ (j0d d.pn k 0 oM);have hc:h0A m k=decide (t0I .u64 (i0b .u64 (m:Int) (u64.wrap ((k:Int).tmod 64))) 1=1):=by
   rw [hku,<-p1m m (k%64) hm (t1J _ oM)];unfold h0A;rw [Nat.mod_mod]
  repeat' ((conv=>whnf);first|(refine a0f hb ?_)|(refine a0f (by rw [hku];omega) ?_)|refine a0a ?_|(apply bRx<;>intro h<;>try exact aX))
  all_goals (conv=>whnf)
  all_goals first|rw [decide_eq_true (by assumption)] at hc|rw [decide_eq_false (by assumption)] at hc
  all_goals refine ⟨k+1,[0,1,2,3],[],by omega,by omega,⟨rfl,⟨rfl,rfl,sI (a0u oM),trivial⟩,⟨rfl,?_,rX⟩⟩⟩
  all_goals refine congrArg (fun z=>some (HB.one false (.cols d.nn [.sc (.strs z)]))) ?_
  all_goals (simp only [a0W,hc];rfl)
 .have e:k=d.np:=oM
  subst e;repeat' ((conv=>whnf);first|refine a0a ?_|(apply bRx<;>intro h<;>try exact aX)|exact b0K (l:= [0,1,2,3,4]) [.cell 1 1 [.sc (.ints .i64 []),.sc (.strs [])]] rX (e0X _ _))
theorem e1E (d:Dk) (h0:d.ok) (m:Nat) (hm:m<2^64):FC prog 4 12 [.ptr 1 0 0 0,.int .u64 m] (rkH 3 d) (a0g (.i (j1c d)) (rkH 4 (a0I m d)) 5):=by
 rcases b0X d with ⟨hr,hd⟩|⟨hr,hd⟩
 .rw [show a0I m d=d from by simp [a0I,hd],hr];refine fEx func12 ?_;repeat' (first|(apply bRx<;>intro h))
  all_goals first|(simp_all;done)|(exact rOx [0,1,2,3,3] (e0X _ _))
 .rw [show a0I m d=c0S m d from by simp [a0I,hd],hr];refine fEx func12 ?_;repeat' ((conv=>whnf);first|refine cOx (l:= [0,1,2,3]) (t0A d h0 m hm) ?_|(apply bRx<;>intro h))
  all_goals first|(simp_all;done)|(exact rOx [0,1,2,3,4] (e0X _ _))
theorem k0f (d:Dk) (n m:Int):FC prog 4 10 [.ptr 1 0 0 0,.i n,.int .u64 m] [(1,some (.one false (.cells (rkC 3 d))))] (a0g (.i (h0W d n m).2) [(1,some (.one false (.cells (rkC 3 (h0W d n m).1))))] 4):=by
 rcases b0X d with ⟨_,hd⟩|⟨_,hd⟩
 .rw [show h0W d n m=(d,13) from by simp [h0W,hd]];refine fEx func10 ?_;repeat' ((conv=>whnf);first|refine a0a ?_|(apply bRx<;>intro h<;>try exact aX))
  all_goals first|(exfalso;simp_all;done)|((conv=>whnf);exact rOx [0,1,2,3] (a0b a0c))
 .by_cases hn:n<0\/1000000<n
  .rw [show h0W d n m=(d,4) from by simp [h0W,hd,hn]];refine fEx func10 ?_;repeat' ((conv=>whnf);first|refine a0a ?_|(apply bRx<;>intro h<;>try exact aX))
   all_goals first|(exfalso;simp_all;done)|((conv=>whnf);exact rOx [0,1,2,3] (a0b a0c))
  .rw [show h0W d n m=({ d with steps:=n,mask:=m},0) from by simp [h0W,hd,hn]];refine fEx func10 ?_;repeat' ((conv=>whnf);first|refine a0a ?_|(apply bRx<;>intro h<;>try exact aX))
   all_goals first|(exfalso;simp_all;done)|((conv=>whnf);exact rOx [0,1,2,3] (a0b a0c))
theorem f0y (d:Dk):FC prog 4 14 [.ptr 1 0 0 0] [(1,some (.one false (.cells (rkC 3 d))))] (a0g (.i (a0Q d).2) [(1,some (.one false (.cells (rkC 3 (a0Q d).1))))] 4):=by
 rcases b0X d with ⟨_,hd⟩|⟨_,hd⟩
 .rw [show a0Q d=({ d with down:=false},0) from by simp [a0Q,hd]];refine fEx func14 ?_;repeat' (first|(apply bRx<;>intro h))
  all_goals first|(simp_all;done)|(exact rOx [0,1,2,3] (a0b a0c))
 .rw [show a0Q d=(d,8) from by simp [a0Q,hd]];refine fEx func14 ?_;repeat' (first|(apply bRx<;>intro h))
  all_goals first|(simp_all;done)|(exact rOx [0,1,2,3] (a0b a0c))
theorem p0v (d:Dk) (h0:d.ok) (m:Int) (hm:0<=m/\m<2^64):FC prog 4 38 [.ptr 1 0 0 0,.int .u64 m] (rkH 3 d) (a0g (.tup []) (rkH 4 (c0S m d)) 5):=by
 obtain ⟨k,rfl⟩:=r1S hm.1;exact t0A d h0 k oM
theorem h0p (d:Dk) (h0:d.ok) (m:Int) (hm:0<=m/\m<2^64):FC prog 4 12 [.ptr 1 0 0 0,.int .u64 m] (rkH 3 d) (a0g (.i (j1c d)) (rkH 4 (a0I m d)) 5):=by
 obtain ⟨k,rfl⟩:=r1S hm.1;exact e1E d h0 k oM
theorem e1F (d:Dk) (h0:d.ok) (hm:0<=d.mask/\d.mask<2^64) (n:Int) (s:BA):FC prog 4 91 [.ptr 1 0 0 0,.i n,.str s] (rkH 3 d) (a0g (.i (a0L d n s).2) (rkH 4 (a0L d n s).1) 5):=by
 have hpm:=h0.pm;rcases b0X d with ⟨hr,hd⟩|⟨hr,hd⟩
 .rw [show a0L d n s=(d,13) from by simp [a0L,hd]];refine fEx func91 ?_;repeat' ((conv=>whnf);first|refine a0a ?_|(apply bRx<;>intro h<;>try exact aX))
  all_goals first|(exfalso;simp_all;done)|((conv=>whnf);exact rOx [0,1,2,3,3] (e0X _ _))
 .by_cases hn:n<0\/d.nn<=n
  .rw [show a0L d n s=(d,4) from by simp [a0L,hd,hn]];refine fEx func91 ?_;repeat' ((conv=>whnf);first|refine a0a ?_|(apply bRx<;>intro h<;>try exact aX))
   all_goals first|(exfalso;simp_all;done)|((conv=>whnf);exact rOx [0,1,2,3,3] (e0X _ _))
  by_cases hs:64<s.size
  .rw [show a0L d n s=(d,3) from by simp [a0L,hd,hn,hs]];refine fEx func91 ?_;repeat' ((conv=>whnf);first|refine a0a ?_|(apply bRx<;>intro h<;>try exact aX))
   all_goals first|(exfalso;simp_all;done)|((conv=>whnf);exact rOx [0,1,2,3,3] (e0X _ _))
  by_cases hp:4096<=d.np
  .rw [show a0L d n s=(d,12) from by simp [a0L,hd,hn,hs,hp]];refine fEx func91 ?_;repeat' ((conv=>whnf);first|refine a0a ?_|(apply bRx<;>intro h<;>try exact aX))
   all_goals first|(exfalso;simp_all;done)|((conv=>whnf);exact rOx [0,1,2,3,3] (e0X _ _))
  have hok:=q0O (s:=s) h0 (n:=n) oM oM;have hfa:=t0z (o0Y d n s) h0.sb;by_cases ht:d.steps=1
  .rw [show a0L d n s=(c0S d.mask (o0Y d n s),13) from by simp [a0L,hd,hn,hs,hp,ht]];have hcr:=p0v (c0A (o0Y d n s)) (j0f hok) d.mask hm;rw [show decide ((o0Y d n s).steps=1)=true from decide_eq_true ht] at hfa;refine fEx func91 ?_;repeat' ((conv=>whnf);first|refine cOx (l:= [0,1,2,5]) hfa ?_|refine cOx (l:= [0,1,2,5]) hcr ?_|refine a0a ?_|(apply bRx<;>intro h<;>try exact aX))
   all_goals first|(exfalso;simp_all;done)|((conv=>whnf);exact rOx [0,1,2,3,6] (e0X _ _))
  .rw [show a0L d n s=(c0A (o0Y d n s),0) from by simp [a0L,hd,hn,hs,hp,ht]];rw [show decide ((o0Y d n s).steps=1)=false from decide_eq_false ht] at hfa;refine fEx func91 ?_;repeat' ((conv=>whnf);first|refine cOx (l:= [0,1,2,5]) hfa ?_|refine a0a ?_|(apply bRx<;>intro h<;>try exact aX))
   all_goals first|(exfalso;simp_all;done)|((conv=>whnf);exact rOx [0,1,2,3,5] (e0X _ _))
theorem e1G (d:Dk) (h0:d.ok) (hm:0<=d.mask/\d.mask<2^64):FC prog 4 92 [.ptr 1 0 0 0] (rkH 3 d) (a0g (.i (b0h d).2) (rkH 4 (b0h d).1) 5):=by
 have hpm:=h0.pm;have hpl:=h0.pl;rcases b0X d with ⟨hr,hd⟩|⟨hr,hd⟩
 .rw [show b0h d=(d,13) from by simp [b0h,hd]];refine fEx func92 ?_;repeat' ((conv=>whnf);first|refine a0a ?_|(apply bRx<;>intro h<;>try exact aX))
  all_goals first|(exfalso;simp_all;done)|((conv=>whnf);exact rOx [0,1,2,3,3] (e0X _ _))
 .have hfa:=t0z d h0.sb;by_cases ht:d.steps=1
  .rw [show b0h d=(c0S d.mask d,13) from by simp [b0h,hd,ht]];have hcr:=p0v (c0A d) (j0f h0) d.mask hm;rw [show decide (d.steps=1)=true from decide_eq_true ht] at hfa;refine fEx func92 ?_;repeat' ((conv=>whnf);first|refine cOx (l:= [0,1,2,3]) hfa ?_|refine cOx (l:= [0,1,2,3]) hcr ?_|refine a0a ?_|(apply bRx<;>intro h<;>try exact aX))
   all_goals first|(exfalso;simp_all;done)|((conv=>whnf);exact rOx [0,1,2,3,4] (e0X _ _))
  .rw [show b0h d=(c0A (s0T d),0) from by simp [b0h,hd,ht]];rw [show decide (d.steps=1)=false from decide_eq_false ht] at hfa;refine fEx func92 ?_;repeat' ((conv=>whnf);first|refine cOx (l:= [0,1,2,3]) hfa ?_|refine a0a ?_|(apply bRx<;>intro h<;>try exact aX))
   all_goals try (exfalso;simp_all;done)
   (conv=>whnf)
   refine a0h (fun k:Nat=>⟨[(0,.ptr 1 0 0 0),(3,.i k)],
    [(1,some (.one false (.cells (rkC 3 (c0A d))))),(2,some (.one false (.cols d.nn [.sc (.strs (a0W x0z d.pn d.ps k d.kept))]))),
     (3,some (.one false (.cols d.np [.sc (.ints .i64 d.pn),.sc (.strs d.ps)])))],4⟩) (fun k=>k<=d.np) (fun k=>d.np-k) 0 [0,1,2,3] [] wHx oM ?_
   intro k hk;have hcn:(c0A d).np=d.np:=rfl;by_cases hlt:k<d.np
   .have hb:=h0.pb _ (j0d d.pn k 0 oM);repeat' ((conv=>whnf);first|(refine a0f hb ?_)|refine a0a ?_|(apply bRx<;>intro h<;>try exact aX))
    all_goals (conv=>whnf)
    all_goals refine ⟨k+1,[0,1,2,3],[],by omega,by omega,⟨rfl,⟨rfl,sI (a0u oM),trivial⟩,rX⟩⟩
   .have e:k=d.np:=oM
    subst e;repeat' ((conv=>whnf);first|refine a0a ?_|(apply bRx<;>intro h<;>try exact aX)|exact b0K (l:= [0,1,2,3,4]) [.cell 1 1 [.sc (.ints .i64 []),.sc (.strs [])]] rX (e0X _ _))
theorem c0e {α:Type} (l:List α) (i j:Nat) (x z:α) (h:j<l.length):(l.set i x).getD j z=if i=j then x else l.getD j z:=by
 grind
theorem h1X (d:Dk) (h0:d.ok) (w:t0y d) (n:Int):FC prog 4 122 [.ptr 1 0 0 0,.i n] [(1,some (.one true (.cells (rkC 3 d)))),(2,some (.one true (.cols d.nn [.sc (.strs d.kept)]))),(3,some (.one true (.cols d.np [.sc (.ints .i64 d.pn),.sc (.strs d.ps)])))] (a0g (.tup [.str (e0T d n).1,.i (e0T d n).2]) [] 4):=by
 have hpm:=h0.pm;have hpl:=h0.pl;rcases b0X d with ⟨hr,hd⟩|⟨hr,hd⟩
 .rw [show e0T d n=(⟨#[]⟩,13) from by simp [e0T,hd]];refine fEx func122 ?_;repeat' ((conv=>whnf);first|refine a0a ?_|(apply bRx<;>intro h<;>try exact aX))
  all_goals first|(exfalso;simp_all;done)|((conv=>whnf);exact rOx [0,1,2,3] a0c)
 .by_cases hn:n<0\/d.nn<=n
  .rw [show e0T d n=(⟨#[]⟩,4) from by simp [e0T,hd,hn]];refine fEx func122 ?_;repeat' ((conv=>whnf);first|refine a0a ?_|(apply bRx<;>intro h<;>try exact aX))
   all_goals first|(exfalso;simp_all;done)|((conv=>whnf);exact rOx [0,1,2,3] a0c)
  .rw [show e0T d n=((a0W x0z d.pn d.ps d.np d.kept).getD n.toNat ⟨#[]⟩,0) from by rw [show a0W x0z d.pn d.ps d.np d.kept=d.now from w];simp [e0T,hd,hn]];refine fEx func122 ?_;repeat' ((conv=>whnf);first|refine a0a ?_|(apply bRx<;>intro h<;>try exact aX))
   all_goals try (exfalso;simp_all;done)
   (conv=>whnf)
   refine a0h (fun k:Nat=>⟨[(0,.ptr 1 0 0 0),(1,.i n),(6,.str ((a0W x0z d.pn d.ps k d.kept).getD n.toNat ⟨#[]⟩)),(7,.i k)],
    [(1,some (.one true (.cells (rkC 3 d)))),(2,some (.one true (.cols d.nn [.sc (.strs d.kept)]))),(3,some (.one true (.cols d.np [.sc (.ints .i64 d.pn),.sc (.strs d.ps)])))],4⟩) (fun k=>k<=d.np) (fun k=>d.np-k) 0 [0,1,2,3] [] wHx oM ?_
   intro k hk;by_cases hlt:k<d.np
   .have hb:=h0.pb _ (j0d d.pn k 0 oM);have hst:(a0W x0z d.pn d.ps (k+1) d.kept).getD n.toNat ⟨#[]⟩=if (d.pn.getD k 0).toNat=n.toNat then d.ps.getD k ⟨#[]⟩ else (a0W x0z d.pn d.ps k d.kept).getD n.toNat ⟨#[]⟩:=by
     simp only [a0W,x0z,cond_true];exact c0e _ _ _ _ _ (by rw [c0a,h0.kl];omega)
    repeat' ((conv=>whnf);first|refine a0a ?_|(apply bRx<;>intro h<;>try exact aX))
    all_goals (conv=>whnf)
    all_goals refine ⟨k+1,[0,1,2,3],[],by omega,by omega,⟨rfl,⟨rfl,rfl,?_,sI (a0u oM),trivial⟩,rX⟩⟩
    .refine congrArg (fun z=>some (SV.str z)) ?_;have h':d.pn.getD k 0=n:=h;rw [hst,if_pos (by rw [h'])];rfl
    .refine congrArg (fun z=>some (SV.str z)) ?_;have h':¬d.pn.getD k 0=n:=h;rw [hst,if_neg oM]
   .have e:k=d.np:=oM
    subst e;let l:=[0,1,2,3];exact Vx
theorem z0U (n:Int) (h:n<1\/4096<n):a0K prog 6 [.i n] (.tup [.nptr,.i 4]):=by
 exact Wx func6
theorem m1u (n:Nat) (h:1<=n/\n<=4096):FC prog 1 6 [.i n] [] (a0g (.tup [.ptr 1 0 0 0,.i 0]) (rkH 3 (x0A n)) 4):=by
 refine fEx func6 ?_;repeat' (first|refine a0a ?_|(apply bRx<;>intro h<;>try exact aX)|exact b0K (l:= [0,2,1,3]) [.cell 2 1 [.sc (.ints .i64 []),.sc (.strs [])]] rX (e0X _ _))
attribute [local irreducible] seq ByteArray.extract
def rgE (now:List BA):Nat->Nat->Int->BA->Int×Int
 |0,_,_,_=>(0,0)
 |f+1,n,h,t=>if m0X h (now.getD n ⟨#[]⟩) then (if j0b (now.getD n ⟨#[]⟩)=true then (match ucG (t++unP (now.getD n ⟨#[]⟩)) with|some _=>(0,0)|none=>(((n+1:Nat):Int),chI h (unR (now.getD n ⟨#[]⟩)))) else rgE now f (n+1) (chI h (unR (now.getD n ⟨#[]⟩))) (t++unP (now.getD n ⟨#[]⟩))) else (0,0)
def m1v (R:Option (List BA×Nat×Int)) (E:Int×Int):SV->a0k->Nat->Prop:=match R with
 |none=>a0g (.tup [.nsl,.i E.1,.int .u64 E.2,.bool false]) [] 4
 |some (g,n,h)=>a0g (.tup [.sl 4 0 0 g.length,.i n,.int .u64 h,.bool true]) [(4,grW g.length g)] 5
abbrev p1n (p:Nat) (d:Dk):Option HB:=some (.one true (.cells (rkC p d)))
abbrev p1o (d:Dk):Option HB:=some (.one true (.cols d.np [.sc (.ints .i64 d.pn),.sc (.strs d.ps)]))
theorem h1Y (d:Dk) (hd:d.down=false) (h0:d.ok) (w:t0y d) (hsz:∀b∈d.now,b.size<=64) (u:Nat) (hu:u<=d.nn) (p:Int):
  FC prog 4 78 [.ptr 1 0 0 0,.i u,.int .u64 p] [(1,p1n 3 d),(2,grB d.nn d.kept),(3,p1o d)] (m1v (rdK d.now (d.nn-u) u p ⟨#[]⟩) (rgE d.now (d.nn-u) u p ⟨#[]⟩)):=by
 have hnn:=h0.nm;have c1:=p0u d;obtain ⟨R,hR⟩:∃R,rdK d.now (d.nn-u) u p ⟨#[]⟩=R:=⟨_,rfl⟩;obtain ⟨E,hE⟩:∃E,rgE d.now (d.nn-u) u p ⟨#[]⟩=E:=⟨_,rfl⟩;rw [hR,hE];refine fEx func78 ?_;repeat' ((conv=>whnf);first|refine a0a ?_|(apply bRx<;>intro h<;>try exact aX))
 all_goals (conv=>whnf)
 refine a0h (fun x:Nat×Nat×Int×BA=>⟨[(0,.ptr 1 0 0 0),(2,.int .u64 x.2.2.1),(10,.str x.2.2.2),(11,.i x.2.1)],[(1,p1n 3 d),(2,grB d.nn d.kept),(3,p1o d)],4⟩) (fun x=>x.2.1+x.1=d.nn/\rdK d.now x.1 x.2.1 x.2.2.1 x.2.2.2=R/\rgE d.now x.1 x.2.1 x.2.2.1 x.2.2.2=E/\x.2.2.2.size<=64*x.2.1) (fun x=>x.1) (d.nn-u,u,p,⟨#[]⟩) [0,1,2,3] [] wHx ⟨by dsimp only;omega,hR,hE,b1f _⟩ ?_;rintro ⟨f,n,hh,t⟩ ⟨hf,hr,he,hs⟩;dsimp only at hf hr he hs⊢;cases f with
 |zero=>
  have hr:R=none:=hr.symm;have he:E=(0,0):=he.symm;subst hr he;let l:=[0,1,2,3];exact Vx
 |succ f=>
  have hn:n<d.nn:=oM
  have c2:=h1X d h0 w (n:Int);have er:e0T d (n:Int)=(d.now.getD n ⟨#[]⟩,0):=by unfold e0T;rw [if_neg (by rw [hd];decide),if_neg oM,u0f]
  rw [er] at c2;have zB:=l1x hsz n;have c3:=z0E hh (d.now.getD n ⟨#[]⟩) oM;generalize hB:d.now.getD n ⟨#[]⟩=B at c2 c3 zB;by_cases ho:m0X hh B
  .rw [if_pos ho] at c3;have z1:=ho.1;have zp:=j0c ho.1;have ho':m0X hh (d.now.getD n ⟨#[]⟩):=by rw [hB];exact ho
   have k1:t.size+(unP B).size<=9223372036854775807:=oM
   cases hl:j0b B with
   |false=>
    unfold unV at c3;rw [hl] at c3;rw [j0X ho' (by rw [hB];exact hl),hB] at hr;have he':rgE d.now f (n+1) (chI hh (unR B)) (t++unP B)=E:=by
     rw [<-he];simp only [rgE];rw [if_pos ho',hB,hl,if_neg dC]
    repeat' ((conv=>whnf);first|refine cOx (l:= [0,1,2,3]) c1 ?_|refine cOx (l:= [0,1,2,3]) c2 ?_|refine cPx c3 ?_|(refine a0f k1 ?_)|refine a0a ?_|(apply bRx<;>intro h<;>try exact aX)|exact aX|(exfalso;exact h rfl)|exact ⟨(f,n+1,chI hh (unR B),t++unP B),[0,1,2,3],[],⟨by dsimp only;omega,hr,he',by dsimp only;rw [b0B];omega⟩,by dsimp only;omega,⟨rfl,⟨rfl,rfl,rfl,sI (a0u oM),trivial⟩,rX⟩⟩)
   |true=>
    unfold unV at c3;rw [hl] at c3;have c5:=p1l (t++unP B) (by rw [b0B];omega) (by rw [b0B];omega);rw [j0Y ho' (by rw [hB];exact hl),hB] at hr;have he':(match ucG (t++unP B) with|some _=>((0:Int),(0:Int))|none=>(((n+1:Nat):Int),chI hh (unR B)))=E:=by
     rw [<-he];simp only [rgE];rw [if_pos ho',hB,hl,if_pos rfl]
    have e1:i64.wrap ((n:Int)+1)=((n+1:Nat):Int):=a0u oM;cases hu:ucG (t++unP B) with
    |none=>
     rw [hu] at c5 hr he';subst hr he';simp only [s0S] at c5;repeat' ((conv=>whnf);first|refine cOx (l:= [0,1,2,3]) c1 ?_|refine cOx (l:= [0,1,2,3]) c2 ?_|refine cPx c3 ?_|(refine a0f k1 ?_)|refine cOx (l:= [0]) c5 ?_|refine a0a ?_|(apply bRx<;>intro h<;>try exact aX)|exact aX|(exfalso;exact h rfl)|(rw [e1];exact rOx [0,1,2,3] a0c))
    |some g=>
     rw [hu] at c5 hr he';subst hr he';simp only [s0S] at c5;repeat' ((conv=>whnf);first|refine cOx (l:= [0,1,2,3]) c1 ?_|refine cOx (l:= [0,1,2,3]) c2 ?_|refine cPx c3 ?_|(refine a0f k1 ?_)|refine cOx (l:= [0]) c5 ?_|refine a0a ?_|(apply bRx<;>intro h<;>try exact aX)|exact aX|(exfalso;exact h rfl)|(rw [e1];exact rOx [0,1,2,3,4] (a0b a0c)))
  .rw [if_neg ho] at c3;unfold unN at c3;have ho':¬m0X hh (d.now.getD n ⟨#[]⟩):=by rw [hB];exact ho
   rw [z0y ho'] at hr;have he':(0,0)=E:=by rw [<-he];simp only [rgE];rw [if_neg ho']
   subst hr he';let l:=[0,1,2,3];exact Vx
end
section
attribute [local irreducible] seq ByteArray.extract
def v0J (d:Dk):Nat->Jr->List (List BA)->List (List BA)
 |0,_,L=>L
 |f+1,j,L=>match nxR j d with
  |none=>L
  |some r=>v0J d f (nxJ j (some r)) (L++ [r.1])
def opG (d:Dk):List (List BA):=v0J d (d.nn+1) jr0 []
structure LJ (L:List (List BA)) (j:Jr):Prop where
 gr:L.length=j.groups
 rc:L.flatten=j.recs
 le:∀g∈L,g.length<=256
theorem e1H {L:List (List BA)} {j:Jr} (h:LJ L j) {g:List BA} {n:Nat} {k:Int} (hg:g.length<=256):LJ (L++ [g]) (nxJ j (some (g,n,k))):=by
 refine ⟨?_,?_,?_⟩
 .rw [s0c,m1T,h.gr];rfl
 .rw [u1p,h.rc];show j.recs++ [g].flatten=j.recs++g;simp
 .intro x hx;rcases k1q.1 hx with hx|hx
  .exact h.le x hx
  simp_all
theorem j1v {d:Dk}:∀(f:Nat) {j:Jr} {L:List (List BA)},LJ L j->LJ (v0J d f j L) (opK d f j)
 |0,j,L,h=>h
 |f+1,j,L,h=>by
  simp only [v0J,opK];cases hr:nxR j d with
  |none=>omega
  |some r=>
   exact j1v f (e1H h (h1d hr).2.2.1)
theorem e1I:LJ [] jr0:=⟨rfl,rfl,fun g hg=>by grind⟩
theorem j1w (d:Dk):LJ (opG d) (opJ d):=j1v _ e1I
abbrev gF (G:List (List BA)) (x:Nat):Blk:= .cols ((G.map List.length).getD x 0) [.sc (.strs (G.getD x []))]
abbrev h1Z (G:List (List BA)):Option HB:=some (.fam false (fun x=>x<G.length) (gF G))
abbrev r1q (G:List (List BA)):Option HB:=some (.fam true (fun x=>x<G.length) (gF G))
theorem j1x {G:List (List BA)} {o:List BA}:∀q,q<G.length->gF (G++ [o]) q=gF G q:=by
 grind
theorem j1y {G:List (List BA)} {o:List BA}:gF (G++ [o]) G.length= .cols o.length [.sc (.strs o)]:=by
 simp
def rjC (dk t n m:Nat) (j:Jr):List SV:= [.ptr dk 0 0 0,.sl t 0 0 m,.sl n 0 0 j.ng,.i j.used,.int .u64 j.head,.bool j.stopped]
def f0H (ro:Bool) (f m:Nat) (ls:List Nat):Option HB:=some (.one ro (.cols m [.own f ls]))
def rgS (d:Dk) (x:Nat×Jr×List (List BA)):VS:=
 ⟨[(0,.ptr 1 0 0 0),(4,.ptr 4 0 0 0)],[(1,p1n 3 d),(2,grB d.nn d.kept),(3,p1o d),(4,a0P false (rjC 1 5 6 x.2.2.length x.2.1)),(5,f0H false 7 x.2.2.length (x.2.2.map List.length)),(6,grW x.2.1.ng x.2.1.grp),(7,h1Z x.2.2)],8⟩
theorem m1w (d:Dk) (f:Nat) (j:Jr) (L:List (List BA)) (o:List BA):rgS d (f,j,L++ [o])=⟨[(0,.ptr 1 0 0 0),(4,.ptr 4 0 0 0)],[(1,p1n 3 d),(2,grB d.nn d.kept),(3,p1o d),(4,a0P false (rjC 1 5 6 (L.length+1) j)),(5,f0H false 7 (L.length+1) (L.map List.length++ [o.length])),(6,grW j.ng j.grp),(7,some (.fam false (fun x=>x<L.length+1) (gF (L++ [o]))))],8⟩:=by
 simp [rgS]
theorem m1x (d:Dk) (hd:d.down=false) (h0:d.ok) (w:t0y d) (hsz:∀b∈d.now,b.size<=64):
  FC prog 4 33 [.ptr 1 0 0 0] [(1,p1n 3 d),(2,grB d.nn d.kept),(3,p1o d)]
   (a0g (.tup [.ptr 4 0 0 0,.i 0]) [(4,a0P false (rjC 1 5 6 (opG d).length (opJ d))),(5,f0H false 7 (opG d).length ((opG d).map List.length)),(6,grW (opJ d).ng (opJ d).grp),(7,h1Z (opG d))] 8):=by
 have hnn:=h0.nm;have c1:=h1W d;rw [hd] at c1;obtain ⟨J,hJ⟩:∃J,opJ d=J:=⟨_,rfl⟩;obtain ⟨G,hG⟩:∃G,opG d=G:=⟨_,rfl⟩;rw [hJ,hG];refine fEx func33 ?_;repeat' ((conv=>whnf);first|refine cOx (l:= [0,1,2,3]) c1 ?_|refine a0a ?_|(apply bRx<;>intro h<;>try exact aX))
 all_goals (conv=>whnf)
 refine a0h (rgS d) (fun x=>opK d x.1 x.2.1=J/\v0J d x.1 x.2.1 x.2.2=G/\JO d x.2.1/\LJ x.2.2 x.2.1/\d.nn<x.2.1.used+x.1) (fun x=>x.1) (d.nn+1,jr0,[]) [0,1,2,3,4,5,6,7] [.cell 4 1 [.svs []],.cell 4 2 [.sc (.strs [])],.relab (fun _ _=>none) (fun _=>0) [(5,f0H false 7 0 []),(7+0,some (.fam false (fun x=>x<0) (gF [])))] [] 1] ⟨m0B (n:=7) (a:=5) dC rfl,rfl,rX,rX⟩ ⟨hJ,hG,n0a d,e1I,by show d.nn<0+(d.nn+1);omega⟩ ?_;rintro ⟨f,j,L⟩ ⟨hf,hL,ho,hlj,hu⟩;dsimp only at hf hL ho hlj hu⊢;have us:=ho.us;have gs:=ho.gs;have hlg:=hlj.gr;obtain ⟨f,rfl⟩:∃k,f=k+1:=⟨f-1,by omega⟩;have c2:=h1Y d hd h0 w hsz j.used us j.head;generalize rgE d.now (d.nn-j.used) j.used j.head ⟨#[]⟩=E at c2;cases hr:nxR j d with
 |none=>
  rw [show rdK d.now (d.nn-j.used) j.used j.head ⟨#[]⟩=none from hr] at c2;simp only [m1v] at c2;simp only [opK,v0J,hr] at hf hL;subst hf hL;repeat' ((conv=>whnf);first|refine cOx (l:= [0,1,2,3]) c2 ?_|refine a0a ?_|(apply bRx<;>intro h<;>try exact aX)|exact rOx xAl (a0b (a0b (a0b (a0r a0c)))))
 |some r=>
  obtain ⟨h1,h2⟩:=n0b ho hr;obtain ⟨g,n,k⟩:=r;have hgl:=(h1d hr).2.2.1;rw [show rdK d.now (d.nn-j.used) j.used j.head ⟨#[]⟩=some (g,n,k) from hr] at c2;simp only [m1v] at c2;simp only [opK,v0J,hr] at hf hL;have hcap:0+L.length=L.length/\(L.length+1+500)*25<=70368744177664:=oM
  repeat' ((conv=>whnf);first|refine cOx (l:= [0,1,2,3]) c2 ?_|refine a0a ?_|(apply bRx<;>intro h<;>try exact aX))
  all_goals (conv=>whnf)
  refine ⟨(f,nxJ j (some (g,n,k)),L++ [g]),[0,1,2,3,4,10,6,11],[.relab (gdR 11 L.length [⟨7,8,gF (L++ [g])⟩]) (fun _=>0) [(10,some (.one false (.cols (L.length+1) [.own 11 (L.map List.length++ [g.length])]))),(11+0,some (.fam false (fun x=>x<L.length+1) (gF (L++ [g]))))] [7,8] 1],⟨hf,hL,h1,e1H hlj hgl,by dsimp only;omega⟩,t1Q _,?_⟩;rw [m1w];exact ⟨i0M (by rw [f1R]) oM rfl rfl (fun q hq=>hq) rfl dC dC dC j1x j1y,rfl,rX,rX⟩
theorem m1y (j:Jr) (m:Nat) (d:Dk) (hnn:d.nn<=4096) (hu:j.used<=d.nn):FC prog 8 90 [.ptr 1 0 0 0] [(1,a0P true (rjC 2 5 6 m j)),(2,some (.one true (.cells [.sl 3 0 0 d.nn,.sl 4 0 0 d.np,.bool d.down,.i d.steps,.int .u64 d.mask])))] (a0g (.i ((d.nn:Int)-(j.used:Int))) [] 8):=by
 have c1:=p0u d;refine fEx func90 ?_;repeat' ((conv=>whnf);first|refine cOx (l:= [0,2,3,4]) c1 ?_|refine a0a ?_)
 all_goals (conv=>whnf)
 rw [a0l oM oM];exact rOx xAl a0c
theorem m1z (j:Jr) (m:Nat):FC prog 8 46 [.ptr 1 0 0 0] [(1,a0P false (rjC 2 5 6 m j)),(6,grW j.ng j.grp)] (a0g (.tup []) [(1,a0P false (rjC 2 5 8 m { j with grp:= [],ng:=0})),(8,grW 0 [])] 9):=by
 refine fEx func46 ?_;repeat' (first|exact b0K (l:= xAb) [.cell 1 2 [.sc (.strs [])]] rX (a0b (a0b a0c)))
theorem j1z (n:Nat):∀(k i:Nat),i<k->(dgL n k)[i]? =some (m0S ((n/16^(k-1-i)%16:Nat):Int))
 |0,i,h=>by omega
 |k+1,0,h=>by rfl
 |k+1,i+1,h=>by
  simp only [dgL,t1M];rw [j1z n k i oM,show k+1-1-(i+1)=k-1-i from by omega]
theorem i1a {x:Int} (h0:0<=x) (h:x<16):0<=m0S x/\m0S x<=255:=by unfold m0S;split<;>omega
theorem i1b {x y:Int} (hx:0<=x/\x<16) (hy:0<=y/\y<16) (h:m0S x=m0S y):x=y:=by
 grind [m0S]
theorem j1A (n:Nat):∀k,∀x∈dgL n k,0<=x/\x<=255
 |0,x,h=>by trivial
 |k+1,x,h=>by
  simp only [dgL,f1I] at h;rcases h with rfl|h
  .exact i1a oM oM
  .exact j1A n k x h
theorem q1P (n:Nat) {i:Nat} (h:i<16):a0d (a0m (dgL n 16)) (i:Int)=m0S ((n/16^(15-i)%16:Nat):Int):=by
 rw [g0w (by trivial) (j1A n 16)];have e:=j1z n 16 i h;grind
theorem e1J {k:Nat} (h:k<16):a0d o1B (k:Int)=m0S (k:Int):=by
 have:∀n:Nat,n<16->a0d o1B (n:Int)=m0S (n:Int):=dC
 simp_all
theorem r1J (n i:Nat) (h:i<16):n/16^(16-i)*16+n/16^(15-i)%16=n/16^(15-i):=by
 rw [show 16-i=(15-i)+1 from by omega,t1T,<-t1A];omega
theorem e1K (n:Nat) (hn:n<18446744073709551616):a0K prog 93 [.str (hxS (n:Int))] (.tup [.int .u64 (n:Int),.i 0]):=by
 have hx:a0m (dgL n 16)=hxS (n:Int):=by rw [j1k n];unfold hxS;rfl
 have zx:(hxS (n:Int)).size=16:=f0r _;have hat:∀i:Nat,i<16->a0d (hxS (n:Int)) (i:Int)=m0S ((n/16^(15-i)%16:Nat):Int):=fun i hi=>by rw [<-hx];exact q1P n hi
 have c1:=h0m (n:Int) oM;clear hx;generalize hxS (n:Int)=S at c1 zx hat;refine fEx func93 ?_;repeat' ((conv=>whnf);first|refine a0a ?_|(apply bRx<;>intro h<;>try exact aX))
 all_goals (conv=>whnf)
 refine a0h (fun i:Nat=>⟨[(0,.str S),(4,.int .u64 ((n/16^(16-i):Nat):Int)),(5,.i i)],[],1⟩) (fun i=>i<=16) (fun i=>16-i) 0 [0] [] (wEx ⟨rfl,congrArg (fun z:Nat=>some (SV.int .u64 (z:Int))) (show 0=n/16^16 from (u1G (by simpa using hn)).symm),rX⟩) oM ?_;intro i hi;by_cases hlt:i<16
 .repeat' ((conv=>whnf);first|refine a0a ?_|(apply bRx<;>intro h<;>try exact aX))
  all_goals (conv=>whnf)
  all_goals first
   |exact aX
   |skip
  have hv:=hat i hlt;have hup:=r1J n i hlt;have eq1:n/16^(16-(i+1))=n/16^(15-i):=by rw [show 16-(i+1)=15-i from by omega]
  have hq:n/16^(15-i)<=n:=t1h _ _;have hq2:n/16^(16-i)<=n:=t1h _ _;generalize n/16^(15-i)=q at*;generalize n/16^(16-i)=r at*;obtain ⟨v,hvd⟩:∃v,q%16=v:=⟨_,rfl⟩;have hv16:v<16:=oM
  rw [hvd] at hv;refine a0h (fun k:Nat=>⟨[(0,.str S),(4,.int .u64 (r:Int)),(5,.i i),(6,.int .u64 ((if v<k then v else 0:Nat):Int)),(7,.i k)],[],1⟩) (fun k=>k<=16) (fun k=>16-k) 0 [0] [] (wEx ⟨rfl,rfl,rfl,congrArg (fun z:Nat=>some (SV.int .u64 (z:Int))) (show 0=if v<0 then v else 0 from rfl),rX⟩) oM ?_;intro k hk;by_cases hkl:k<16
  .have hc:=e1J hkl;have hci:m0S (k:Int)=m0S (v:Int)↔k=v:=⟨fun e=>by have:=i1b oM oM e;omega,fun e=>by rw [e]⟩;have b1:=d0p S (i:Int);have b2:=d0p o1B (k:Int);have k3:(0:Int)<=(k:Int)/\(k:Int)<((⟨#[48,49,50,51,52,53,54,55,56,57,97,98,99,100,101,102]⟩:BA).size:Int):=by
    show _/\_<(16:Int);omega
   repeat' ((conv=>whnf);first|(refine a0f k3 ?_)|refine a0a ?_|(apply bRx<;>intro h<;>try exact aX))
   all_goals (conv=>whnf)
   all_goals first
    |exact aX
    |skip
   .have ek:k=v:=hci.1 (by rw [<-hc,<-hv];exact h);refine ⟨k+1,[0],[],by omega,by omega,⟨rfl,⟨rfl,rfl,rfl,?_,sI (a0u oM),trivial⟩,trivial⟩⟩;refine congrArg (fun z=>some (SV.int .u64 z)) ?_;show u64.wrap (k:Int)=_;rw [c0d oM oM,if_pos oM,ek]
   .have ek:k≠v:=fun e=>h (by rw [hv,<-hci.2 e];exact hc)
    refine ⟨k+1,[0],[],by omega,by omega,⟨rfl,⟨rfl,rfl,rfl,?_,sI (a0u oM),trivial⟩,trivial⟩⟩;refine congrArg (fun z:Nat=>some (SV.int .u64 (z:Int))) ?_;by_cases hvk:v<k
    .rw [if_pos hvk,if_pos oM]
    .rw [if_neg hvk,if_neg oM]
  .obtain rfl:k=16:=oM
   rw [if_pos hv16];have hq3:u64.wrap (u64.wrap ((r:Int)*16)+(v:Int))=(q:Int):=by
    rw [c0d (n:=(r:Int)*16) oM oM,c0d oM oM];omega
   repeat' ((conv=>whnf);first|refine a0a ?_|(apply bRx<;>intro h<;>try exact aX))
   all_goals (conv=>whnf)
   all_goals first
    |exact aX
    |skip
   refine ⟨i+1,[0],[],by omega,by omega,⟨rfl,⟨rfl,?_,sI (a0u oM),trivial⟩,trivial⟩⟩;rw [eq1];exact congrArg (fun z=>some (SV.int .u64 z)) hq3
 .obtain rfl:i=16:=oM
  rw [show n/16^(16-16)=n from by simp];exact Vx
abbrev dkD (d:Dk):List SV:= [.sl 3 0 0 d.nn,.sl 4 0 0 d.np,.bool d.down,.i d.steps,.int .u64 d.mask]
theorem p1p {g:List BA} {r:BA} (hg:okR g) (hr:r.size<=4000):okR (g++ [r]):=by
 intro x hx;rcases k1q.1 hx with hx|hx
 .exact hg x hx
 simp_all
theorem t0B (j:Jr) (m:Nat) (d:Dk) (r:BA) (hj:j.ok d) (hnn:d.nn<=4096):FC prog 8 45 [.ptr 1 0 0 0,.str r] [(1,a0P false (rjC 2 5 6 m j)),(2,some (.one true (.cells (dkD d)))),(6,grW j.ng j.grp)]
  (a0g (.i (jaE j d r)) [(1,a0P false (rjC 2 5 8 m (jaJ j d r))),(8,grW (jaJ j d r).ng (jaJ j d r).grp)] 9):=by
 have gl:=hj.gl;have gm:=hj.gm;have us:=hj.us;have go:=hj.go;by_cases h1:j.stopped=true
 .have e:jaE j d r=13:=by unfold jaE;rw [if_pos h1]
  rw [g0u oM,e];refine fEx func45 ?_;repeat' ((conv=>whnf);first|refine a0a ?_|(apply bRx<;>intro h<;>try exact aX)|exact rOx xAi (a0b (a0b a0c))|(exfalso;simp_all;done))
 .have h1':j.stopped=false:=by cases h:j.stopped with|false=>rfl|true=>exact absurd h h1
  by_cases h2:4000<r.size
  .have e:jaE j d r=3:=by unfold jaE;rw [if_neg h1,if_pos h2]
   rw [g0u oM,e];refine fEx func45 ?_;repeat' ((conv=>whnf);first|refine a0a ?_|(apply bRx<;>intro h<;>try exact aX)|exact rOx xAi (a0b (a0b a0c))|(exfalso;simp_all;done))
  .have ok:okR (j.grp++ [r]):=p1p go oM;have hlen:(j.grp++ [r]).length=j.ng+1:=by rw [s0c,gl];rfl
   have so:seg 0 j.ng j.grp=j.grp:=j0Z gl;by_cases h3:256<=j.ng
   .have e:jaE j d r=12:=by unfold jaE;rw [if_neg h1,if_neg h2,if_pos h3]
    have ce:f0G (j.grp++ [r])=12:=by unfold f0G;rw [if_neg oM,if_pos oM]
    have c1:=t0f 0 (j.grp++ [r]) (j.ng+1) hlen (by rw [ce];decide) (by unfold maxLen;omega);rw [ce] at c1;rw [g0u oM,e];rw [<-so] at c1;refine fEx func45 ?_;repeat' ((conv=>whnf);first|refine cOx (l:= [0,10]) c1 ?_|refine a0a ?_|(apply bRx<;>intro h<;>try exact aX)|exact rOx xAi (a0b (a0b a0c))|(exfalso;simp_all;done))
   .have ce:f0G (j.grp++ [r])=0:=by unfold f0G;rw [if_neg oM,if_neg oM,q0J ok,if_neg dC]
    have c1:=t0g 0 (j.grp++ [r]) (j.ng+1) hlen ce;have hnb:d0k (a0x (j.grp++ [r]))=(jaZ j r+44)/45:=by
     rw [d1B ok,hlen,<-gl,d1A];unfold jaZ;rw [gl];omega
    have c2:=m1y j m d hnn us;have hz:=o0W go j.ng;rw [hnb] at c1;obtain ⟨NB,hNB⟩:∃NB,(jaZ j r+44)/45=NB:=⟨_,rfl⟩;rw [hNB] at c1;have e0:∀h:¬d.nn-j.used<NB,jaE j d r=0:=fun h=>by unfold jaE;rw [if_neg h1,if_neg h2,if_neg h3,hNB,if_neg h]
    have e12:∀h:d.nn-j.used<NB,jaE j d r=12:=fun h=>by unfold jaE;rw [if_neg h1,if_neg h2,if_neg h3,hNB,if_pos h]
    generalize bkL 0 (a0x (j.grp++ [r])) NB=BL at c1;rw [<-so] at c1;refine fEx func45 ?_;repeat' ((conv=>whnf);first|refine cOx (l:= [0,10]) c1 ?_|refine cOx (l:= xAl) c2 ?_|refine a0a ?_|(apply bRx<;>intro h<;>try exact aX))
    all_goals (conv=>whnf)
    all_goals first
     |(exfalso;simp_all;done)
     |(have h':(d.nn:Int)-(j.used:Int)<(NB:Int):=h
       have e:=e12 oM;rw [g0u oM,e];exact rOx xAi (a0b (a0b a0c)))
     |(have h':¬((d.nn:Int)-(j.used:Int)<(NB:Int)):=h
       have e:=e0 oM;rw [x0B e,e];refine a0A (l:= xBe) rfl rfl ⟨rfl,?_,trivial⟩ (a0b (a0b a0c));exact congrArg (fun z=>some (HB.one false (.cols (j.ng+1) [.sc (.strs (z++ [r]))]))) so)
theorem z0V (j:Jr) (L:List (List BA)) (h:LJ L j) (hr:j.recs.length=j.nr) (h20:L.length<=4096):FC prog 8 35 [.ptr 1 0 0 0] [(1,a0P true (rjC 2 5 6 L.length j)),(5,f0H true 7 L.length (L.map List.length)),(7,r1q L)] (a0g (.sl 8 0 0 j.nr) [(8,grW j.nr j.recs)] 9):=by
 have hle:∀i,(L.getD i []).length<=256:=by
  intro i;rcases i1B i L.length with hi|hi
  .rw [List.getD,m0b hi];exact h.le _ (k1j hi)
  .rw [List.getD,a1X hi];exact b1f _
 refine fEx func35 ?_;repeat' ((conv=>whnf);first|refine a0a ?_|(apply bRx<;>intro h<;>try exact aX))
 all_goals (conv=>whnf)
 refine a0h (fun x:Nat×Nat×List BA=>⟨[(0,.ptr 1 0 0 0),(3,.sl 8 0 0 x.2.1),(4,.i x.1)],[(1,a0P true (rjC 2 5 6 L.length j)),(5,f0H true 7 L.length (L.map List.length)),(7,r1q L),(8,grW x.2.1 x.2.2)],9⟩) (fun x=>x.1<=L.length/\x.2.2=(L.take x.1).flatten/\x.2.2.length=x.2.1/\x.2.1<=256*x.1) (fun x=>L.length-x.1) (0,0,[]) [0,1,2,3,4,5,6,7,8] [.slot 3 [.sc (.strs [])]] wHx ⟨b1f _,rfl,rfl,b1f _⟩ ?_;rintro ⟨i,w,W⟩ ⟨i1,i2,i3,i4⟩;dsimp only at i1 i2 i3 i4⊢;by_cases hlt:i<L.length
 .have em:(L.map List.length).getD i 0=(L.getD i []).length:=by rw [List.getD,List.getD,f1Q,m0b hlt];rfl
  have gl:=hle i;generalize hN:(L.map List.length).getD i 0=N at em;have hseg:seg 0 ((L.map List.length).getD i 0) (L.getD i [])=L.getD i []:=j0Z (by rw [hN];exact em.symm);have k1:i<L.length/\0+(L.map List.length).getD i 0<=(L.map List.length).getD i 0/\0+w=w/\(w+(L.map List.length).getD i 0+500)*17<=70368744177664:=by
   rw [hN];exact ⟨hlt,by omega,by omega,by omega⟩
  have tk:(L.take (i+1)).flatten=(L.take i).flatten++L.getD i []:=by
   rw [s1c,u1p,List.getD,m0b hlt];simp
  repeat' ((conv=>whnf);first|(refine a0f k1 ?_)|refine a0a ?_|(apply bRx<;>intro h<;>try exact aX))
  all_goals (conv=>whnf)
  all_goals first
   |exact aX
   |skip
  refine ⟨(i+1,w+(L.map List.length).getD i 0,W++seg 0 ((L.map List.length).getD i 0) (L.getD i [])),xBd,[],⟨by dsimp only;omega,?_,?_,by dsimp only;rw [hN];omega⟩,by dsimp only;omega,⟨rfl,⟨rfl,rfl,sI (a0u oM),trivial⟩,rX⟩⟩
  .dsimp only;rw [hseg,i2,tk]
  .dsimp only;rw [hseg,hN,s0c,i3,em]
 .obtain rfl:i=L.length:=oM
  rw [n1v,h.rc] at i2;obtain rfl:W=j.recs:=i2;obtain rfl:w=j.nr:=by rw [<-i3];exact hr
  let l:=xAb;exact Vx
def rjH (p t f n:Nat) (j:Jr) (L:List (List BA)) (d:Dk):a0k:=
 [(1,a0P false (rjC 2 t n L.length j)),(2,a0P false [.sl 3 0 0 d.nn,.sl p 0 0 d.np,.bool d.down,.i d.steps,.int .u64 d.mask]),(3,grW d.nn d.kept),(p,some (.one false (.cols d.np [.sc (.ints .i64 d.pn),.sc (.strs d.ps)]))),
   (t,f0H false f L.length (L.map List.length)),(n,grW j.ng j.grp),(f,h1Z L)]
theorem x0X (p t f n:Nat) (j:Jr) (L:List (List BA)) (d:Dk):c0x (rjH p t f n j L d):=a0b (a0b (a0b (a0b (a0b (a0b (a0r a0c))))))
def cmL (j:Jr) (L:List (List BA)) (d:Dk):List (List BA):=if (cmR j d).2.2=0 then L++ [j.grp] else L
theorem h0B {j:Jr} {L:List (List BA)} {d D:Dk} {J:Jr} {e:Int} (h:cmR j d=(J,D,e)) (he:e≠0):cmL j L d=L:=by
 simp_all [cmL]
theorem x0Y {j:Jr} {L:List (List BA)} {d D:Dk} {J:Jr} (h:cmR j d=(J,D,0)):cmL j L d=L++ [j.grp]:=by
 unfold cmL;simp_all
theorem m1A (p t f n:Nat) (j:Jr) (L:List (List BA)) (o:List BA) (d:Dk):rjH p t f n j (L++ [o]) d=
 [(1,a0P false (rjC 2 t n (L.length+1) j)),(2,a0P false [.sl 3 0 0 d.nn,.sl p 0 0 d.np,.bool d.down,.i d.steps,.int .u64 d.mask]),(3,grW d.nn d.kept),(p,some (.one false (.cols d.np [.sc (.ints .i64 d.pn),.sc (.strs d.ps)]))),
   (t,f0H false f (L.length+1) (L.map List.length++ [o.length])),(n,grW j.ng j.grp),(f,some (.fam false (fun x=>x<L.length+1) (gF (L++ [o]))))]:=by
 simp [rjH]
theorem m1B {d:Dk} (h:0<=d.mask/\d.mask<2^64) (n:Int) (s:BA):0<=(a0L d n s).1.mask/\(a0L d n s).1.mask<2^64:=by
 unfold a0L;have z:(0:Int)<=0/\(0:Int)<2^64:=by simp
 (repeat' split)<;>first|exact h|exact z
theorem t0C (j:Jr) (L:List (List BA)) (d:Dk) (hj:j.ok d) (hd:d.ok) (hm:0<=d.mask/\d.mask<2^64) (hL:L.length<=4096) (hng:j.stopped=false->j.ng=0\/0<j.ng):FC prog 8 47 [.ptr 1 0 0 0] (rjH 4 5 7 6 j L d)
  (a0g (.i (cmR j d).2.2) (rjH 8 9 11 10 (cmR j d).1 (cmL j L d) (cmR j d).2.1) 12):=by
 have gl:=hj.gl;have gm:=hj.gm;have us:=hj.us;have go:=hj.go;have gs:=hj.gs;have hnn:=hd.nm;by_cases h1:j.stopped=true
 .have er:cmR j d=(j,d,13):=by unfold cmR;rw [if_pos h1]
  rw [h0B er dC,er];refine fEx func47 ?_;repeat' ((conv=>whnf);first|refine a0a ?_|(apply bRx<;>intro h<;>try exact aX)|exact rOx [0,1,2,3,4,5,6,7,4,5,6,7] (x0X _ _ _ _ _ _ _)|(exfalso;simp_all;done))
 .have h1':j.stopped=false:=by cases h:j.stopped with|false=>rfl|true=>exact absurd h h1
  by_cases h0:j.ng=0
  .have eg:j.grp= []:=s1D oM;have er:cmR j d=(j,d,8):=by unfold cmR;rw [if_neg h1,eg,if_pos dC];rfl
   rw [h0B er dC,er];refine fEx func47 ?_;repeat' ((conv=>whnf);first|refine a0a ?_|(apply bRx<;>intro h<;>try exact aX)|exact rOx [0,1,2,3,4,5,6,7,4,5,6,7] (x0X _ _ _ _ _ _ _)|(exfalso;simp_all;done)|exact aX)
  .have h2':f0G j.grp=0:=by unfold f0G;rw [if_neg oM,if_neg oM,q0J go,if_neg dC]
   have c1:=t0g j.head j.grp j.ng gl h2';obtain ⟨W,hW⟩:∃W,cmW j d=W:=⟨_,rfl⟩;have er:cmR j d=if W.2=false then (q0P j,W.1,13) else if (b0h W.1).2≠0 then (q0P j,(b0h W.1).1,13) else (z0z j,(b0h W.1).1,0):=by
    unfold cmR;rw [if_neg h1,if_neg (by rw [h2'];decide),hW]
   have hnb:d0k (a0x j.grp)<=30000:=by
    have:=o0W go j.grp.length;rw [<-f0s go,d0K] at this;unfold d0k;omega
   have hsp:0<(a0x j.grp).size:=by rw [<-d0K,f0s go];have:=x0u (g:=j.grp) j.grp.length;omega
   have hnb0:0<d0k (a0x j.grp):=by unfold d0k;omega
   have hHK:=o1s hj.hb (a0x j.grp) (d0k (a0x j.grp));have hlast:((bkL j.head (a0x j.grp) (d0k (a0x j.grp))).getD (d0k (a0x j.grp)-1) ⟨#[]⟩).extract 0 16=hxS (hK j.head (a0x j.grp) (d0k (a0x j.grp))):=by
    rw [d1k _ _ oM,show d0k (a0x j.grp)=(d0k (a0x j.grp)-1)+1 from by omega];simp only [Nat.add_sub_cancel];exact s0N (f0r _)
   have hlz:16<=((bkL j.head (a0x j.grp) (d0k (a0x j.grp))).getD (d0k (a0x j.grp)-1) ⟨#[]⟩).size:=by
    rw [d1k _ _ oM,l1v];omega
   obtain ⟨hk,hhk⟩:=r1S hHK.1;have c6:=e1K hk oM;rw [<-hhk] at c6;rw [<-hlast] at c6;unfold cmW at hW;have ed:z0z j= { j with recs:=j.recs++j.grp,nr:=j.nr+j.ng,groups:=j.groups+1,used:=j.used+d0k (a0x j.grp),head:=hK j.head (a0x j.grp) (d0k (a0x j.grp)),grp:= [],ng:=0,stopped:=j.stopped}:=by rw [h1'];rfl
   obtain ⟨NB,hNB⟩:∃NB,d0k (a0x j.grp)=NB:=⟨_,rfl⟩;obtain ⟨BL,hBL⟩:∃BL,bkL j.head (a0x j.grp) NB=BL:=⟨_,rfl⟩;obtain ⟨HK,hHKe⟩:∃HK,hK j.head (a0x j.grp) NB=HK:=⟨_,rfl⟩;rw [hNB] at c1 hW hnb hnb0 c6 hlz ed;rw [hBL] at c1 hW c6 hlz;rw [hHKe] at c6 ed;refine fEx func47 ?_;repeat' ((conv=>whnf);first|refine cOx (l:= [0,6]) c1 ?_|refine a0a ?_|(apply bRx<;>intro h<;>try exact aX))
   all_goals (conv=>whnf)
   all_goals first
    |(exfalso;simp_all;done)
    |exact aX
    |skip
   refine a0h (fun x:Nat×Dk=>⟨[(0,.ptr 1 0 0 0),(3,.sl 8 0 0 NB),(5,.sl 6 0 0 j.ng),(6,.i x.1)],[(1,a0P false [.ptr 2 0 0 0,.sl 5 0 0 L.length,.nsl,.i j.used,.int .u64 j.head,.bool j.stopped]),(2,a0P false [.sl 3 0 0 x.2.nn,.sl 9 0 0 x.2.np,.bool x.2.down,.i x.2.steps,.int .u64 x.2.mask]),(3,grW x.2.nn x.2.kept),(9,some (.one false (.cols x.2.np [.sc (.ints .i64 x.2.pn),.sc (.strs x.2.ps)]))),
    (5,f0H false 7 L.length (L.map List.length)),(6,grW j.ng j.grp),(7,h1Z L),(8,grW NB BL)],10⟩) (fun x=>x.1<=NB/\n0c j.used BL (NB-x.1) x.1 x.2=W/\x.2.ok/\x.2.nn=d.nn/\0<=x.2.mask/\x.2.mask<2^64) (fun x=>NB-x.1) (0,d) [0,1,2,3,4,5,6,7,8,4] [] wHx ⟨b1f _,hW,hd,rfl,hm⟩ ?_
   rintro ⟨k,dk⟩ ⟨hk1,hw,hok,hdn,hmk⟩;dsimp only at hk1 hw hok hdn hmk⊢;by_cases hlt:k<NB
   .obtain ⟨m,hm'⟩:∃m,NB-k=m+1:=⟨NB-k-1,by omega⟩;have hm2:NB-(k+1)=m:=oM
    rw [hm'] at hw;have c2:=e1F dk hok hmk ((j.used+k:Nat):Int) (BL.getD k ⟨#[]⟩);have pk:=j1e hok (n:=((j.used+k:Nat):Int)) (s:=BL.getD k ⟨#[]⟩);have mk:=m1B hmk ((j.used+k:Nat):Int) (BL.getD k ⟨#[]⟩);simp only [n0c] at hw;obtain ⟨WD,hWD⟩:∃WD,a0L dk ((j.used+k:Nat):Int) (BL.getD k ⟨#[]⟩)=WD:=⟨_,rfl⟩;rw [hWD] at c2 hw pk mk;have e1:i64.wrap ((j.used:Int)+(k:Int))=((j.used+k:Nat):Int):=by rw [a0l oM oM];omega
    rw [<-e1] at c2;by_cases h0:WD.2=0
    .rw [if_pos h0] at hw;rw [h0] at c2;repeat' ((conv=>whnf);first|refine cOx (l:= [0,2,3,9]) c2 ?_|refine a0a ?_|(apply bRx<;>intro h<;>try exact aX))
     all_goals (conv=>whnf)
     all_goals first
      |exact aX
      |(exfalso;exact h rfl)
      |skip
     exact ⟨(k+1,WD.1),[0,1,2,3,4,5,6,7,8,10],[],⟨by dsimp only;omega,by dsimp only;rw [hm2];exact hw,pk.1,pk.2.trans hdn,mk⟩,by dsimp only;omega,⟨rfl,⟨rfl,rfl,rfl,sI (a0u oM),trivial⟩,rX⟩⟩
    .rw [if_neg h0] at hw;rw [<-hw,if_pos rfl] at er;rw [h0B er dC,er];repeat' ((conv=>whnf);first|refine cOx (l:= [0,2,3,9]) c2 ?_|refine a0a ?_|(apply bRx<;>intro h<;>try exact aX)|exact aX|(exfalso;exact h0 h)|exact b0K (l:= [0,1,2,3,4,5,6,7,10,5,11,7]) [.cell 1 2 [.sc (.strs [])]] rX (x0X _ _ _ _ _ _ _))
   .have ek:NB-k=0:=oM
    rw [ek] at hw;have ek2:k=NB:=oM
    have hw:W=(dk,true):=hw.symm;rw [hw,if_neg (by simp)] at er;have c3:=e1G dk hok hmk;obtain ⟨FD,hFD⟩:∃FD,b0h dk=FD:=⟨_,rfl⟩;dsimp only at er;rw [hFD] at c3 er;by_cases h0:FD.2=0
    .rw [if_neg (by simp [h0])] at er;rw [h0] at c3;rw [x0Y er,er];dsimp only;rw [ed,m1A,gl];have e1:i64.wrap ((NB:Int)-1)=((NB-1:Nat):Int):=by rw [a0l oM oM];omega
     have e2:(i64.wrap ((NB:Int)-1)).toNat=NB-1:=by rw [e1,u0f]
     have e3:i64.wrap ((j.used:Int)+(NB:Int))=((j.used+NB:Nat):Int):=by rw [a0l oM oM];omega
     rw [<-e2] at c6 hlz;have k1:(0:Int)<=i64.wrap ((NB:Int)-1)/\i64.wrap ((NB:Int)-1)<(NB:Int):=by rw [e1];omega
     have k2:(0:Int)<=0/\(0:Int)<=16/\(16:Int)<=((BL.getD (i64.wrap ((NB:Int)-1)).toNat ⟨#[]⟩).size:Int):=oM
     repeat' ((conv=>whnf);first|refine cOx (l:= [0,2,3,9]) c3 ?_|refine cPx c6 ?_|(refine a0f k1 ?_)|(refine a0f k2 ?_)|refine a0a ?_|(apply bRx<;>intro h<;>try exact aX))
     all_goals (conv=>whnf)
     all_goals first
      |exact aX
      |(exfalso;exact h rfl)
      |skip
     rw [e3];exact b0K (l:= [0,1,2,3,4,5,6,7,10,12,13,14]) [.cell 1 2 [.sc (.strs [])],.relab (gdR 14 L.length [⟨7,6,gF (L++ [j.grp])⟩]) (fun _=>0) [(12,some (.one false (.cols (L.length+1) [.own 14 (L.map List.length++ [j.ng])]))),(14+0,some (.fam false (fun x=>x<L.length+1) (gF (L++ [j.grp]))))] [7,6] 1]
      ⟨i0M (by rw [f1R]) oM rfl rfl (fun q hq=>hq) rfl dC dC dC j1x (by rw [j1y,gl]),rX⟩ (a0b (a0b (a0b (a0b (a0b (a0b (a0r a0c)))))))
    .rw [if_pos h0] at er;rw [h0B er dC,er];repeat' ((conv=>whnf);first|refine cOx (l:= [0,2,3,9]) c3 ?_|refine a0a ?_|(apply bRx<;>intro h<;>try exact aX)|exact aX|(exfalso;exact h0 h)|exact b0K (l:= [0,1,2,3,4,5,6,7,10,5,11,7]) [.cell 1 2 [.sc (.strs [])]] rX (x0X _ _ _ _ _ _ _))
structure Cd (d:Dk):Prop where
 ok:d.ok
 wh:t0y d
 ms:0<=d.mask/\d.mask<2^64
 sn:∀b∈d.now,b.size<=64
 sk:∀b∈d.kept,b.size<=64
 sp:∀b∈d.ps,b.size<=64
theorem z64:(0:Int)<=0/\(0:Int)<2^64:=by simp
theorem h0q {bits:Nat->Bool} {pn:List Int} {ps l:List BA} (hl:∀b∈l,b.size<=64) (hp:∀b∈ps,b.size<=64):∀k,∀b∈a0W bits pn ps k l,b.size<=64
 |0=>hl
 |k+1=>by
  have ih:=h0q (bits:=bits) (pn:=pn) hl hp k;simp only [a0W];cases bits k with
  |false=>grind
  |true=>
   all_goals grind [l1x]
theorem r0e {d:Dk} (h:Cd d) (m:Int):Cd (c0S m d):=⟨s0W h.ok m,rfl,z64,h0q h.sk h.sp _,h0q h.sk h.sp _,(fun b hb=>by cases hb)⟩
theorem p1q {d:Dk} (h:Cd d) {n:Int} {s:BA} (hn:0<=n/\n<(d.nn:Int)) (hp:d.np<4096) (hs:s.size<=64):Cd (o0Y d n s):=by
 refine ⟨q0O h.ok hn hp,z0S h.ok h.wh n s,h.ms,?_,h.sk,?_⟩
 .intro b hb;rcases List.mem_or_eq_of_mem_set (show b∈d.now.set n.toNat s from hb) with hb|rfl
  .exact h.sn b hb
  omega
 .intro b hb;rcases k1q.1 (show b∈d.ps++ [s] from hb) with hb|hb
  .exact h.sp b hb
  simp_all
theorem x0Z {d:Dk} (h:Cd d):Cd (c0A d):=⟨j0f h.ok,h.wh,h.ms,h.sn,h.sk,h.sp⟩
theorem i1c {d:Dk} (h:Cd d) (n:Int) (s:BA):Cd (a0L d n s).1:=by
 grind [a0L,p1q,r0e,x0Z]
theorem y0a {d:Dk} (h:Cd d):Cd (b0h d).1:=by
 unfold b0h;split
 .omega
 .split
  .exact r0e h _
  .refine x0Z ⟨h1e h.ok,?_,h.ms,h.sn,h0q h.sk h.sp _,(fun b hb=>by cases hb)⟩;exact h.wh
theorem z0W {d:Dk} (h:Cd d) (m:Int):Cd (a0I m d):=by
 grind [a0I,r0e]
theorem z0X {d:Dk} (h:Cd d):Cd (a0Q d).1:=by
 unfold a0Q;split
 .exact ⟨⟨h.ok.kl,h.ok.nl,h.ok.pl,h.ok.sl,h.ok.pb,h.ok.pm,h.ok.nm,h.ok.sb⟩,h.wh,h.ms,h.sn,h.sk,h.sp⟩
 omega
theorem p1r {d:Dk} (h:Cd d) {n m:Int} (hm:0<=m/\m<2^64):Cd (h0W d n m).1:=by
 have ok:=l1C h.ok n m;unfold h0W at ok⊢;split
 .omega
 .split
  .omega
  .rename_i h1 h2;rw [if_neg h1,if_neg h2] at ok;exact ⟨ok,h.wh,hm,h.sn,h.sk,h.sp⟩
theorem p1s (d:Dk) (n m:Int):(h0W d n m).1.nn=d.nn:=by unfold h0W;all_goals grind
theorem z0Y (d:Dk):(a0Q d).1.nn=d.nn:=by unfold a0Q;split<;>rfl
theorem z0Z (d:Dk):(a0Q d).1.down=false:=by
 unfold a0Q;grind
theorem a1a (m:Int) (d:Dk):(a0I m d).nn=d.nn:=by unfold a0I;split<;>rfl
theorem y0b {u:Nat} {bl:List BA}:∀(r k:Nat) {d:Dk},Cd d->Cd (n0c u bl r k d).1/\(n0c u bl r k d).1.nn=d.nn/\((n0c u bl r k d).2=true->0<r->u+k+r<=d.nn)
 |0,_,d,h=>⟨h,rfl,fun _ h0=>by omega⟩
 |r+1,k,d,h=>by
  simp only [n0c];have hw:=i1c h ((u+k:Nat):Int) (bl.getD k ⟨#[]⟩);have hn:=s0X d ((u+k:Nat):Int) (bl.getD k ⟨#[]⟩);split
  .obtain ⟨a,b,c⟩:=y0b (u:=u) (bl:=bl) r (k+1) hw;have hlt:u+k<d.nn:=by
    all_goals grind [a0L]
   grind
  simp_all
structure Cj (d:Dk) (j:Jr) (L:List (List BA)):Prop where
 ok:j.ok d
 lj:LJ L j
 st:j.stopped=true->j.grp= []/\j.ng=0
theorem m1C {d:Dk}:Cj d (opJ d) (opG d):=by
 have h:=j0e d;exact ⟨⟨h.rl,by rw [h.ge,h.gz];rfl,h.us,h.gs,h.rm,by rw [h.gz];omega,(by rw [h.ge];intro r hr;grind),h.hb⟩,j1w d,fun _=>⟨h.ge,h.gz⟩⟩
theorem m1D {d d':Dk} {j:Jr} {L:List (List BA)} (h:Cj d j L) (hn:d'.nn=d.nn):Cj d' j L:=
 ⟨⟨h.ok.rl,h.ok.gl,by rw [hn];exact h.ok.us,h.ok.gs,h.ok.rm,h.ok.gm,h.ok.go,h.ok.hb⟩,h.lj,h.st⟩
theorem n0C {d:Dk} {j:Jr} {L:List (List BA)} (hc:Cd d) (h:Cj d j L):Cd (cmR j d).2.1/\(cmR j d).2.1.nn=d.nn/\Cj (cmR j d).2.1 (cmR j d).1 (cmL j L d):=by
 have k:=h.ok;by_cases h1:j.stopped=true
 .have er:cmR j d=(j,d,13):=by simp_all [cmR]
  rw [h0B er (by simp),er];trivial
 .by_cases h2:f0G j.grp≠0
  .have er:cmR j d=(j,d,f0G j.grp):=by simp_all [cmR]
   rw [h0B er h2,er];trivial
  .obtain ⟨a,b,c⟩:=y0b (u:=j.used) (bl:=bkL j.head (a0x j.grp) (d0k (a0x j.grp))) (d0k (a0x j.grp)) 0 hc;have hst:Cj d (q0P j) L:=⟨⟨k.rl,rfl,k.us,k.gs,k.rm,b1f _,(fun r hr=>by cases hr),k.hb⟩,⟨h.lj.gr,h.lj.rc,h.lj.le⟩,fun _=>⟨rfl,rfl⟩⟩;have eW:cmW j d=n0c j.used (bkL j.head (a0x j.grp) (d0k (a0x j.grp))) (d0k (a0x j.grp)) 0 d:=rfl;rw [<-eW] at a b c;generalize hW:cmW j d=W at a b c;by_cases h3:W.2=false
   .have er:cmR j d=(q0P j,W.1,13):=by simp_all [cmR]
    grind [h0B,m1D]
   .by_cases h4:(b0h W.1).2≠0
    .have er:cmR j d=(q0P j,(b0h W.1).1,13):=by simp_all [cmR]
     grind [h0B,s0Y,y0a,m1D]
    .have er:cmR j d=(z0z j,(b0h W.1).1,0):=by simp_all [cmR]
     rw [x0Y er,er];have e:=(s0Y W.1).trans b;have hng:0<j.grp.length:=by
      rcases m1S j.grp.length with h0|h0
      all_goals simp_all [f0G]
     have hnb:0<d0k (a0x j.grp):=by
      have:0<(a0x j.grp).size:=by rw [<-d0K,f0s k.go];grind [x0u]
      unfold d0k;omega
     have hle:=c (by simp_all) hnb;have gl:=k.gl;have gm:=k.gm;have gs:=k.gs;have rl:=k.rl;have rm:=k.rm;refine ⟨y0a a,e,⟨⟨?_,rfl,?_,?_,?_,b1f _,(fun r hr=>by cases hr),o1s k.hb _ _⟩,⟨?_,?_,?_⟩,fun e=>by cases e⟩⟩
     .show (j.recs++j.grp).length=j.nr+j.ng;simp_all
     .rw [e];trivial
     .show j.groups+1<=j.used+d0k (a0x j.grp);omega
     .show j.nr+j.ng<=256*(j.groups+1);omega
     .rw [s0c,m1T,h.lj.gr];rfl
     .rw [u1p,h.lj.rc];show j.recs++ [j.grp].flatten=j.recs++j.grp;simp
     .intro x hx;rcases k1q.1 hx with hx|hx
      .exact h.lj.le x hx
      simp_all
end
section
attribute [local irreducible] sortI
attribute [local irreducible] seq ByteArray.extract a0y b0Z Oq.ops Oq.txt
theorem t0D {j J:Jr} {d D:Dk} {E:Int} (h:cmR j d=(J,D,E)):(E≠0->J.recs=j.recs)/\(E=0->J.recs=j.recs++j.grp/\Jz J):=by
 unfold cmR at h
 (repeat' split at h)<;>cases h
 .simp
 .simp_all
 .exact ⟨fun _=>rfl,fun h=>by omega⟩
 .exact ⟨fun _=>rfl,fun h=>by omega⟩
 .exact ⟨fun h=>absurd rfl h,fun _=>rX⟩
structure Kv (u:Su) (A:List Bop) (j:Jr) (d:Dk) (L:List (List BA)):Prop where
 q:Kq u A j.recs
 cd:Cd d
 cj:Cj d j L
theorem Kv.n {u:Su} {A:List Bop} {j:Jr} {d:Dk} {L:List (List BA)} (h:Kv u A j d L):j.nr=A.length:=by rw [<-h.cj.ok.rl];exact h.q.rx.len
theorem Kv.jo {u:Su} {A:List Bop} {j:Jr} {d:Dk} {L:List (List BA)} (h:Kv u A j d L) (z:Jz j):JO d j:=⟨h.cj.ok.us,h.cj.ok.gs,h.cj.ok.rl,h.cj.ok.rm,z.ge,z.gz,z.st,h.cj.ok.hb⟩
inductive KoR (u:Su) (A:List Bop) (j:Jr) (d:Dk) (L:List (List BA)) (Q:Oq):Int->Bool->List Bop->Jr->Dk->List (List BA)->Prop
 |rng (h:Q.n<1\/16<Q.n):KoR u A j d L Q 4 false A j d L
 |ops (h1:1<=Q.n) (h16:Q.n<=16) (i:Nat) (hi:i<Q.n) (hall:∀k,k<i->Ran u.w (A++Q.ops.take k)/\doE (a0y u.w (A++Q.ops.take k)) (Q.at k)=0) (he:doE (a0y u.w (A++Q.ops.take i)) (Q.at i)≠0):KoR u A j d L Q (doE (a0y u.w (A++Q.ops.take i)) (Q.at i)) false A j d L
 |app (h1:1<=Q.n) (h16:Q.n<=16) (hall:∀k,k<Q.n->Ran u.w (A++Q.ops.take k)/\doE (a0y u.w (A++Q.ops.take k)) (Q.at k)=0) (i:Nat) (hi:i<Q.n) (happ:∀k,k<i->jaE (j.with (Q.txt k)) d (b0Z (Q.at k))=0) (he:jaE (j.with (Q.txt i)) d (b0Z (Q.at i))≠0):KoR u A j d L Q (jaE (j.with (Q.txt i)) d (b0Z (Q.at i))) false A j d L
 |cm (h1:1<=Q.n) (h16:Q.n<=16) (hall:∀k,k<Q.n->Ran u.w (A++Q.ops.take k)/\doE (a0y u.w (A++Q.ops.take k)) (Q.at k)=0) (happ:∀k,k<Q.n->jaE (j.with (Q.txt k)) d (b0Z (Q.at k))=0) (J:Jr) (D:Dk) (E:Int) (hR:cmR (j.with (Q.txt Q.n)) d=(J,D,E)) (he:E≠0):KoR u A j d L Q E true A J D L
 |ok (h1:1<=Q.n) (h16:Q.n<=16) (hr:Ran u.w (A++Q.ops)) (hall:∀k,k<Q.n->Ran u.w (A++Q.ops.take k)/\doE (a0y u.w (A++Q.ops.take k)) (Q.at k)=0) (happ:∀k,k<Q.n->jaE (j.with (Q.txt k)) d (b0Z (Q.at k))=0) (J:Jr) (D:Dk) (hR:cmR (j.with (Q.txt Q.n)) d=(J,D,0)):KoR u A j d L Q 0 false (A++Q.ops) J D (L++ [Q.txt Q.n])
theorem q1Q {u:Su} {A:List Bop} {j:Jr} {d:Dk} {L:List (List BA)} (h:Kv u A j d L) (Q:Oq):∃E st A' J D L',KoR u A j d L Q E st A' J D L':=by
 by_cases hn1:Q.n<1\/16<Q.n
 .exact ⟨_,_,_,_,_,_,.rng hn1⟩
 have h1:1<=Q.n:=oM
 have h16:Q.n<=16:=oM
 rcases e1x h.q.ran Q with ⟨hr,hall⟩|⟨i,hi,hall,hR,he⟩
 .rcases e1y j d Q with happ|⟨i,hi,happ,he⟩
  .rcases hc:cmR (j.with (Q.txt Q.n)) d with ⟨J,D,E⟩
   by_cases e:E=0
   .subst e;exact ⟨_,_,_,_,_,_,.ok h1 h16 hr hall happ J D hc⟩
   .exact ⟨_,_,_,_,_,_,.cm h1 h16 hall happ J D E hc e⟩
  .exact ⟨_,_,_,_,_,_,.app h1 h16 hall i hi happ he⟩
 .exact ⟨_,_,_,_,_,_,.ops h1 h16 i hi hall he⟩
section
variable {u:Su} {A A':List Bop} {j J:Jr} {d D:Dk} {L L':List (List BA)} {Q:Oq} {E:Int} {st:Bool}
theorem m1E (h:Kv u A j d L) (z:Jz j) (h1:1<=Q.n) (happ:∀k,k<Q.n->jaE (j.with (Q.txt k)) d (b0Z (Q.at k))=0):Cj d (j.with (Q.txt Q.n)) L:=by
 have hg:=n0x z (h.jo z) Q Q.n (m0c _) happ Q.n (m0c _);exact ⟨hg,⟨h.cj.lj.gr,h.cj.lj.rc,h.cj.lj.le⟩,fun e=>by rw [show (j.with (Q.txt Q.n)).stopped=j.stopped from rfl,z.st] at e;grind⟩
theorem q1R (h:Kv u A j d L) (z:Jz j) (hl:A.length+16<=3000) (hr:KoR u A j d L Q E st A' J D L'):Kv u A' J D L'/\(st=false->Jz J)/\D.nn=d.nn/\A'.length<=A.length+16:=by
 cases hr with
 |rng _=>simp_all
 |ops _ _ _ _ _ _=>simp_all
 |app _ _ _ _ _ _ _=>simp_all
 |cm h1 h16 hall happ J D E hR he=>
  obtain ⟨a,b,c⟩:=n0C h.cd (m1E h z h1 happ);have hc:=h0B (L:=L) hR he;rw [hc,hR] at c;rw [hR] at a b;refine ⟨⟨?_,a,c⟩,(fun e=>by grind),b,by omega⟩;rw [(t0D hR).1 he];exact h.q
 |ok h1 h16 hr hall happ J D hR=>
  obtain ⟨a,b,c⟩:=n0C h.cd (m1E h z h1 happ);have hc:=x0Y (L:=L) hR;rw [hc,hR] at c;rw [hR] at a b;obtain ⟨e1,e2⟩:=(t0D hR).2 rfl;refine ⟨⟨?_,a,c⟩,fun _=>e2,b,by rw [s0c,h0Z];omega⟩;rw [e1];rw [v0H];refine h.q.app Q hr oM fun o ho=> ?_
  obtain ⟨k,hk,rfl⟩:=m1n ho;exact z0l (hall k hk).2
theorem q1S (h:Kv u A j d L) (z:Jz j) (hr:KoR u A j d L Q E st A' J D L'):
  FC prog 31 15 [.ptr 1 0 0 0,.sl 29 0 0 Q.n] (kqH u A.length (a0y u.w A) j d Q) (a0g (.i E) (n0w u A'.length st (a0y u.w A') J D) 52):=by
 have e0:A++Q.ops.take 0=A:=by simp
 have e1:j.with (Q.txt 0)=j:=by rw [h0o];exact n0d z
 cases hr with
 |rng h=>exact p1g u A.length (a0y u.w A) j d Q h
 |ops h1 h16 i hi hall he=>exact p1h u A j h.q h.n d Q h1 h16 i hi hall he
 |app h1 h16 hall i hi happ he=>
  have c:=m1r u A j h.q h.n z d (h.jo z) h.cd.ok Q h1 h16 hall i hi happ he;rw [e0,e1] at c;exact c
 |cm h1 h16 hall happ J D E hR he=>
  have hj2:Kq u A J.recs:=by rw [(t0D hR).1 he];exact h.q
  have hn2:J.nr=A.length:=by
   obtain ⟨a,b,c⟩:=n0C h.cd (m1E h z h1 happ);rw [hR] at c;rw [<-c.ok.rl];exact hj2.rx.len
  have c:=p1i u A j h.q h.n z d (h.jo z) h.cd.ok Q h1 h16 hall happ J D E hR he hj2 hn2;rw [e0,e1] at c;exact c
 |ok h1 h16 hr hall happ J D hR=>
  have c:=p1j u A j h.q h.n z d (h.jo z) h.cd.ok Q h1 h16 hall happ J D hR;rw [e0,e1] at c;rw [s0c,h0Z];exact c
end
theorem i1d (u:Su) (cnt:Nat) (s:Bks) (j:Jr) (d:Dk) (Q:Oq):FC prog 31 15 [.ptr 1 0 0 0,.sl 29 0 0 Q.n] ((0,some (GB glT))::(29,some (.one true Q.b))::e1X u (fun i=>i+2) 23 24 28 cnt true s j d) (a0g (.i 13) (n0w u cnt true s j d) 52):=by
 let l:=xBp;have w:=@g0E;exact Wx func15
end
section
attribute [local irreducible] sortI
attribute [local irreducible] seq ByteArray.extract a0y b0Z
abbrev koH (u:Su) (d:Dk):a0k:= [(0,some (GB glT)),(1,u.p true),(6,u.h true),(2,a0P true [.sl 3 0 0 d.nn,.sl 4 0 0 d.nn,.sl 5 0 0 d.np,.bool d.down,.i d.steps,.int .u64 d.mask]),(4,grB d.nn d.now)]
abbrev kqO (u:Su) (cnt:Nat) (j:Jr) (s:Bks):a0k:=(7,some (.one false (.cells (u.a 8 9++ [.ptr 10 0 0 0,.ptr 29 0 0 0,.i cnt,.bool false]))))::(8,u.p false)::(9,u.h false)::
 (29,a0P false [.ptr 2 0 0 0,.sl 30 0 0 j.nr,.i j.groups,.i j.used,.int .u64 j.head,.sl 31 0 0 j.ng,.bool j.stopped])::(30,grW j.nr j.recs)::(31,grW j.ng j.grp)::e1V (fun i=>i+9) s
theorem j1B {u:Su} {cnt:Nat} {j:Jr} {s:Bks}:c0x (kqO u cnt j s):=a0b (a0b (a0b (a0b (a0b (a0b m0Q)))))
theorem j1C {d:Dk} (h:d.nn<=200):p1Y (opJ d).recs:=by
 have h1:=x0E h;have h2:=(j0e d).rl;have h3:=j1t d;refine ⟨by omega,fun k=> ?_⟩;by_cases q:k<(opJ d).recs.length
 .rw [List.getD,m0b q];exact n1r (h3 _ (k1j q)) (by simp)
 .rw [List.getD,a1X oM];trivial
theorem e1L (u:Su) (hh:u.H.length<=maxLen) (d:Dk) (he:u.E≠0):
  FC prog 7 7 [.agg (u.a 1 6),.ptr 2 0 0 0] (koH u d) (a0g (.tup [.nptr,.i u.E]) [] 7):=by
 have c1:=d1e u.cur u.days u.cut u.P u.P.length u.H u.H.length rfl rfl he;have cK:FC prog 7 31 [.agg (u.a 1 6),.ptr 2 0 0 0] (koH u d) (a0g (.tup [.nptr,.i u.E]) [] 7):=by
  change FC _ _ _ _ _ (a0g (.tup [.nptr,.i u.E]) [] 3) at c1;generalize u.E=E at*;let l:=[0,1,6];let R:=xAg;exact Wx func31
 generalize u.E=E at*;have c0:=cK;let l:=xAg;exact Wx func7
theorem m1F (u:Su) (hu:u.E=0) (d:Dk) (hd:d.down=false) (hnn:d.nn<=200) (hsz:∀b∈d.now,b.size<=64):
  FC prog 7 7 [.agg (u.a 1 6),.ptr 2 0 0 0] (koH u d)
   (if rpE u.w (opJ d).recs=0 then a0g (.tup [.ptr 7 0 0 0,.i 0]) (kqO u (opJ d).recs.length (opJ d) (a0y u.w ((opJ d).recs.map deO))) 32 else a0g (.tup [.nptr,.i (rpE u.w (opJ d).recs)]) [] 7):=by
 have c1:=m0R u.cur u.days u.cut u.P u.P.length u.H u.H.length rfl rfl hu;have c2:=l1z d hd oM hsz;have hX:=j1C hnn;have hl:=(j0e d).rl;have h4:=x0E hnn;generalize opJ d=j at*;have c3:=o0Z j hl oM;have c4:=p0a u.cur u.days u.cut u.P u.P.length u.H u.H.length rfl rfl hu j.recs hX;have c5:=m1p u hu;unfold rpO at c4;change FC _ _ _ _ _ (if rpE u.w j.recs=0 then a0g (.tup [.ptr 4 0 0 0,.i 0]) (e1V (fun i=>i+3) (a0y u.w (j.recs.map deO))) 23 else a0g (.tup [.nptr,.i (rpE u.w j.recs)]) [] 4) at c4;clear hX;obtain ⟨X,nr,gr,us,hd,grp,ng,sp⟩:=j;dsimp only at hl h4 c2 c3 c4⊢;subst hl;generalize a0y u.w (X.map deO)=s2 at*;generalize u.w=s1 at*;by_cases he:rpE s1 X=0
 .rw [if_pos he] at c4⊢;clear he;have cK:FC prog 7 31 [.agg (u.a 1 6),.ptr 2 0 0 0] (koH u d) (a0g (.tup [.ptr 7 0 0 0,.i 0]) (kqO u X.length ⟨X,X.length,gr,us,hd,grp,ng,sp⟩ s2) 32):=by
   let l2:=[0,2,3,4,5];let l3:=[0,27,2,3,4,28,29,5];let l4:=[0,1,6,30];let l:=[0,1,6];let R:=[0,1,2,3,4,5,6,52,50,51,31,32,33,34,35,36,37,38,39,40,41,42,43,44,45,46,47,48,49,27,28,29];have w:=@j1B;exact Wx func31
  have c0:=cK;let l:=xAg;let R:=[0,1,2,3,4,5,6,8,9,10,11,12,13,14,15,16,17,18,19,20,21,22,23,24,25,26,27,28,29,30,31,32];have w:=@j1B;exact Wx func7
 .rw [if_neg he] at c4⊢;generalize rpE s1 X=E at*;have cK:FC prog 7 31 [.agg (u.a 1 6),.ptr 2 0 0 0] (koH u d) (a0g (.tup [.nptr,.i E]) [] 7):=by
   let l1:=[0,1,6];let l3:=[0,27,2,3,4,28,29,5];let l4:=[0,1,6,30];let l:=[0,2,3,4,5];let R:=xAg;exact Wx func31
  have c6:=cK;let l:=xAg;exact Wx func7
abbrev j1D (u:Su) (d:Dk):a0k:= [(1,u.p true),(2,u.h true),(3,some (.one true (.cells [.sl 4 0 0 d.nn,.sl 5 0 0 d.np,.bool d.down,.i d.steps,.int .u64 d.mask]))),(4,grB d.nn d.kept),(5,some (.one true (.cols d.np [.sc (.ints .i64 d.pn),.sc (.strs d.ps)])))]
abbrev rkO (u:Su) (m:Nat) (X:List BA) (j:Jr) (L:List (List BA)) (s:Bks) (C:List Rc):a0k:=(6,some (.one false (.cells (u.a 1 2++ [.ptr 7 0 0 0,.ptr 20 0 0 0,.sl 24 0 0 X.length,.bool false]))))::(20,a0P false (rjC 3 21 22 L.length j))::(21,f0H false 23 L.length (L.map List.length))::(22,grW j.ng j.grp)::(23,h1Z L)::(24,grW X.length X)::rbN 7 m s C
theorem p1t {u:Su} {m:Nat} {X:List BA} {j:Jr} {L:List (List BA)} {s:Bks} {C:List Rc}:c0x (rkO u m X j L s C):=a0b (a0b (a0b (a0b (a0r (a0b e1u)))))
theorem e1M (u:Su) (hm:u.H.length<=maxLen) (hsz:∀k,(u.P.getD k ⟨#[]⟩).size<=9223372036854775807) (d:Dk) (he:u.E≠0):
  FC prog 6 8 [.agg (u.a 1 2),.ptr 3 0 0 0] (j1D u d) (a0g (.tup [.nptr,.i u.E]) [] 6):=by
 have c1:=z0Q u.cur u.days u.cut u.P u.P.length u.H u.H.length rfl rfl hm hsz he;let l:=[0,1,2];let R:=xAh;exact Wx func8
theorem m1G (u:Su) (hu:u.E=0) (d:Dk) (hd:d.down=false) (h0:d.ok) (w:t0y d) (hnn:d.nn<=200) (hsz:∀b∈d.now,b.size<=64):
  ∃C,RbI u.H.length u.H (a0y u.w ((opJ d).recs.map deO)) C (opJ d).recs.length/\FC prog 6 8 [.agg (u.a 1 2),.ptr 3 0 0 0] (j1D u d)
   (if rpE u.w (opJ d).recs=0 then a0g (.tup [.ptr 6 0 0 0,.i 0]) (rkO u u.H.length (opJ d).recs (opJ d) (opG d) (a0y u.w ((opJ d).recs.map deO)) C) 25 else a0g (.tup [.nptr,.i (rpE u.w (opJ d).recs)]) [] 6):=by
 have h400:=Su.m4 hu;have hm:u.H.length<=maxLen:=n1r h400 dC;have c1:=p0r u.cur u.days u.cut u.P u.H u.H.length rfl hm hu;have c2:=m1x d hd h0 w hsz;have hX:=j1C hnn;have hl:=(j0e d).rl;have h4:=x0E hnn;have hj:=j1w d;have hg:(opG d).length<=4096:=by
  have h1:=(j0e d).gs;have h2:=(j0e d).us;rw [hj.gr];omega
 generalize opJ d=j at*;generalize opG d=L at*;have c3:=z0V j L hj hl hg;obtain ⟨C,hC,c4⟩:=p0s u.cur u.days u.cut u.P u.H u.H.length rfl hm hu j.recs hX oM;refine ⟨C,hC,?_⟩;clear hC;rw [p1d u.H.length u.cur u.cut u.days u.P u.H] at c1;unfold rqO at c4;change FC _ _ _ _ _ (if rpE u.w j.recs=0 then a0g (.tup [.ptr 4 0 0 0,.i 0]) (rbN 4 u.H.length (a0y u.w (j.recs.map deO)) C) 17 else a0g (.tup [.nptr,.i (rpE u.w j.recs)]) [] 4) at c4;clear hX hj;obtain ⟨X,nr,gr,us,hd,grp,ng,sp⟩:=j;dsimp only at hl h4 c2 c3 c4⊢;subst hl;generalize a0y u.w (X.map deO)=s2 at*;generalize u.w=s1 at*;by_cases he:rpE s1 X=0
 .rw [if_pos he] at c4⊢;clear he;let l1:=[0,1,2];let l3:=[0,20,3,4,5,21,22,23];let l4:=[0,1,2,24];let l:=[0,3,4,5];let R:=[0,1,2,3,4,5,39,25,26,27,28,29,30,31,32,33,34,35,36,37,20,21,22,23,38];have w:=@p1t;exact Wx func8
 .rw [if_neg he] at c4⊢;generalize rpE s1 X=E at*;let l1:=[0,1,2];let l3:=[0,20,3,4,5,21,22,23];let l4:=[0,1,2,24];let l:=[0,3,4,5];let R:=xAh;exact Wx func8
end
section
attribute [local irreducible] sortI
attribute [local irreducible] seq ByteArray.extract a0y b0Z Oq.ops Oq.txt
abbrev q1c (u:Su) (m b t g f x p:Nat) (X:List BA) (st:Bool) (s:Bks) (C:List Rc) (j:Jr) (L:List (List BA)) (d:Dk):a0k:=
 (3,some (.one false (.cells (u.a 1 2++ [.ptr b 0 0 0,.ptr 17 0 0 0,.sl x 0 0 X.length,.bool st]))))::(17,a0P false (rjC 22 t g L.length j))::(t,f0H false f L.length (L.map List.length))::(g,grW j.ng j.grp)::(f,h1Z L)::(x,grW X.length X)::
 (22,a0P false [.sl 23 0 0 d.nn,.sl p 0 0 d.np,.bool d.down,.i d.steps,.int .u64 d.mask])::(23,grW d.nn d.kept)::(p,some (.one false (.cols d.np [.sc (.ints .i64 d.pn),.sc (.strs d.ps)])))::rbN b m s C
theorem k0g {u:Su} {m b t g f x p:Nat} {X:List BA} {st:Bool} {s:Bks} {C:List Rc} {j:Jr} {L:List (List BA)} {d:Dk}:c0x (q1c u m b t g f x p X st s C j L d):=
 a0b (a0b (a0b (a0b (a0r (a0b (a0b (a0b (a0b e1u))))))))
abbrev krH (u:Su) (m:Nat) (X:List BA) (st:Bool) (s:Bks) (C:List Rc) (j:Jr) (L:List (List BA)) (d:Dk) (Q:Oq):a0k:=(1,u.p true)::(2,u.h true)::(25,some (.one true Q.b))::q1c u m 4 18 19 20 21 24 X st s C j L d
abbrev krO (u:Su) (m:Nat) (X:List BA) (st:Bool) (s:Bks) (C:List Rc) (j:Jr) (L:List (List BA)) (d:Dk):a0k:=q1c u m 26 39 40 41 42 43 X st s C j L d
theorem i1e (u:Su) (n:Nat) (st:Bool):FC prog 7 22 [.ptr 3 0 0 0] [(3,some (.one true (.cells (u.a 1 2++ [.ptr 4 0 0 0,.ptr 6 0 0 0,.sl 5 0 0 n,.bool st]))))] (a0g (.ptr 4 0 0 0) [] 7):=by
 let l:=xAg;exact Wx func22
theorem i1f (u:Su) (n:Nat) (st:Bool):FC prog 7 19 [.ptr 3 0 0 0] [(3,some (.one true (.cells (u.a 1 2++ [.ptr 4 0 0 0,.ptr 6 0 0 0,.sl 5 0 0 n,.bool st]))))] (a0g (.i n) [] 7):=by
 let l:=xAg;exact Wx func19
theorem i1g (u:Su) (m:Nat) (X:List BA) (s:Bks) (C:List Rc) (j:Jr) (L:List (List BA)) (d:Dk) (Q:Oq):FC prog 26 16 [.ptr 3 0 0 0,.sl 25 0 0 Q.n] (krH u m X true s C j L d Q) (a0g (.i 13) (krO u m X true s C j L d) 44):=by
 let l:=xBi;have w:=@k0g;exact Wx func16
theorem p1u (u:Su) (m:Nat) (X:List BA) (s:Bks) (C:List Rc) (j:Jr) (L:List (List BA)) (d:Dk) (Q:Oq) (h:Q.n<1\/16<Q.n):FC prog 26 16 [.ptr 3 0 0 0,.sl 25 0 0 Q.n] (krH u m X false s C j L d Q) (a0g (.i 4) (krO u m X false s C j L d) 44):=by
 let l:=xBi;have w:=@k0g;exact Wx func16
structure KrF (u:Su) (A:List Bop) (Q:Oq) (f:Nat->List Rc):Prop where
 s:∀k,k<Q.n->FC prog 16 43 [.ptr 1 0 0 0,(Q.at k).s] (x0U u.H.length u.H (a0y u.w (A++Q.ops.take k)) (f k)) (a0g (.i (doE (a0y u.w (A++Q.ops.take k)) (Q.at k))) (x0V u.H.length (a0y u.w (A++Q.ops.take (k+1))) (f (k+1))) 23)
def e1N (u:Su) (A:List Bop) (X:List BA) (C:List Rc) (j:Jr) (L:List (List BA)) (d:Dk) (Q:Oq) (f:Nat->List Rc) (k:Nat):VS:=
 ⟨[(0,.ptr 3 0 0 0),(1,.sl 25 0 0 Q.n),(5,.ptr 26 0 0 0),(7,.sl 39 0 0 k),(8,.i k)],krH u u.H.length X false (a0y u.w A) C j L d Q++(rbN 26 u.H.length (a0y u.w (A++Q.ops.take k)) (f k)++ [(39,some (.one false (.cols k [.sc (.strs (Q.txt k))])))]),40⟩
theorem j0o (u:Su) (A:List Bop) (X:List BA) (C:List Rc) (j:Jr) (L:List (List BA)) (d:Dk) (Q:Oq) (f:Nat->List Rc) (hf:KrF u A Q f) (k:Nat) (h16:Q.n<=16) (hk:k<Q.n) (he:doE (a0y u.w (A++Q.ops.take k)) (Q.at k)=0) (K:Exit->VS->Prop)
  (hK:∀v,(∃(l:List Nat) (U:List Up),upK U v (fun v=>Weak 26 l v (e1N u A X C j L d Q f (k+1))))->K .normal v):
  b0x prog T 26 (lpc Tryz.f16 0) (e1N u A X C j L d Q f k) K:=by
 have c:=hf.s k hk;rw [he] at c;have g:=q0T (Q.at k) (z0l he);have hrow:some (HB.one false (.cols (k+1) [.sc (.strs (Q.txt k++ [b0Z (Q.at k)]))]))=some (HB.one false (.cols (k+1) [.sc (.strs (Q.txt (k+1)))])):=by rw [l0f Q hk]
 unfold e1N;generalize a0y u.w (A++Q.ops.take k)=s at*;generalize hs2:a0y u.w (A++Q.ops.take (k+1))=s2 at*;generalize hf2:f (k+1)=f2 at*;generalize f k=f1 at*;generalize Q.txt k=T1 at*;generalize hT2:Q.txt (k+1)=T2 at*;generalize hs0:a0y u.w A=s0 at*;repeat' ((conv=>whnf);first|refine cOx (l:= xBq) c ?_|refine cPx g ?_|refine a0a ?_|(apply bRx<;>intro h<;>try exact aX)|exact aX|(exfalso;exact h rfl)|(subst hs2;subst hf2;subst hT2;subst hs0;exact hK _ ⟨[0,1,2,3,4,5,6,7,8,9,10,11,12,13,14,15,16,17,18,19,20,21,22,23,24,25,26,40,28,29,41,42,32,33,34,43,44,45,46,48],[],⟨rfl,⟨rfl,rfl,rfl,rfl,sI (a0j oM),trivial⟩,⟨rfl,rfl,rfl,rfl,rfl,rfl,rfl,rfl,rfl,rfl,rfl,rfl,rfl,rfl,rfl,rfl,rfl,rfl,rfl,rfl,rfl,rfl,rfl,rfl,rfl,rfl,rfl,rfl,rfl,rfl,rfl,rfl,rfl,rfl,rfl,rfl,rfl,rfl,hrow,trivial⟩⟩⟩))
section
variable (u:Su) (A:List Bop) (X:List BA) (C:List Rc) (j:Jr) (L:List (List BA)) (d:Dk) (Q:Oq) (f:Nat->List Rc) (hf:KrF u A Q f) (h1:1<=Q.n) (h16:Q.n<=16)
 (c0:FC prog 4 34 [.agg [.sl 1 0 0 u.P.length,.str u.cur,.sl 2 0 0 u.H.length,.i u.cut,.i u.days],.sl 3 0 0 X.length] [(1,some (.one true (.cols u.P.length [.sc (.strs u.P)]))),(2,inB u.H.length u.H),(3,some (.one true (.cols X.length [.sc (.strs X)])))] (a0g (.tup [.ptr 4 0 0 0,.i 0]) (rbN 4 u.H.length (a0y u.w (A++Q.ops.take 0)) (f 0)) 17))
include hf h1 h16 c0
theorem p1v (i:Nat) (hi:i<Q.n) (hall:∀k,k<i->doE (a0y u.w (A++Q.ops.take k)) (Q.at k)=0) (he:doE (a0y u.w (A++Q.ops.take i)) (Q.at i)≠0):
  FC prog 26 16 [.ptr 3 0 0 0,.sl 25 0 0 Q.n] (krH u u.H.length X false (a0y u.w A) C j L d Q) (a0g (.i (doE (a0y u.w (A++Q.ops.take i)) (Q.at i))) (krO u u.H.length X false (a0y u.w A) C j L d) 44):=by
 have ht0:some (HB.one false (.cols 0 [.sc (.strs [])]))=some (HB.one false (.cols 0 [.sc (.strs (Q.txt 0))])):=by rw [h0o]
 refine fEx func16 ?_;repeat' ((conv=>whnf);first|refine cOx (l:= [0,1,2,21]) c0 ?_|refine a0a ?_|(apply bRx<;>intro h<;>try exact aX))
 all_goals (conv=>whnf)
 all_goals first
  |exact aX
  |skip
 refine a0h (e1N u A X C j L d Q f) (fun k=>k<=i) (fun k=>i-k) 0 [0,1,2,3,4,5,6,7,8,9,10,11,12,13,14,15,16,17,18,19,20,21,22,23,24,25,26,27,28,29,30,31,32,33,34,35,36,37,38,39] [.slot 7 [.sc (.strs [])]] ⟨rfl,rX,⟨rfl,rfl,rfl,rfl,rfl,rfl,rfl,rfl,rfl,rfl,rfl,rfl,rfl,rfl,rfl,rfl,rfl,rfl,rfl,rfl,rfl,rfl,rfl,rfl,rfl,rfl,rfl,rfl,rfl,rfl,rfl,rfl,rfl,rfl,rfl,rfl,rfl,rfl,ht0,trivial⟩⟩ (b1f _) ?_;intro k hk;by_cases hk2:k<i
 .exact j0o u A X C j L d Q f hf k h16 oM (hall k hk2) _ (fun v ⟨l,U,hw⟩=>⟨k+1,l,U,hk2,by omega,hw⟩)
 have ek:k=i:=oM
 subst ek;have c:=hf.s k hi;unfold e1N;clear c0 hall;generalize doE (a0y u.w (A++Q.ops.take k)) (Q.at k)=E at*;generalize a0y u.w (A++Q.ops.take k)=s at*;generalize a0y u.w (A++Q.ops.take (k+1))=s2 at*;generalize f (k+1)=f2 at*;generalize f k=f1 at*;generalize Q.txt k=T1 at*;generalize a0y u.w A=s0 at*;have c1:=c;let l:=xBq;let R:=xBi;have w:=@k0g;exact Vx
end
def i1h (u:Su) (A:List Bop) (X:List BA) (C:List Rc) (j:Jr) (L:List (List BA)) (d:Dk) (Q:Oq) (f:Nat->List Rc) (k:Nat):VS:=
 ⟨[(0,.ptr 3 0 0 0),(5,.ptr 26 0 0 0),(7,.sl 39 0 0 Q.n),(12,.i k)],(1,u.p true)::(2,u.h true)::(25,some (.one true Q.b))::q1c u u.H.length 4 18 40 20 21 24 X false (a0y u.w A) C (j.with (Q.txt k)) L d++(rbN 26 u.H.length (a0y u.w (A++Q.ops.take Q.n)) (f Q.n)++ [(39,some (.one false (.cols Q.n [.sc (.strs (Q.txt Q.n))])))]),41⟩
theorem n0D (u:Su) (A:List Bop) (X:List BA) (C:List Rc) (j:Jr) (L:List (List BA)) (d:Dk) (Q:Oq) (f:Nat->List Rc) (k:Nat) (h16:Q.n<=16) (hk:k<Q.n) (hj:(j.with (Q.txt k)).ok d) (hnn:d.nn<=4096) (he:jaE (j.with (Q.txt k)) d (b0Z (Q.at k))=0) (K:Exit->VS->Prop)
  (hK:∀v,(∃(l:List Nat) (U:List Up),upK U v (fun v=>Weak 26 l v (i1h u A X C j L d Q f (k+1))))->K .normal v):
  b0x prog T 26 (lpc Tryz.f16 1) (i1h u A X C j L d Q f k) K:=by
 have c:=t0B (j.with (Q.txt k)) L.length d (b0Z (Q.at k)) hj hnn;rw [t0x _ _ _ _ he,he,<-l0f Q hk] at c;have hx:(BCol.sc (Col.strs (Q.txt Q.n))).at ((k:Int).toNat+0)= .str (b0Z (Q.at k)):=by
  rw [v0H];show SV.str ((Q.ops.map b0Z).getD ((k:Int).toNat+0) ⟨#[]⟩)=_;rw [c0T,v0I Q hk]
 unfold i1h;generalize hs0:a0y u.w A=s0 at*;generalize hs1:a0y u.w (A++Q.ops.take Q.n)=s1 at*;generalize hf1:f Q.n=f1 at*;generalize hT:Q.txt Q.n=T1 at*;generalize hj2:j.with (Q.txt (k+1))=j2 at*
 generalize hj1:j.with (Q.txt k)=j1 at*
 repeat' ((conv=>whnf);first|(rw [hx])|refine cOx (l:= xAt) c ?_|refine a0a ?_|(apply bRx<;>intro h<;>try exact aX)|exact aX|(exfalso;exact h rfl)|(subst hs0;subst hs1;subst hf1;subst hT;subst hj2;exact hK _ ⟨[0,1,2,3,4,5,6,7,8,9,10,11,12,13,14,15,16,17,18,19,20,21,22,23,24,25,26,27,28,29,30,31,32,33,34,35,36,37,38,39,41],[],(wEx ⟨rfl,rfl,rfl,sI (a0j oM),trivial⟩)⟩))
theorem i1i {j:Jr} (h:Jz j) (o:List BA) (m:Nat):FC prog 8 46 [.ptr 1 0 0 0] [(1,a0P false (rjC 2 5 6 m (j.with o))),(6,grW (j.with o).ng (j.with o).grp)] (a0g (.tup []) [(1,a0P false (rjC 2 5 8 m j)),(8,grW j.ng j.grp)] 9):=by
 have c:=m1z (j.with o) m;rw [show ({ j.with o with grp:= [],ng:=0}:Jr)=j from n0d h] at c;rw [h.ge,h.gz];exact c
section
variable (u:Su) (A:List Bop) (X:List BA) (C:List Rc) (j:Jr) (L:List (List BA)) (d:Dk) (Q:Oq) (f:Nat->List Rc) (hf:KrF u A Q f) (h1:1<=Q.n) (h16:Q.n<=16) (hz:Jz j) (jo:JO d j) (hd:d.ok)
 (c0:FC prog 4 34 [.agg [.sl 1 0 0 u.P.length,.str u.cur,.sl 2 0 0 u.H.length,.i u.cut,.i u.days],.sl 3 0 0 X.length] [(1,some (.one true (.cols u.P.length [.sc (.strs u.P)]))),(2,inB u.H.length u.H),(3,some (.one true (.cols X.length [.sc (.strs X)])))] (a0g (.tup [.ptr 4 0 0 0,.i 0]) (rbN 4 u.H.length (a0y u.w (A++Q.ops.take 0)) (f 0)) 17))
 (hall:∀k,k<Q.n->doE (a0y u.w (A++Q.ops.take k)) (Q.at k)=0)
include hf h1 h16 c0 hz jo hd hall
theorem p1w (i:Nat) (hi:i<Q.n) (happ:∀k,k<i->jaE (j.with (Q.txt k)) d (b0Z (Q.at k))=0) (he:jaE (j.with (Q.txt i)) d (b0Z (Q.at i))≠0):
  FC prog 26 16 [.ptr 3 0 0 0,.sl 25 0 0 Q.n] (krH u u.H.length X false (a0y u.w A) C (j.with (Q.txt 0)) L d Q) (a0g (.i (jaE (j.with (Q.txt i)) d (b0Z (Q.at i)))) (krO u u.H.length X false (a0y u.w A) C j L d) 44):=by
 have hnn:=hd.nm;have hok:=n0x hz jo Q i oM happ;have ht0:some (HB.one false (.cols 0 [.sc (.strs [])]))=some (HB.one false (.cols 0 [.sc (.strs (Q.txt 0))])):=by rw [h0o]
 refine fEx func16 ?_;repeat' ((conv=>whnf);first|refine cOx (l:= [0,1,2,21]) c0 ?_|refine a0a ?_|(apply bRx<;>intro h<;>try exact aX))
 all_goals (conv=>whnf)
 all_goals first
  |exact aX
  |skip
 refine a0h (e1N u A X C (j.with (Q.txt 0)) L d Q f) (fun k=>k<=Q.n) (fun k=>Q.n-k) 0 [0,1,2,3,4,5,6,7,8,9,10,11,12,13,14,15,16,17,18,19,20,21,22,23,24,25,26,27,28,29,30,31,32,33,34,35,36,37,38,39] [.slot 7 [.sc (.strs [])]] ⟨rfl,rX,⟨rfl,rfl,rfl,rfl,rfl,rfl,rfl,rfl,rfl,rfl,rfl,rfl,rfl,rfl,rfl,rfl,rfl,rfl,rfl,rfl,rfl,rfl,rfl,rfl,rfl,rfl,rfl,rfl,rfl,rfl,rfl,rfl,rfl,rfl,rfl,rfl,rfl,rfl,ht0,trivial⟩⟩ (b1f _) ?_;intro k hk;by_cases hk2:k<Q.n
 .exact j0o u A X C (j.with (Q.txt 0)) L d Q f hf k h16 hk2 (hall k hk2) _ (fun v ⟨l,U,hw⟩=>⟨k+1,l,U,hk2,by omega,hw⟩)
 have ek:k=Q.n:=oM
 subst ek;unfold e1N;repeat' ((conv=>whnf);first|refine a0a ?_|(apply bRx<;>intro h<;>try exact aX))
 all_goals (conv=>whnf)
 all_goals first
  |exact aX
  |skip
 refine a0h (i1h u A X C j L d Q f) (fun k=>k<=i) (fun k=>i-k) 0 [0,1,2,3,4,5,6,7,8,9,10,11,12,13,14,15,16,17,18,19,20,21,22,23,24,25,26,27,28,29,30,31,32,33,34,35,36,37,38,39,19] [] wHx (b1f _) ?_;intro k hk;by_cases hk2:k<i
 .exact n0D u A X C j L d Q f k h16 oM (hok k oM) hnn (happ k hk2) _ (fun v ⟨l,U,hw⟩=>⟨k+1,l,U,hk2,by omega,hw⟩)
 have ek:k=i:=oM
 subst ek;have c:=t0B (j.with (Q.txt k)) L.length d (b0Z (Q.at k)) (hok k (m0c _)) hnn;rw [g0u he] at c;have c2:=i1i hz (Q.txt k) L.length;have hx:(BCol.sc (Col.strs (Q.txt Q.n))).at ((k:Int).toNat+0)= .str (b0Z (Q.at k)):=by
  rw [v0H];show SV.str ((Q.ops.map b0Z).getD ((k:Int).toNat+0) ⟨#[]⟩)=_;rw [c0T,v0I Q hi]
 unfold i1h;clear c0 hall happ hok;generalize jaE (j.with (Q.txt k)) d (b0Z (Q.at k))=E at*;generalize a0y u.w A=s0 at*;generalize a0y u.w (A++Q.ops.take Q.n)=s1 at*;generalize f Q.n=f1 at*;generalize Q.txt Q.n=T1 at*;generalize j.with (Q.txt k)=j1 at*
 let l2:=[0,17,22,23,24,18,41,20];have c1:=c;let l:=xAt;let R:=[0,1,2,3,4,5,6,7,8,9,10,11,12,13,14,15,16,17,18,19,20,21,22,23,24,25,4,5,6,7,8,9,10,11,12,13,14,15,16,18,42,20,21,24];have w:=@k0g;have q0:=hx;exact Vx
theorem q1T (happ:∀k,k<Q.n->jaE (j.with (Q.txt k)) d (b0Z (Q.at k))=0) (J:Jr) (D:Dk) (E:Int) (hR:cmR (j.with (Q.txt Q.n)) d=(J,D,E)) (he:E≠0) (hm:0<=d.mask/\d.mask<2^64) (hL:L.length<=4096):
  FC prog 26 16 [.ptr 3 0 0 0,.sl 25 0 0 Q.n] (krH u u.H.length X false (a0y u.w A) C (j.with (Q.txt 0)) L d Q) (a0g (.i E) (krO u u.H.length X true (a0y u.w A) C J L D) 44):=by
 have hnn:=hd.nm;have hok:=n0x hz jo Q Q.n (m0c _) happ;have ht0:some (HB.one false (.cols 0 [.sc (.strs [])]))=some (HB.one false (.cols 0 [.sc (.strs (Q.txt 0))])):=by rw [h0o]
 refine fEx func16 ?_;repeat' ((conv=>whnf);first|refine cOx (l:= [0,1,2,21]) c0 ?_|refine a0a ?_|(apply bRx<;>intro h<;>try exact aX))
 all_goals (conv=>whnf)
 all_goals first
  |exact aX
  |skip
 refine a0h (e1N u A X C (j.with (Q.txt 0)) L d Q f) (fun k=>k<=Q.n) (fun k=>Q.n-k) 0 [0,1,2,3,4,5,6,7,8,9,10,11,12,13,14,15,16,17,18,19,20,21,22,23,24,25,26,27,28,29,30,31,32,33,34,35,36,37,38,39] [.slot 7 [.sc (.strs [])]] ⟨rfl,rX,⟨rfl,rfl,rfl,rfl,rfl,rfl,rfl,rfl,rfl,rfl,rfl,rfl,rfl,rfl,rfl,rfl,rfl,rfl,rfl,rfl,rfl,rfl,rfl,rfl,rfl,rfl,rfl,rfl,rfl,rfl,rfl,rfl,rfl,rfl,rfl,rfl,rfl,rfl,ht0,trivial⟩⟩ (b1f _) ?_;intro k hk;by_cases hk2:k<Q.n
 .exact j0o u A X C (j.with (Q.txt 0)) L d Q f hf k h16 hk2 (hall k hk2) _ (fun v ⟨l,U,hw⟩=>⟨k+1,l,U,hk2,by omega,hw⟩)
 have ek:k=Q.n:=oM
 subst ek;unfold e1N;repeat' ((conv=>whnf);first|refine a0a ?_|(apply bRx<;>intro h<;>try exact aX))
 all_goals (conv=>whnf)
 all_goals first
  |exact aX
  |skip
 refine a0h (i1h u A X C j L d Q f) (fun k=>k<=Q.n) (fun k=>Q.n-k) 0 [0,1,2,3,4,5,6,7,8,9,10,11,12,13,14,15,16,17,18,19,20,21,22,23,24,25,26,27,28,29,30,31,32,33,34,35,36,37,38,39,19] [] wHx (b1f _) ?_;intro k hk;by_cases hk2:k<Q.n
 .exact n0D u A X C j L d Q f k h16 oM (hok k oM) hnn (happ k hk2) _ (fun v ⟨l,U,hw⟩=>⟨k+1,l,U,hk2,by omega,hw⟩)
 have ek:k=Q.n:=oM
 subst ek;have c:=t0C (j.with (Q.txt Q.n)) L d (hok _ (m0c _)) hd hm hL (fun _=>m1S _);rw [h0B hR he,hR] at c;dsimp only at c;unfold i1h;clear c0 hall happ hok hR;generalize a0y u.w A=s0 at*;generalize a0y u.w (A++Q.ops.take Q.n)=s1 at*;generalize f Q.n=f1 at*;generalize j.with (Q.txt Q.n)=j1 at*
 generalize Q.txt Q.n=T1 at*;have c1:=c;let l:=xAt;let R:=[0,1,2,3,4,5,6,7,8,9,10,11,12,13,14,15,16,17,18,19,20,21,22,23,24,25,4,5,6,7,8,9,10,11,12,13,14,15,16,42,43,44,21,41];have w:=@k0g;exact Vx
theorem q1U (hX:X.length<=100000) (happ:∀k,k<Q.n->jaE (j.with (Q.txt k)) d (b0Z (Q.at k))=0) (J:Jr) (D:Dk) (hR:cmR (j.with (Q.txt Q.n)) d=(J,D,0)) (hm:0<=d.mask/\d.mask<2^64) (hL:L.length<=4096):
  FC prog 26 16 [.ptr 3 0 0 0,.sl 25 0 0 Q.n] (krH u u.H.length X false (a0y u.w A) C (j.with (Q.txt 0)) L d Q) (a0g (.i 0) (krO u u.H.length (X++Q.txt Q.n) false (a0y u.w (A++Q.ops)) (f Q.n) J (L++ [Q.txt Q.n]) D) 44):=by
 have hnn:=hd.nm;have hok:=n0x hz jo Q Q.n (m0c _) happ;have ht0:some (HB.one false (.cols 0 [.sc (.strs [])]))=some (HB.one false (.cols 0 [.sc (.strs (Q.txt 0))])):=by rw [h0o]
 refine fEx func16 ?_;repeat' ((conv=>whnf);first|refine cOx (l:= [0,1,2,21]) c0 ?_|refine a0a ?_|(apply bRx<;>intro h<;>try exact aX))
 all_goals (conv=>whnf)
 all_goals first
  |exact aX
  |skip
 refine a0h (e1N u A X C (j.with (Q.txt 0)) L d Q f) (fun k=>k<=Q.n) (fun k=>Q.n-k) 0 [0,1,2,3,4,5,6,7,8,9,10,11,12,13,14,15,16,17,18,19,20,21,22,23,24,25,26,27,28,29,30,31,32,33,34,35,36,37,38,39] [.slot 7 [.sc (.strs [])]] ⟨rfl,rX,⟨rfl,rfl,rfl,rfl,rfl,rfl,rfl,rfl,rfl,rfl,rfl,rfl,rfl,rfl,rfl,rfl,rfl,rfl,rfl,rfl,rfl,rfl,rfl,rfl,rfl,rfl,rfl,rfl,rfl,rfl,rfl,rfl,rfl,rfl,rfl,rfl,rfl,rfl,ht0,trivial⟩⟩ (b1f _) ?_;intro k hk;by_cases hk2:k<Q.n
 .exact j0o u A X C (j.with (Q.txt 0)) L d Q f hf k h16 hk2 (hall k hk2) _ (fun v ⟨l,U,hw⟩=>⟨k+1,l,U,hk2,by omega,hw⟩)
 have ek:k=Q.n:=oM
 subst ek;unfold e1N;repeat' ((conv=>whnf);first|refine a0a ?_|(apply bRx<;>intro h<;>try exact aX))
 all_goals (conv=>whnf)
 all_goals first
  |exact aX
  |skip
 refine a0h (i1h u A X C j L d Q f) (fun k=>k<=Q.n) (fun k=>Q.n-k) 0 [0,1,2,3,4,5,6,7,8,9,10,11,12,13,14,15,16,17,18,19,20,21,22,23,24,25,26,27,28,29,30,31,32,33,34,35,36,37,38,39,19] [] wHx (b1f _) ?_;intro k hk;by_cases hk2:k<Q.n
 .exact n0D u A X C j L d Q f k h16 oM (hok k oM) hnn (happ k hk2) _ (fun v ⟨l,U,hw⟩=>⟨k+1,l,U,hk2,by omega,hw⟩)
 have ek:k=Q.n:=oM
 subst ek;have c:=t0C (j.with (Q.txt Q.n)) L d (hok _ (m0c _)) hd hm hL (fun _=>m1S _);rw [x0Y hR,hR] at c;dsimp only at c;change FC _ _ _ _ _ (a0g _ (rjH 8 9 11 10 J (L++ [Q.txt Q.n]) D) _) at c;have hl:(Q.txt Q.n).length=Q.n:=m1o Q (m0c _);have hxs:seg 0 X.length X=X:=j0Z rfl;have hts:seg 0 Q.n (Q.txt Q.n)=Q.txt Q.n:=j0Z hl;have hrow:some (HB.one false (.cols (X.length+Q.n) [.sc (.strs (seg 0 X.length X++seg 0 Q.n (Q.txt Q.n)))]))=grW (X++Q.txt Q.n).length (X++Q.txt Q.n):=by rw [hxs,hts,s0c,hl];rfl
 have hcell:some (HB.one false (.cells [.sl 1 0 0 u.P.length,.str u.cur,.sl 2 0 0 u.H.length,.i u.cut,.i u.days,.ptr 26 0 0 0,.ptr 17 0 0 0,.sl 46 0 0 (X.length+Q.n),.bool false]))=some (HB.one false (.cells [.sl 1 0 0 u.P.length,.str u.cur,.sl 2 0 0 u.H.length,.i u.cut,.i u.days,.ptr 26 0 0 0,.ptr 17 0 0 0,.sl 46 0 0 (X++Q.txt Q.n).length,.bool false])):=by rw [s0c,hl]
 unfold i1h;clear c0 hall happ hok hR;generalize a0y u.w A=s0 at*;rw [i0a];generalize a0y u.w (A++Q.ops)=s1 at*;generalize f Q.n=f1 at*;generalize j.with (Q.txt Q.n)=j1 at*
 generalize L++ [Q.txt Q.n]=L2 at*;generalize Q.txt Q.n=T1 at*;repeat' ((conv=>whnf);first|refine cOx (l:= xAt) c ?_|refine a0a ?_|(apply bRx<;>intro h<;>try exact aX)|exact aX|(exfalso;exact h rfl)|exact a0A (l:= [0,1,2,3,4,5,6,7,8,9,10,11,12,13,14,15,16,17,18,19,20,21,22,23,24,25,26,27,28,29,30,31,32,33,34,35,36,37,38,42,43,44,46,41]) rfl rfl ⟨hcell,rfl,rfl,rfl,rfl,hrow,rX⟩ k0g)
end
theorem q1V {u:Su} {A A':List Bop} {j J:Jr} {d D:Dk} {L L':List (List BA)} {Q:Oq} {E:Int} {st:Bool} {C:List Rc} (h:Kv u A j d L) (z:Jz j) (hl:A.length+16<=3000) (hnn:d.nn<=200) (hI:RbI u.H.length u.H (a0y u.w A) C A.length) (hr:KoR u A j d L Q E st A' J D L'):
  ∃C',RbI u.H.length u.H (a0y u.w A') C' A'.length/\FC prog 26 16 [.ptr 3 0 0 0,.sl 25 0 0 Q.n] (krH u u.H.length j.recs false (a0y u.w A) C j L d Q) (a0g (.i E) (krO u u.H.length J.recs st (a0y u.w A') C' J L' D) 44):=by
 have hX:=h.q.rx.len;have h400:=Su.m4 h.q.e;have hL:L.length<=4096:=by
  have h1:=h.cj.ok.gs;have h2:=h.cj.ok.us;rw [h.cj.lj.gr];omega
 obtain ⟨C0,hC0,c4⟩:=p0s u.cur u.days u.cut u.P u.H u.H.length rfl (n1r h400 dC) h.q.e j.recs h.q.tx oM;unfold rqO at c4;rw [if_pos h.q.rp,h.q.rx.m] at c4;rw [h.q.rx.m] at hC0;have e0:A++Q.ops.take 0=A:=by simp
 have e1:j.with (Q.txt 0)=j:=by rw [h0o];exact n0d z
 have hseq:Q.n<=16->∃f:Nat->List Rc,KrF u A Q f/\f 0=C0/\RbI u.H.length u.H (a0y u.w (A++Q.ops)) (f Q.n) (A.length+Q.n):=fun h16=>by
  obtain ⟨f,f0,hf⟩:=e1v u.H.length u.H (a0y u.w A) C0 j.recs.length hC0 Q.at (fun k=>a0y u.w (A++Q.ops.take k)) (by simp) Q.n (fun k hk=>(p0t u.w A hk).symm) oM;refine ⟨f,⟨fun k hk=>(hf k oM).2 hk⟩,f0,?_⟩;have:=(hf Q.n (m0c _)).1;simp_all [i0a]
 cases hr with
 |rng h=>exact ⟨C,hI,p1u u u.H.length j.recs (a0y u.w A) C j L d Q h⟩
 |ops h1 h16 i hi hall he=>
  obtain ⟨f,hf,f0,_⟩:=hseq h16;rw [<-f0,<-e0] at c4;exact ⟨C,hI,p1v u A j.recs C j L d Q f hf h1 h16 c4 i hi (fun k hk=>(hall k hk).2) he⟩
 |app h1 h16 hall i hi happ he=>
  obtain ⟨f,hf,f0,_⟩:=hseq h16;rw [<-f0,<-e0] at c4;have c:=p1w u A j.recs C j L d Q f hf h1 h16 z (h.jo z) h.cd.ok c4 (fun k hk=>(hall k hk).2) i hi happ he;rw [e1] at c;exact ⟨C,hI,c⟩
 |cm h1 h16 hall happ J D E hR he=>
  obtain ⟨f,hf,f0,_⟩:=hseq h16;rw [<-f0,<-e0] at c4;have c:=q1T u A j.recs C j L d Q f hf h1 h16 z (h.jo z) h.cd.ok c4 (fun k hk=>(hall k hk).2) happ J D E hR he h.cd.ms hL;rw [e1] at c;rw [(t0D hR).1 he];exact ⟨C,hI,c⟩
 |ok h1 h16 hr hall happ J D hR=>
  obtain ⟨f,hf,f0,hI2⟩:=hseq h16;rw [<-f0,<-e0] at c4;have c:=q1U u A j.recs C j L d Q f hf h1 h16 z (h.jo z) h.cd.ok c4 (fun k hk=>(hall k hk).2) oM happ J D hR h.cd.ms hL;rw [e1] at c;rw [((t0D hR).2 rfl).1,s0c,h0Z];exact ⟨f Q.n,hI2,c⟩
structure Gq where
 n:Nat
 ns:List Nat
 k:Nat->List Int
 t:Nat->List Int
 id:Nat->List BA
 au:Nat->List BA
 is:Nat->List BA
 ac:Nat->List BA
 am:Nat->List Int
 fe:Nat->List Int
 fi:Nat->List Bool
abbrev Gq.q (G:Gq) (i:Nat):Oq:=⟨G.ns.getD i 0,G.k i,G.t i,G.id i,G.au i,G.is i,G.ac i,G.am i,G.fe i,G.fi i⟩
abbrev Gq.fam (G:Gq):Option HB:=some (.fam true (fun x=>x<G.n) (fun x=> .cols (G.ns.getD x 0) [.sc (.ints .i64 (G.k x)),.sc (.ints .i64 (G.t x)),.sc (.strs (G.id x)),.sc (.strs (G.au x)),.sc (.strs (G.is x)),.sc (.strs (G.ac x)),.sc (.ints .i64 (G.am x)),.sc (.ints .i64 (G.fe x)),.sc (.bools (G.fi x))]))
theorem j1E (u:Su) (cnt:Nat) (stq:Bool) (s:Bks) (j:Jr) (d:Dk) (G:Gq) (i:Nat) (hi:i<G.n) (E:Int) (cnt2:Nat) (st2:Bool) (s2:Bks) (J:Jr) (D:Dk)
  (h:FC prog 31 15 [.ptr 1 0 0 0,.sl 29 0 0 (G.q i).n] ((0,some (GB glT))::(29,some (.one true (G.q i).b))::e1X u (fun i=>i+2) 23 24 28 cnt stq s j d) (a0g (.i E) (n0w u cnt2 st2 s2 J D) 52)):
  FC prog 31 15 [.ptr 1 0 0 0,.sl 29 i 0 (G.ns.getD i 0)] ((0,some (GB glT))::(29,G.fam)::e1X u (fun i=>i+2) 23 24 28 cnt stq s j d) (a0g (.i E) (n0w u cnt2 st2 s2 J D) 52):=by
 have c0:=k0s [(29,⟨i,fun x=>x<G.n,fun x=>(G.q x).b⟩)] (by exact ⟨⟨by simp,by simp,_,_,rfl,hi,rfl,.inl rfl⟩,trivial⟩)
  (by exact ⟨o1N _ _,rfl,rfl,rfl,rfl,rfl,rfl,rfl,rfl,rfl,rfl,rfl,rfl,rfl,rfl,rfl,rfl,rfl,rfl,rfl,rfl,fun _ _=>rfl,rfl,rfl,rfl,rfl,rfl,rfl,fun _ _=>rfl,fun _ _=>rfl,fun _ _=>rfl,trivial⟩)
  (by exact ⟨rfl,rfl,rfl,rfl,rfl,rfl,rfl,rfl,rfl,rfl,rfl,rfl,rfl,rfl,rfl,rfl,rfl,rfl,rfl,fun _ _=>rfl,rfl,rfl,rfl,rfl,rfl,rfl,fun _ _=>rfl,fun _ _=>rfl,fun _ _=>rfl,trivial⟩) g0E h
 have e:SV.mems (fmu [(29,⟨i,fun x=>x<G.n,fun x=>(G.q x).b⟩)]) [.ptr 1 0 0 0,.sl 29 0 0 (G.q i).n]= [.ptr 1 0 0 0,.sl 29 i 0 (G.ns.getD i 0)]:=by
  show [SV.ptr 1 0 0 0,SV.sl 29 (0+i) 0 (G.ns.getD i 0)]=_;simp
 have eH:k1u [(29,⟨i,fun x=>x<G.n,fun x=>(G.q x).b⟩)] ((0,some (GB glT))::(29,some (.one true (G.q i).b))::e1X u (fun i=>i+2) 23 24 28 cnt stq s j d)=(0,some (GB glT))::(29,G.fam)::e1X u (fun i=>i+2) 23 24 28 cnt stq s j d:=by
  show (0,some (s0i _ 0 (GB glT)))::_=_;rw [o1O];rfl
 rw [e,eH] at c0;exact c0
abbrev cvB (G:Gq) (i k:Nat):Blk:= .cols k [.sc (.ints .i64 ((G.k i).take k)),.sc (.ints .i64 ((G.t i).take k)),.sc (.strs ((G.id i).take k)),.sc (.strs ((G.au i).take k)),.sc (.strs ((G.is i).take k)),.sc (.strs ((G.ac i).take k)),.sc (.ints .i64 ((G.am i).take k)),.sc (.ints .i64 ((G.fe i).take k)),.sc (.bools ((G.fi i).take k))]
structure GqL (G:Gq) (i n:Nat):Prop where
 k:(G.k i).length=n
 t:(G.t i).length=n
 id:(G.id i).length=n
 au:(G.au i).length=n
 is:(G.is i).length=n
 ac:(G.ac i).length=n
 am:(G.am i).length=n
 fe:(G.fe i).length=n
 fi:(G.fi i).length=n
theorem m1H {G:Gq} {i n k:Nat} (z:GqL G i n) (hk:k<n):some (HB.one false (.cols (k+1) [.sc (.ints .i64 ((G.k i).take k++ [(G.k i).getD k 0])),.sc (.ints .i64 ((G.t i).take k++ [(G.t i).getD k 0])),.sc (.strs ((G.id i).take k++ [(G.id i).getD k ⟨#[]⟩])),.sc (.strs ((G.au i).take k++ [(G.au i).getD k ⟨#[]⟩])),.sc (.strs ((G.is i).take k++ [(G.is i).getD k ⟨#[]⟩])),.sc (.strs ((G.ac i).take k++ [(G.ac i).getD k ⟨#[]⟩])),.sc (.ints .i64 ((G.am i).take k++ [(G.am i).getD k 0])),.sc (.ints .i64 ((G.fe i).take k++ [(G.fe i).getD k 0])),.sc (.bools ((G.fi i).take k++ [(G.fi i).getD k false]))]))=some (HB.one false (cvB G i (k+1))):=by
 have h:∀{α:Type} (l:List α) (d:α),l.length=n->l.take k++ [l.getD k d]=l.take (k+1):=fun l d hl=>by
  simp_all
 rw [h _ _ z.k,h _ _ z.t,h _ _ z.id,h _ _ z.au,h _ _ z.is,h _ _ z.ac,h _ _ z.am,h _ _ z.fe,h _ _ z.fi]
theorem p1x {G:Gq} {i n:Nat} (z:GqL G i n) (hn:G.ns.getD i 0=n):some (HB.one false (cvB G i n))=some (HB.one false (G.q i).b):=by
 have h:∀{α:Type} (l:List α),l.length=n->l.take n=l:=fun l hl=>s1A oM
 unfold cvB;rw [h _ z.k,h _ z.t,h _ z.id,h _ z.au,h _ z.is,h _ z.ac,h _ z.am,h _ z.fe,h _ z.fi];simp_all
theorem v0K (G:Gq) (i:Nat) (hi:i<G.n) (hl:G.ns.getD i 0<=20) (z:GqL G i (G.ns.getD i 0)):
  FC prog 2 17 [.sl 1 i 0 (G.ns.getD i 0)] [(1,G.fam)] (a0g (.sl 2 0 0 (G.ns.getD i 0)) [(2,some (.one false (G.q i).b))] 3):=by
 have hall:=p1x z rfl;refine fEx func17 ?_;repeat' ((conv=>whnf);first|refine a0a ?_|(apply bRx<;>intro h<;>try exact aX))
 all_goals (conv=>whnf)
 refine a0h (fun k:Nat=>⟨[(0,.sl 1 i 0 (G.ns.getD i 0)),(3,.sl 2 0 0 k),(4,.i k)],[(1,G.fam),(2,some (.one false (cvB G i k)))],3⟩) (fun k=>k<=G.ns.getD i 0) (fun k=>G.ns.getD i 0-k) 0 [0,1,2] [.slot 3 [.sc (.ints .i64 []),.sc (.ints .i64 []),.sc (.strs []),.sc (.strs []),.sc (.strs []),.sc (.strs []),.sc (.ints .i64 []),.sc (.ints .i64 []),.sc (.bools [])]] wHx (b1f _) ?_;intro k hk;by_cases hk2:k<G.ns.getD i 0
 .have hs:=m1H z hk2;repeat' ((conv=>whnf);first|refine a0a ?_|(apply bRx<;>intro h<;>try exact aX)|exact aX|exact ⟨k+1,[0,1,4],[],hk2,(show G.ns.getD i 0-(k+1)<G.ns.getD i 0-k by omega),⟨rfl,⟨rfl,rfl,sI (a0j oM),trivial⟩,⟨rfl,hs,trivial⟩⟩⟩)
 have ek:k=G.ns.getD i 0:=oM
 subst ek;repeat' ((conv=>whnf);first|refine a0a ?_|(apply bRx<;>intro h<;>try exact aX)|exact aX|exact a0A (l:= [0,1,2]) rfl rfl ⟨hall,trivial⟩ (a0b a0c))
theorem i1j (u:Su):FC prog 3 7 [.agg (u.a 1 2),.nptr] [] (a0g (.tup [.nptr,.i 6]) [] 3):=by
 have cK:FC prog 3 31 [.agg (u.a 1 2),.nptr] [] (a0g (.tup [.nptr,.i 6]) [] 3):=by
  let l:=[0,1,2];exact Wx func31
 have c0:=cK;let l:=[0,1,2];exact Wx func7
end
section
attribute [local irreducible] sortI
abbrev sHb:BA:=⟨#[104,111,109,101,98,97,110,107]⟩
abbrev sSb:BA:=⟨#[115,104,111,112,98,97,110,107]⟩
abbrev sOb:BA:=⟨#[111,116,104,101,114]⟩
abbrev sA1:BA:=⟨#[97,45,49]⟩
abbrev sEu:BA:=⟨#[69,85,82]⟩
abbrev q3:List BA:= [sHb,sSb,sOb]
abbrev r3:List BA:= [sHb,sOb,sSb]
theorem m1I:sortS q3=r3:=by
 refine w0z ((List.Perm.swap _ _ _).cons _) ?_;refine .cons (fun a h=> ?_) (.cons (fun a h=> ?_) (.cons (fun a h=>absurd h (s1O)) .nil))<;>simp only [f1I,s1O,or_false] at h<;>(first|(rcases h with rfl|rfl<;>kernel_rfl))
theorem j1F:bkE sEu 7 [] 0 64800 q3=0:=by kernel_rfl
def o1:Bop:=⟨1,100,⟨#[]⟩,sA1,⟨#[]⟩,⟨#[]⟩,1000,0,false⟩
def o2:Bop:=⟨4,200,⟨#[97,45,49,45,49]⟩,sA1,sHb,sSb,400,10,false⟩
def w0:Bks:=bk1 sEu 7 [] 64800 q3
def au1:Au:=⟨sA1,sEu,1000,0,0,0,1,100,604900,0⟩
def au2:Au:=⟨sA1,sEu,1000,0,400,0,1,100,604900,1⟩
def w1:Bks:= { w0 with na:=1,au:= [au1],last:=100}
def bq0:Bk:=⟨3,r3,0,[],[],[],0⟩
def bq1:Bk:=⟨3,r3,1,[sEu],[[-390,0,390,0,0,0,0,0,0,0,0,0,0,0,0,0]],[0],1⟩
def lq2:Lg:=lgP (lg0 (q3.map e0n)) (enB w1 o2)
def w2:Bks:= { w1 with au:= [au2],m:=1,ds:= [0],B:= [bq1],lg:=lq2,last:=200}
theorem r1r:doE w0 o1=0:=by kernel_rfl
theorem r1s:doS w0 o1=w1:=by kernel_rfl
theorem p1y:c0H [] [] q3 0=bq0:=by
 unfold c0H nwB;rw [if_neg (by simp),m1I];rfl
theorem p1z:mvE bq0 sHb sSb sEu 390=0:=by kernel_rfl
theorem q1W:bq0.mv sHb sSb sEu 390=bq1:=by kernel_rfl
theorem r1t:bkD w1 200=0:=by kernel_rfl
theorem r1K:owX w1 o2.t (mtF o2) (mtG o2) (mtN o2)=0:=by
 unfold owX;rw [show bkD w1 o2.t=0 from r1t];show mvE (c0H [] [] q3 0) sHb sSb sEu 390=0;rw [p1y];exact p1z
theorem p1A:clA w1 o2=(au2,400,0,0):=by kernel_rfl
theorem q1X:mmE w1 o2=0:=by
 unfold mmE;rw [if_neg dC,if_neg dC,if_pos (show o2.k=4 from rfl),if_pos dC,p1A,if_neg (fun e=>e rfl)];exact r1K
theorem r1u:doE w1 o2=0:=by
 have h1:ckE o2=0:=by kernel_rfl
 have h2:pfE w1 o2=mmE w1 o2:=by
  rfl
 unfold doE;rw [if_neg (fun e=>e h1),if_neg dC,h2,q1X]
theorem q1Y:owS w1 o2= { w1 with m:=1,ds:= [0],B:= [bq1],lg:=lq2}:=by
 unfold owS;rw [show bkD w1 o2.t=0 from r1t];show Bks.mk _ _ _ _ _ _ _ _ _ _ _ (s0x [] [] 0 ((c0H [] [] q3 0).mv sHb sSb sEu 390)) _ _ _ _=_;rw [p1y,q1W];rfl
theorem r1v:doS w1 o2=w2:=by
 have h2:pfS w1 o2=mmS w1 o2:=by
  rfl
 unfold doS;rw [r1u,if_pos rfl,h2];unfold mmS;rw [if_pos (show o2.k=4 from rfl),p1A,q1Y];rfl
theorem r1w:doE w2 o2=15:=by
 have h1:ckE o2=0:=by kernel_rfl
 have h2:pfE w2 o2=mmE w2 o2:=by
  rfl
 unfold doE;rw [if_neg (fun e=>e h1),if_neg dC,h2];rfl
theorem r1L:doS w2 o2=w2:=by simp_all [doS,r1w]
theorem p1B:BkOk w0:=o0S j1F
theorem p1C:BkOk w1:=by grind [r1s,g1u,p1B]
theorem m1J:BkOk w2:=by grind [r1v,g1u,p1C]
theorem r1M:w2.lg.bal (e0n sHb) sEu= -390:=by rfl
theorem r1N:w2.lg.bal (e0n sSb) sEu=390:=by rfl
theorem r1O:w0I w2.ds w2.B 0= [⟨sHb,-390,sEu⟩,⟨sSb,390,sEu⟩]:=by
 show bq1.list=_;unfold Bk.list;rw [show sortS bq1.cs= [sEu] from g1e sEu]
 rfl
theorem r1P:b0S w2.au (w2.pl sA1)=au2:=by rfl
theorem q1Z:ckE o2=0:=by kernel_rfl
theorem r1Q:b0Z o2=⟨#[52,124,50,48,48,124,97,45,49,45,49,124,97,45,49,124,104,111,109,101,98,97,110,107,124,115,104,111,112,98,97,110,107,124,52,48,48,124,49,48,124,48]⟩:=by kernel_rfl
end
section
attribute [local irreducible] sortI
attribute [local irreducible] seq ByteArray.extract
theorem e1O:FC prog 1 25 [] [] (a0g (.agg [.sl 1 0 0 3,.str sEu,.nsl,.i 64800,.i 7]) [(1,some (.one false (.cols 3 [.sc (.strs q3)])))] 2):=by
 let l:=[0,2];exact Wx func25
theorem m1K:FC prog 2 24 [.agg [.sl 1 0 0 3,.str sEu,.nsl,.i 64800,.i 7]] [(1,some (.one true (.cols 3 [.sc (.strs q3)])))] (a0g (.tup [.ptr 3 0 0 0,.i 0]) (e1V (fun i=>i+2) w0) 22):=by
 refine b1m (n:=2) (m:= [.sl 1 0 0 3,.str sEu,.sl 2 0 0 0,.i 64800,.i 7]) (cs:= [.sc (.ints .i64 [])]) rfl (by exact ⟨.inl rfl,.inl rfl,.inr ⟨rfl,rfl⟩,.inl rfl,.inl rfl,trivial⟩) ?_;refine n1t (H:= [(1,some (.one true (.cols 3 [.sc (.strs q3)]))),(2,some (.one true (.cols 0 [.sc (.ints .i64 [])])))]) ?_ (m0R sEu 7 64800 q3 3 [] 0 rfl rfl j1F);intro k;rw [a0T,a0T,a0T,a0T];all_goals grind
theorem e1P:k0D prog glT 4 [] (.bool true):=by
 have cS:=e1O;have cN:=m1K;have d1:=z0n w0 o1 p1B;rw [r1r,r1s] at d1;have d2:=z0n w1 o2 p1C;rw [r1u,r1v] at d2;have d3:=z0n w2 o2 m1J;rw [r1w,r1L] at d3;have cA:=l1p w2 m1J sA1 (of_decide_eq_true (by kernel_rfl));rw [r1P] at cA;have cE:=g0p o2 q1Z;rw [r1Q] at cE;have cH:=o0U w2 (e0n sHb);rw [show w2.lg.bal (e0n sHb) w2.cur= -390 from r1M] at cH;have cB:=o0U w2 (e0n sSb);rw [show w2.lg.bal (e0n sSb) w2.cur=390 from r1N] at cB;have cP:=s0L w2 m1J 0;rw [r1O] at cP;simp only [i1y,s1M,i1z,Nat.reduceAdd] at cP;generalize w0=s0 at*;generalize w1=s1 at*;generalize w2=s2 at*;refine fEx func4 ?_;repeat' ((conv=>whnf);first|refine cOx (l:= [0]) cS ?_|refine cOx (l:= [0,1]) cN ?_|refine cOx (l:= [0,3,4,5,6,7,8,9,10,11,12,13,14,15,16,17,18,19,20,21]) d1 ?_|refine cOx (l:= [0,3,23,5,6,7,24,9,10,11,25,13,14,15,16,17,18,26,27,28]) d2 ?_|refine cOx (l:= [0,3,29,5,6,7,30,9,10,11,31,13,14,15,16,17,18,32,33,34]) d3 ?_|refine cOx (l:= [0,3,35,5,6,7,36,9,10,11,37,13,14,15,16,17,18,38,39,40]) cA ?_|refine cOx (l:= [0,3,41,5,6,7,42,9,10,11,43,13,14,15,16,17,18,44,45,46]) cH ?_|refine cOx (l:= [0,3,48,5,6,7,49,9,10,11,50,13,14,15,16,17,18,51,52,53]) cB ?_|refine cOx (l:= [0,3,54,5,6,7,55,9,10,11,56,13,14,15,16,17,18,57,58,59]) cP ?_|refine cGx cE ?_|refine a0a ?_|(apply bRx<;>intro h<;>try exact aX)|exact aX|(exfalso;exact h rfl)|exact a0e (congrArg SV.bool (s0y.2 rfl)))
end
section
attribute [local irreducible] sortI
attribute [local irreducible] seq ByteArray.extract a0y b0Z Oq.ops Oq.txt dgI
theorem h0r (d:Dk) (n m:Int):∃s k w,h0W d n m=({ d with steps:=s,mask:=k},w):=by
 unfold h0W;split
 .grind
 .split
  all_goals grind
theorem r0f (c:Dk):∃b,(a0Q c).1= { c with down:=b}:=by
 unfold a0Q;split
 all_goals grind
structure Aq where
 G:Gq
 cr:List Bool
 st:List Int
 ms:List Int
abbrev Aq.rw (Q:Aq):Option HB:=some (.one true (.cols Q.G.n [.own 4 Q.G.ns,.sc (.bools Q.cr),.sc (.ints .i64 Q.st),.sc (.ints .u64 Q.ms)]))
abbrev kkB (u:Su) (Q:Aq) (d:Dk):a0k:=(0,some (GB glT))::(1,u.p true)::(2,u.h true)::(3,Q.rw)::(4,Q.G.fam)::(5,some (.one false (.cells (u.a 1 2))))::
 (6,a0P false [.sl 7 0 0 d.nn,.sl 8 0 0 d.nn,.sl 9 0 0 d.np,.bool d.down,.i d.steps,.int .u64 d.mask])::(7,grW d.nn d.kept)::(8,grW d.nn d.now)::(9,some (.one false (.cols d.np [.sc (.ints .i64 d.pn),.sc (.strs d.ps)])))::
 (10,a0P false [.sl 11 0 0 d.nn,.sl 12 0 0 d.np,.bool d.down,.i d.steps,.int .u64 d.mask])::(11,grW d.nn d.kept):: [(12,some (.one false (.cols d.np [.sc (.ints .i64 d.pn),.sc (.strs d.ps)])))]
structure Kp where
 cnt:Nat
 X:List BA
 s:Bks
 j:Jr
 L:List (List BA)
 C:List Rc
 st:Bool
abbrev kkK (u:Su) (m:Nat) (k:Kp):a0k:=(13,some (.one false (.cells (u.a 14 15++ [.ptr 16 0 0 0,.ptr 35 0 0 0,.i k.cnt,.bool k.st]))))::(14,u.p false)::(15,u.h false)::
 (35,a0P false [.ptr 6 0 0 0,.sl 36 0 0 k.j.nr,.i k.j.groups,.i k.j.used,.int .u64 k.j.head,.sl 37 0 0 k.j.ng,.bool k.j.stopped])::(36,grW k.j.nr k.j.recs)::(37,grW k.j.ng k.j.grp)::
 (38,some (.one false (.cells (u.a 1 2++ [.ptr 39 0 0 0,.ptr 52 0 0 0,.sl 56 0 0 k.X.length,.bool k.st]))))::(52,a0P false (rjC 10 53 54 k.L.length k.j))::(53,f0H false 55 k.L.length (k.L.map List.length))::(54,grW k.j.ng k.j.grp)::(55,h1Z k.L)::(56,grW k.X.length k.X)::(rbN 39 m k.s k.C++e1V (fun i=>i+15) k.s)
def kkS (u:Su) (m:Nat) (Q:Aq) (x:Nat×Dk×Kp):VS:=
 ⟨[(2,.sl 3 0 0 Q.G.n),(3,.ptr 5 0 0 0),(7,.ptr 6 0 0 0),(9,.ptr 10 0 0 0),(13,.ptr 13 0 0 0),(14,.i 0),(15,.ptr 38 0 0 0),(16,.i 0),(17,.i x.1)],kkB u Q x.2.1++kkK u m x.2.2,57⟩
def kkN (u:Su) (Q:Aq) (x:Nat×Dk×Int):VS:=
 ⟨[(2,.sl 3 0 0 Q.G.n),(3,.ptr 5 0 0 0),(7,.ptr 6 0 0 0),(9,.ptr 10 0 0 0),(13,.nptr),(14,.i x.2.2),(15,.nptr),(16,.i x.2.2),(17,.i x.1)],kkB u Q x.2.1,13⟩
theorem p1D (u:Su) (m:Nat) (Q:Aq) (i:Nat) (d d1 d2:Dk) (k0:Kp) (kp:Kp) (hst:kp.st=false) (hi:i<Q.G.n) (hi12:i<12) (hl:Q.G.ns.getD i 0<=20) (hcr:Q.cr.getD i false=true)
  (hd1:d1=if 0<Q.st.getD i 0 then (h0W d (Q.st.getD i 0) (Q.ms.getD i 0)).1 else d) (h0:d1.ok) (hm:0<=Q.ms.getD i 0/\Q.ms.getD i 0<2^64) (hd2:d2=(a0Q (a0I (Q.ms.getD i 0) d1)).1)
  (cO:FC prog 7 7 [.agg (u.a 1 6),.ptr 2 0 0 0] (koH u d2) (a0g (.tup [.ptr 7 0 0 0,.i 0]) (kqO u kp.cnt kp.j kp.s) 32))
  (cR:FC prog 6 8 [.agg (u.a 1 2),.ptr 3 0 0 0] (j1D u d2) (a0g (.tup [.ptr 6 0 0 0,.i 0]) (rkO u m kp.X kp.j kp.L kp.s kp.C) 25)) (K:Exit->VS->Prop)
  (hK:∀v,(∃(l:List Nat) (U:List Up),upK U v (fun v=>Weak 5 l v (kkS u m Q (i+1,d2,kp))))->K .normal v):
  b0x prog T 5 (lpc Tryz.f3 0) (kkS u m Q (i,d,k0)) K:=by
 have cC:=h0f d1 h0 (Q.ms.getD i 0);have cC2:=h0p d1 h0 (Q.ms.getD i 0) hm;have cV:=e0q (a0I (Q.ms.getD i 0) d1);have cV2:=f0y (a0I (Q.ms.getD i 0) d1);have cA:=h0g d (Q.st.getD i 0) (Q.ms.getD i 0);have cA2:=k0f d (Q.st.getD i 0) (Q.ms.getD i 0);obtain ⟨b,hb⟩:=r0f (a0I (Q.ms.getD i 0) d1);rw [hb] at hd2 cV cV2;obtain ⟨cnt,X,s,j,L,C,st⟩:=kp;dsimp only at hst;subst hst;clear hb;generalize a0I (Q.ms.getD i 0) d1=dc at*;subst hd2;have hl':Q.G.ns.getD ((i:Int).toNat+0) 0<=20:=hl;have hcr':Q.cr.getD ((i:Int).toNat+0) false=true:=hcr;by_cases hs:0<Q.st.getD i 0
 .rw [if_pos hs] at hd1;have hs':0<Q.st.getD ((i:Int).toNat+0) 0:=hs;obtain ⟨s1,m1,w1,ha⟩:=h0r d (Q.st.getD i 0) (Q.ms.getD i 0);rw [ha] at hd1 cA cA2;clear ha;subst hd1;unfold kkS;dsimp only;repeat' ((conv=>whnf);first|refine cOx (l:= [0,6,7,8,9]) cA ?_|refine cOx (l:= [0,10,11,12]) cA2 ?_|refine cOx (l:= [0,6,7,8,9]) cC ?_|refine cOx (l:= [0,10,11,12]) cC2 ?_|refine cOx (l:= [0,6,7,8,58]) cV ?_|refine cOx (l:= [0,10,11,59]) cV2 ?_|refine cOx (l:= xAu) cO ?_|refine cOx (l:= xAv) cR ?_|refine a0a ?_|(apply bRx<;>intro h<;>try exact aX)|exact aX|(exfalso;exact h rfl)|(exfalso;first|contradiction|(simp_all;done))|exact hK _ ⟨xBr,[],(wEx ⟨rfl,rfl,rfl,rfl,rfl,rfl,rfl,rfl,sI (a0j oM),trivial⟩)⟩)
 .rw [if_neg hs] at hd1;have hs':¬0<Q.st.getD ((i:Int).toNat+0) 0:=hs;subst hd1;clear cA cA2;unfold kkS;dsimp only;repeat' ((conv=>whnf);first|refine cOx (l:= [0,6,7,8,9]) cC ?_|refine cOx (l:= [0,10,11,12]) cC2 ?_|refine cOx (l:= [0,6,7,8,58]) cV ?_|refine cOx (l:= [0,10,11,59]) cV2 ?_|refine cOx (l:= xAu) cO ?_|refine cOx (l:= xAv) cR ?_|refine a0a ?_|(apply bRx<;>intro h<;>try exact aX)|exact aX|(exfalso;exact h rfl)|(exfalso;first|contradiction|(simp_all;done))|exact hK _ ⟨xBr,[],(wEx ⟨rfl,rfl,rfl,rfl,rfl,rfl,rfl,rfl,sI (a0j oM),trivial⟩)⟩)
theorem p1E (u:Su) (m:Nat) (Q:Aq) (i:Nat) (d d1 d2:Dk) (k0:Kp) (E:Int) (hi:i<Q.G.n) (hi12:i<12) (hl:Q.G.ns.getD i 0<=20) (hcr:Q.cr.getD i false=true)
  (hd1:d1=if 0<Q.st.getD i 0 then (h0W d (Q.st.getD i 0) (Q.ms.getD i 0)).1 else d) (h0:d1.ok) (hm:0<=Q.ms.getD i 0/\Q.ms.getD i 0<2^64) (hd2:d2=(a0Q (a0I (Q.ms.getD i 0) d1)).1)
  (cO:FC prog 7 7 [.agg (u.a 1 6),.ptr 2 0 0 0] (koH u d2) (a0g (.tup [.nptr,.i E]) [] 7))
  (cR:FC prog 6 8 [.agg (u.a 1 2),.ptr 3 0 0 0] (j1D u d2) (a0g (.tup [.nptr,.i E]) [] 6)) (K:Exit->VS->Prop)
  (hK:∀v,(∃(l:List Nat) (U:List Up),upK U v (fun v=>Weak 5 l v (kkN u Q (i+1,d2,E))))->K .normal v):
  b0x prog T 5 (lpc Tryz.f3 0) (kkS u m Q (i,d,k0)) K:=by
 have cC:=h0f d1 h0 (Q.ms.getD i 0);have cC2:=h0p d1 h0 (Q.ms.getD i 0) hm;have cV:=e0q (a0I (Q.ms.getD i 0) d1);have cV2:=f0y (a0I (Q.ms.getD i 0) d1);have cA:=h0g d (Q.st.getD i 0) (Q.ms.getD i 0);have cA2:=k0f d (Q.st.getD i 0) (Q.ms.getD i 0);obtain ⟨b,hb⟩:=r0f (a0I (Q.ms.getD i 0) d1);rw [hb] at hd2 cV cV2;clear hb;generalize a0I (Q.ms.getD i 0) d1=dc at*;subst hd2;have hl':Q.G.ns.getD ((i:Int).toNat+0) 0<=20:=hl;have hcr':Q.cr.getD ((i:Int).toNat+0) false=true:=hcr;by_cases hs:0<Q.st.getD i 0
 .rw [if_pos hs] at hd1;have hs':0<Q.st.getD ((i:Int).toNat+0) 0:=hs;obtain ⟨s1,m1,w1,ha⟩:=h0r d (Q.st.getD i 0) (Q.ms.getD i 0);rw [ha] at hd1 cA cA2;clear ha;subst hd1;unfold kkS;dsimp only;repeat' ((conv=>whnf);first|refine cOx (l:= [0,6,7,8,9]) cA ?_|refine cOx (l:= [0,10,11,12]) cA2 ?_|refine cOx (l:= [0,6,7,8,9]) cC ?_|refine cOx (l:= [0,10,11,12]) cC2 ?_|refine cOx (l:= [0,6,7,8,58]) cV ?_|refine cOx (l:= [0,10,11,59]) cV2 ?_|refine cOx (l:= xAu) cO ?_|refine cOx (l:= xAv) cR ?_|refine a0a ?_|(apply bRx<;>intro h<;>try exact aX)|exact aX|(exfalso;exact h rfl)|(exfalso;first|contradiction|(simp_all;done))|exact hK _ ⟨xBs,[],(wEx ⟨rfl,rfl,rfl,rfl,rfl,rfl,rfl,rfl,sI (a0j oM),trivial⟩)⟩)
 .rw [if_neg hs] at hd1;have hs':¬0<Q.st.getD ((i:Int).toNat+0) 0:=hs;subst hd1;clear cA cA2;unfold kkS;dsimp only;repeat' ((conv=>whnf);first|refine cOx (l:= [0,6,7,8,9]) cC ?_|refine cOx (l:= [0,10,11,12]) cC2 ?_|refine cOx (l:= [0,6,7,8,58]) cV ?_|refine cOx (l:= [0,10,11,59]) cV2 ?_|refine cOx (l:= xAu) cO ?_|refine cOx (l:= xAv) cR ?_|refine a0a ?_|(apply bRx<;>intro h<;>try exact aX)|exact aX|(exfalso;exact h rfl)|(exfalso;first|contradiction|(simp_all;done))|exact hK _ ⟨xBs,[],(wEx ⟨rfl,rfl,rfl,rfl,rfl,rfl,rfl,rfl,sI (a0j oM),trivial⟩)⟩)
theorem p1F (u:Su) (m:Nat) (Q:Aq) (i:Nat) (d d1 d2:Dk) (E0:Int) (hE0:E0≠0) (kp:Kp) (hst:kp.st=false) (hi:i<Q.G.n) (hi12:i<12) (hl:Q.G.ns.getD i 0<=20) (hcr:Q.cr.getD i false=true)
  (hd1:d1=if 0<Q.st.getD i 0 then (h0W d (Q.st.getD i 0) (Q.ms.getD i 0)).1 else d) (h0:d1.ok) (hm:0<=Q.ms.getD i 0/\Q.ms.getD i 0<2^64) (hd2:d2=(a0Q (a0I (Q.ms.getD i 0) d1)).1)
  (cO:FC prog 7 7 [.agg (u.a 1 6),.ptr 2 0 0 0] (koH u d2) (a0g (.tup [.ptr 7 0 0 0,.i 0]) (kqO u kp.cnt kp.j kp.s) 32))
  (cR:FC prog 6 8 [.agg (u.a 1 2),.ptr 3 0 0 0] (j1D u d2) (a0g (.tup [.ptr 6 0 0 0,.i 0]) (rkO u m kp.X kp.j kp.L kp.s kp.C) 25)) (K:Exit->VS->Prop)
  (hK:∀v,(∃(l:List Nat) (U:List Up),upK U v (fun v=>Weak 5 l v (kkS u m Q (i+1,d2,kp))))->K .normal v):
  b0x prog T 5 (lpc Tryz.f3 0) (kkN u Q (i,d,E0)) K:=by
 have cC:=h0f d1 h0 (Q.ms.getD i 0);have cC2:=h0p d1 h0 (Q.ms.getD i 0) hm;have cV:=e0q (a0I (Q.ms.getD i 0) d1);have cV2:=f0y (a0I (Q.ms.getD i 0) d1);have cA:=h0g d (Q.st.getD i 0) (Q.ms.getD i 0);have cA2:=k0f d (Q.st.getD i 0) (Q.ms.getD i 0);obtain ⟨b,hb⟩:=r0f (a0I (Q.ms.getD i 0) d1);rw [hb] at hd2 cV cV2;obtain ⟨cnt,X,s,j,L,C,st⟩:=kp;dsimp only at hst;subst hst;clear hb;generalize a0I (Q.ms.getD i 0) d1=dc at*;subst hd2;have hl':Q.G.ns.getD ((i:Int).toNat+0) 0<=20:=hl;have hcr':Q.cr.getD ((i:Int).toNat+0) false=true:=hcr;by_cases hs:0<Q.st.getD i 0
 .rw [if_pos hs] at hd1;have hs':0<Q.st.getD ((i:Int).toNat+0) 0:=hs;obtain ⟨s1,m1,w1,ha⟩:=h0r d (Q.st.getD i 0) (Q.ms.getD i 0);rw [ha] at hd1 cA cA2;clear ha;subst hd1;unfold kkN;dsimp only;repeat' ((conv=>whnf);first|refine cOx (l:= [0,6,7,8,9]) cA ?_|refine cOx (l:= [0,10,11,12]) cA2 ?_|refine cOx (l:= [0,6,7,8,9]) cC ?_|refine cOx (l:= [0,10,11,12]) cC2 ?_|refine cOx (l:= [0,6,7,8,14]) cV ?_|refine cOx (l:= [0,10,11,15]) cV2 ?_|refine cOx (l:= xAw) cO ?_|refine cOx (l:= xAx) cR ?_|refine a0a ?_|(apply bRx<;>intro h<;>try exact aX)|exact aX|(exfalso;exact h rfl)|(exfalso;first|contradiction|(simp_all;done))|exact hK _ ⟨xBt,[],(wEx ⟨rfl,rfl,rfl,rfl,rfl,rfl,rfl,rfl,sI (a0j oM),trivial⟩)⟩)
 .rw [if_neg hs] at hd1;have hs':¬0<Q.st.getD ((i:Int).toNat+0) 0:=hs;subst hd1;clear cA cA2;unfold kkN;dsimp only;repeat' ((conv=>whnf);first|refine cOx (l:= [0,6,7,8,9]) cC ?_|refine cOx (l:= [0,10,11,12]) cC2 ?_|refine cOx (l:= [0,6,7,8,14]) cV ?_|refine cOx (l:= [0,10,11,15]) cV2 ?_|refine cOx (l:= xAw) cO ?_|refine cOx (l:= xAx) cR ?_|refine a0a ?_|(apply bRx<;>intro h<;>try exact aX)|exact aX|(exfalso;exact h rfl)|(exfalso;first|contradiction|(simp_all;done))|exact hK _ ⟨xBt,[],(wEx ⟨rfl,rfl,rfl,rfl,rfl,rfl,rfl,rfl,sI (a0j oM),trivial⟩)⟩)
theorem p1G (u:Su) (m:Nat) (Q:Aq) (i:Nat) (d d1 d2:Dk) (E0:Int) (hE0:E0≠0) (E:Int) (hi:i<Q.G.n) (hi12:i<12) (hl:Q.G.ns.getD i 0<=20) (hcr:Q.cr.getD i false=true)
  (hd1:d1=if 0<Q.st.getD i 0 then (h0W d (Q.st.getD i 0) (Q.ms.getD i 0)).1 else d) (h0:d1.ok) (hm:0<=Q.ms.getD i 0/\Q.ms.getD i 0<2^64) (hd2:d2=(a0Q (a0I (Q.ms.getD i 0) d1)).1)
  (cO:FC prog 7 7 [.agg (u.a 1 6),.ptr 2 0 0 0] (koH u d2) (a0g (.tup [.nptr,.i E]) [] 7))
  (cR:FC prog 6 8 [.agg (u.a 1 2),.ptr 3 0 0 0] (j1D u d2) (a0g (.tup [.nptr,.i E]) [] 6)) (K:Exit->VS->Prop)
  (hK:∀v,(∃(l:List Nat) (U:List Up),upK U v (fun v=>Weak 5 l v (kkN u Q (i+1,d2,E))))->K .normal v):
  b0x prog T 5 (lpc Tryz.f3 0) (kkN u Q (i,d,E0)) K:=by
 have cC:=h0f d1 h0 (Q.ms.getD i 0);have cC2:=h0p d1 h0 (Q.ms.getD i 0) hm;have cV:=e0q (a0I (Q.ms.getD i 0) d1);have cV2:=f0y (a0I (Q.ms.getD i 0) d1);have cA:=h0g d (Q.st.getD i 0) (Q.ms.getD i 0);have cA2:=k0f d (Q.st.getD i 0) (Q.ms.getD i 0);obtain ⟨b,hb⟩:=r0f (a0I (Q.ms.getD i 0) d1);rw [hb] at hd2 cV cV2;clear hb;generalize a0I (Q.ms.getD i 0) d1=dc at*;subst hd2;have hl':Q.G.ns.getD ((i:Int).toNat+0) 0<=20:=hl;have hcr':Q.cr.getD ((i:Int).toNat+0) false=true:=hcr;by_cases hs:0<Q.st.getD i 0
 .rw [if_pos hs] at hd1;have hs':0<Q.st.getD ((i:Int).toNat+0) 0:=hs;obtain ⟨s1,m1,w1,ha⟩:=h0r d (Q.st.getD i 0) (Q.ms.getD i 0);rw [ha] at hd1 cA cA2;clear ha;subst hd1;unfold kkN;dsimp only;repeat' ((conv=>whnf);first|refine cOx (l:= [0,6,7,8,9]) cA ?_|refine cOx (l:= [0,10,11,12]) cA2 ?_|refine cOx (l:= [0,6,7,8,9]) cC ?_|refine cOx (l:= [0,10,11,12]) cC2 ?_|refine cOx (l:= [0,6,7,8,14]) cV ?_|refine cOx (l:= [0,10,11,15]) cV2 ?_|refine cOx (l:= xAw) cO ?_|refine cOx (l:= xAx) cR ?_|refine a0a ?_|(apply bRx<;>intro h<;>try exact aX)|exact aX|(exfalso;exact h rfl)|(exfalso;first|contradiction|(simp_all;done))|exact hK _ ⟨xBu,[],(wEx ⟨rfl,rfl,rfl,rfl,rfl,rfl,rfl,rfl,sI (a0j oM),trivial⟩)⟩)
 .rw [if_neg hs] at hd1;have hs':¬0<Q.st.getD ((i:Int).toNat+0) 0:=hs;subst hd1;clear cA cA2;unfold kkN;dsimp only;repeat' ((conv=>whnf);first|refine cOx (l:= [0,6,7,8,9]) cC ?_|refine cOx (l:= [0,10,11,12]) cC2 ?_|refine cOx (l:= [0,6,7,8,14]) cV ?_|refine cOx (l:= [0,10,11,15]) cV2 ?_|refine cOx (l:= xAw) cO ?_|refine cOx (l:= xAx) cR ?_|refine a0a ?_|(apply bRx<;>intro h<;>try exact aX)|exact aX|(exfalso;exact h rfl)|(exfalso;first|contradiction|(simp_all;done))|exact hK _ ⟨xBu,[],(wEx ⟨rfl,rfl,rfl,rfl,rfl,rfl,rfl,rfl,sI (a0j oM),trivial⟩)⟩)
theorem m1L (u:Su) (Q:Aq) (i:Nat) (d d1:Dk) (E0:Int) (hE0:E0≠0) (hi:i<Q.G.n) (hi12:i<12) (hl:Q.G.ns.getD i 0<=20) (hcr:Q.cr.getD i false=false)
  (hd1:d1=if 0<Q.st.getD i 0 then (h0W d (Q.st.getD i 0) (Q.ms.getD i 0)).1 else d) (K:Exit->VS->Prop)
  (hK:∀v,(∃(l:List Nat) (U:List Up),upK U v (fun v=>Weak 5 l v (kkN u Q (i+1,d1,E0))))->K .normal v):
  b0x prog T 5 (lpc Tryz.f3 0) (kkN u Q (i,d,E0)) K:=by
 have cA:=h0g d (Q.st.getD i 0) (Q.ms.getD i 0);have cA2:=k0f d (Q.st.getD i 0) (Q.ms.getD i 0);have hl':Q.G.ns.getD ((i:Int).toNat+0) 0<=20:=hl;have hcr':Q.cr.getD ((i:Int).toNat+0) false=false:=hcr;by_cases hs:0<Q.st.getD i 0
 .rw [if_pos hs] at hd1;have hs':0<Q.st.getD ((i:Int).toNat+0) 0:=hs;obtain ⟨s1,m1,w1,ha⟩:=h0r d (Q.st.getD i 0) (Q.ms.getD i 0);rw [ha] at hd1 cA cA2;clear ha;subst hd1;unfold kkN;dsimp only;repeat' ((conv=>whnf);first|refine cOx (l:= [0,6,7,8,9]) cA ?_|refine cOx (l:= [0,10,11,12]) cA2 ?_|refine a0a ?_|(apply bRx<;>intro h<;>try exact aX)|exact aX|(exfalso;exact h rfl)|(exfalso;exact hE0 h)|(exfalso;first|contradiction|(simp_all;done))|exact hK _ ⟨xBc,[],(wEx ⟨rfl,rfl,rfl,rfl,rfl,rfl,rfl,rfl,sI (a0j oM),trivial⟩)⟩)
 .rw [if_neg hs] at hd1;have hs':¬0<Q.st.getD ((i:Int).toNat+0) 0:=hs;subst hd1;clear cA cA2;unfold kkN;dsimp only;repeat' ((conv=>whnf);first|refine a0a ?_|(apply bRx<;>intro h<;>try exact aX)|exact aX|(exfalso;exact h rfl)|(exfalso;exact hE0 h)|(exfalso;first|contradiction|(simp_all;done))|exact hK _ ⟨xBc,[],(wEx ⟨rfl,rfl,rfl,rfl,rfl,rfl,rfl,rfl,sI (a0j oM),trivial⟩)⟩)
set_option maxHeartbeats 4000000 in
theorem p1H (u:Su) (m:Nat) (Q:Aq) (i:Nat) (d d1 D:Dk) (k0 k1:Kp) (hi:i<Q.G.n) (hi12:i<12) (hl:Q.G.ns.getD i 0<=20) (hcr:Q.cr.getD i false=false)
  (hd1:d1=if 0<Q.st.getD i 0 then (h0W d (Q.st.getD i 0) (Q.ms.getD i 0)).1 else d) (hx:k0.X.length=k0.cnt) (hx1:k1.X.length=k1.cnt)
  (z:GqL Q.G i (Q.G.ns.getD i 0)) (E:Int)
  (cP:FC prog 31 15 [.ptr 1 0 0 0,.sl 29 i 0 (Q.G.ns.getD i 0)] ((0,some (GB glT))::(29,Q.G.fam)::e1X u (fun i=>i+2) 23 24 28 k0.cnt k0.st k0.s k0.j d1) (a0g (.i E) (n0w u k1.cnt k1.st k1.s k1.j D) 52))
  (cQ:FC prog 26 16 [.ptr 3 0 0 0,.sl 25 0 0 (Q.G.q i).n] (krH u m k0.X k0.st k0.s k0.C k0.j k0.L d1 (Q.G.q i)) (a0g (.i E) (krO u m k1.X k1.st k1.s k1.C k1.j k1.L D) 44))
  (hok:BkOk k1.s) (hdg:k1.s.lg.dig=a1f k1.s.lg.ent) (K:Exit->VS->Prop)
  (hK:∀v,(∃(l:List Nat) (U:List Up),upK U v (fun v=>Weak 5 l v (kkS u m Q (i+1,D,k1))))->K .normal v):
  b0x prog T 5 (lpc Tryz.f3 0) (kkS u m Q (i,d,k0)) K:=by
 have cV:=v0K Q.G i hi hl z;have cN:=h1U u k1.cnt k1.st;have cN2:=i1f u k1.X.length k1.st;have cB:=h1T u k1.cnt k1.st;have cB2:=i1e u k1.X.length k1.st;have cD:=e1t k1.s hok;have cD2:=z0P m k1.s hok hdg;rw [hx1] at cN2;obtain ⟨cnt,X,s,j,L,C,st⟩:=k0;obtain ⟨cnt1,X1,t1,j1,L1,C1,st1⟩:=k1;dsimp only at hx hx1 cP cQ cN cN2 cB cB2 cD cD2;subst hx hx1;generalize dgI t1=DG at*;clear hok hdg;have cA:=h0g d (Q.st.getD i 0) (Q.ms.getD i 0);have cA2:=k0f d (Q.st.getD i 0) (Q.ms.getD i 0);have hl':Q.G.ns.getD ((i:Int).toNat+0) 0<=20:=hl;have hcr':Q.cr.getD ((i:Int).toNat+0) false=false:=hcr;by_cases hs:0<Q.st.getD i 0
 .rw [if_pos hs] at hd1;have hs':0<Q.st.getD ((i:Int).toNat+0) 0:=hs;obtain ⟨s1,m1,w1,ha⟩:=h0r d (Q.st.getD i 0) (Q.ms.getD i 0);rw [ha] at hd1 cA cA2;clear ha;subst hd1;unfold kkS;dsimp only;repeat' ((conv=>whnf);first|refine cOx (l:= [0,6,7,8,9]) cA ?_|refine cOx (l:= [0,10,11,12]) cA2 ?_|refine cOx (l:= xBv) cP ?_|refine cOx (l:= [0,4]) cV ?_|refine cOx (l:= xBw) cQ ?_|refine cOx (l:= xAy) cN ?_|refine cOx (l:= xAz) cN2 ?_|refine cOx (l:= xAy) cB ?_|refine cOx (l:= xAz) cB2 ?_|refine cOx (l:= xBx) cD ?_|refine cOx (l:= xBy) cD2 ?_|refine a0a ?_|(apply bRx<;>intro h<;>try exact aX)|exact aX|(exfalso;exact h rfl)|(exfalso;first|contradiction|(simp_all;done))|exact hK _ ⟨xBz,[],(wEx ⟨rfl,rfl,rfl,rfl,rfl,rfl,rfl,rfl,sI (a0j (by omega)),trivial⟩)⟩)
 .rw [if_neg hs] at hd1;have hs':¬0<Q.st.getD ((i:Int).toNat+0) 0:=hs;subst hd1;clear cA cA2;unfold kkS;dsimp only;repeat' ((conv=>whnf);first|refine cOx (l:= xBv) cP ?_|refine cOx (l:= [0,4]) cV ?_|refine cOx (l:= xBw) cQ ?_|refine cOx (l:= xAy) cN ?_|refine cOx (l:= xAz) cN2 ?_|refine cOx (l:= xAy) cB ?_|refine cOx (l:= xAz) cB2 ?_|refine cOx (l:= xBx) cD ?_|refine cOx (l:= xBy) cD2 ?_|refine a0a ?_|(apply bRx<;>intro h<;>try exact aX)|exact aX|(exfalso;exact h rfl)|(exfalso;first|contradiction|(simp_all;done))|exact hK _ ⟨xBz,[],(wEx ⟨rfl,rfl,rfl,rfl,rfl,rfl,rfl,rfl,sI (a0j (by omega)),trivial⟩)⟩)
theorem p1I (m:Nat) (h:m<=600):Cd (x0A m):=
 ⟨l1w m oM,rfl,z64,(fun b hb=>by simp only [x0A,List.mem_replicate] at hb;rw [hb.2];decide),(fun b hb=>by simp only [x0A,List.mem_replicate] at hb;rw [hb.2];decide),(fun b hb=>by cases hb)⟩
abbrev KkX:=Nat×Dk×(Kp⊕Int)
def kkT (u:Su) (Q:Aq) (x:KkX):VS:=match x.2.2 with
 | .inl k=>kkS u u.H.length Q (x.1,x.2.1,k)
 | .inr E=>kkN u Q (x.1,x.2.1,E)
structure KpI (u:Su) (A:List Bop) (i:Nat) (d:Dk) (k:Kp):Prop where
 v:Kv u A k.j d k.L
 z:k.st=false->Jz k.j
 r:RbI u.H.length u.H (a0y u.w A) k.C A.length
 s:k.s=a0y u.w A
 c:k.cnt=A.length
 x:k.X=k.j.recs
 l:A.length<=2250+16*i
def kkI (u:Su) (n1:Nat) (x:KkX):Prop:=x.1<=12/\Cd x.2.1/\x.2.1.nn=n1/\(match x.2.2 with
 | .inl k=>∃A,KpI u A x.1 x.2.1 k
 | .inr E=>E≠0)
theorem KpI.X {u:Su} {A:List Bop} {i:Nat} {d:Dk} {k:Kp} (h:KpI u A i d k):k.X.length=k.cnt:=by rw [h.x,h.c];exact h.v.q.rx.len
theorem e1Q (u:Su) (hm:u.H.length<=maxLen) (hsz:∀k,(u.P.getD k ⟨#[]⟩).size<=9223372036854775807) (d:Dk) (hc:Cd d) (hd:d.down=false) (hnn:d.nn<=200) (i:Nat):
  (∃kp A,kp.st=false/\KpI u A i d kp/\FC prog 7 7 [.agg (u.a 1 6),.ptr 2 0 0 0] (koH u d) (a0g (.tup [.ptr 7 0 0 0,.i 0]) (kqO u kp.cnt kp.j kp.s) 32)/\
   FC prog 6 8 [.agg (u.a 1 2),.ptr 3 0 0 0] (j1D u d) (a0g (.tup [.ptr 6 0 0 0,.i 0]) (rkO u u.H.length kp.X kp.j kp.L kp.s kp.C) 25))\/
  ∃E,E≠0/\FC prog 7 7 [.agg (u.a 1 6),.ptr 2 0 0 0] (koH u d) (a0g (.tup [.nptr,.i E]) [] 7)/\FC prog 6 8 [.agg (u.a 1 2),.ptr 3 0 0 0] (j1D u d) (a0g (.tup [.nptr,.i E]) [] 6):=by
 by_cases hu:u.E=0
 case neg=>exact .inr ⟨u.E,hu,e1L u hm d hu,e1M u hm hsz d hu⟩
 have c1:=m1F u hu d hd hnn hc.sn;obtain ⟨C,hC,c2⟩:=m1G u hu d hd hc.ok hc.wh hnn hc.sn;by_cases he:rpE u.w (opJ d).recs=0
 .rw [if_pos he] at c1 c2;obtain ⟨h1,h2⟩:=o1l _ _ he;have hl:=h1.len;have h4:=x0E hnn;have hrl:=(j0e d).rl;have hj:=j0e d;refine .inl ⟨⟨(opJ d).recs.length,(opJ d).recs,a0y u.w ((opJ d).recs.map deO),opJ d,opG d,C,false⟩,(opJ d).recs.map deO,rfl,⟨⟨⟨hu,h2,h1,j1t d,by omega⟩,hc,m1C⟩,fun _=>⟨hj.ge,hj.gz,hj.st⟩,by grind,rfl,hl,rfl,by omega⟩,c1,c2⟩
 .rw [if_neg he] at c1 c2;exact .inr ⟨_,he,c1,c2⟩
theorem i1k (u:Su) (n1:Nat) (hn1:n1<=200) (Q:Aq) (hm:u.H.length<=maxLen) (hsz:∀k,(u.P.getD k ⟨#[]⟩).size<=9223372036854775807) (z:∀i,i<Q.G.n->GqL Q.G i (Q.G.ns.getD i 0)) (hmk:∀i,0<=Q.ms.getD i 0/\Q.ms.getD i 0<2^64)
  (i:Nat) (d:Dk) (o:Kp⊕Int) (hI:kkI u n1 (i,d,o)) (hi:i<Q.G.n) (hi12:i<12) (hl:Q.G.ns.getD i 0<=20) (K:Exit->VS->Prop)
  (hK:∀v,(∃(y:KkX) (l:List Nat) (U:List Up),kkI u n1 y/\12-y.1<12-i/\upK U v (fun v=>Weak 5 l v (kkT u Q y)))->K .normal v):
  b0x prog T 5 (lpc Tryz.f3 0) (kkT u Q (i,d,o)) K:=by
 obtain ⟨_,hc,hnn,ho⟩:=hI;dsimp only at hc hnn ho;obtain ⟨d1,hd1⟩:∃d1,d1=if 0<Q.st.getD i 0 then (h0W d (Q.st.getD i 0) (Q.ms.getD i 0)).1 else d:=⟨_,rfl⟩
 have hc1:Cd d1/\d1.nn=n1:=by
  rw [hd1];split
  .exact ⟨p1r hc (hmk i),by rw [p1s];exact hnn⟩
  .exact ⟨hc,hnn⟩
 cases hcr:Q.cr.getD i false with
 |true=>
  obtain ⟨d2,hd2⟩:∃d2,d2=(a0Q (a0I (Q.ms.getD i 0) d1)).1:=⟨_,rfl⟩;have hc2:Cd d2:=by rw [hd2];exact z0X (z0W hc1.1 _)
  have hn2:d2.nn=n1:=by rw [hd2,z0Y,a1a];exact hc1.2
  have hu2:d2.down=false:=by rw [hd2];exact z0Z _
  rcases e1Q u hm hsz d2 hc2 hu2 oM (i+1) with ⟨kp,A,hst,hkp,cO,cR⟩|⟨E,hE,cO,cR⟩
  .have hN:∀v,(∃(l:List Nat) (U:List Up),upK U v (fun v=>Weak 5 l v (kkS u u.H.length Q (i+1,d2,kp))))->K .normal v:=fun v ⟨l,U,hw⟩=>hK v ⟨(i+1,d2,.inl kp),l,U,⟨by dsimp only;omega,hc2,hn2,A,hkp⟩,by dsimp only;omega,hw⟩
   cases o with
   |inl k=>exact p1D u u.H.length Q i d d1 d2 k kp hst hi hi12 hl hcr hd1 hc1.1.ok (hmk i) hd2 cO cR K hN
   |inr E0=>exact p1F u u.H.length Q i d d1 d2 E0 ho kp hst hi hi12 hl hcr hd1 hc1.1.ok (hmk i) hd2 cO cR K hN
  .have hN:∀v,(∃(l:List Nat) (U:List Up),upK U v (fun v=>Weak 5 l v (kkN u Q (i+1,d2,E))))->K .normal v:=fun v ⟨l,U,hw⟩=>hK v ⟨(i+1,d2,.inr E),l,U,⟨by dsimp only;omega,hc2,hn2,hE⟩,by dsimp only;omega,hw⟩
   cases o with
   |inl k=>exact p1E u u.H.length Q i d d1 d2 k E hi hi12 hl hcr hd1 hc1.1.ok (hmk i) hd2 cO cR K hN
   |inr E0=>exact p1G u u.H.length Q i d d1 d2 E0 ho E hi hi12 hl hcr hd1 hc1.1.ok (hmk i) hd2 cO cR K hN
 |false=>
  cases o with
  |inr E0=>exact m1L u Q i d d1 E0 ho hi hi12 hl hcr hd1 K (fun v ⟨l,U,hw⟩=>hK v ⟨(i+1,d1,.inr E0),l,U,⟨by dsimp only;omega,hc1.1,hc1.2,ho⟩,by dsimp only;omega,hw⟩)
  |inl k=>
   obtain ⟨A,h⟩:=ho;have hx:=h.X;obtain ⟨cnt,X,s,j,L,C,st⟩:=k;obtain ⟨hv,hz,hr,hs,hcn,hX,hl2⟩:=h;dsimp only at hv hz hr hs hcn hX hl2 hx;subst hs hcn hX;have hv1:Kv u A j d1 L:=⟨hv.q,hc1.1,m1D hv.cj (by rw [hc1.2,hnn])⟩;cases st with
   |true=>
    have hok:=hr.ok;exact p1H u u.H.length Q i d d1 d1 ⟨A.length,j.recs,a0y u.w A,j,L,C,true⟩ ⟨A.length,j.recs,a0y u.w A,j,L,C,true⟩ hi hi12 hl hcr hd1 hx hx (z i hi) 13 (j1E u A.length true (a0y u.w A) j d1 Q.G i hi 13 A.length true (a0y u.w A) j d1 (i1d u A.length (a0y u.w A) j d1 (Q.G.q i))) (i1g u u.H.length j.recs (a0y u.w A) C j L d1 (Q.G.q i)) hok hr.dg K
     (fun v ⟨l,U,hw⟩=>hK v ⟨(i+1,d1,.inl ⟨A.length,j.recs,a0y u.w A,j,L,C,true⟩),l,U,⟨by dsimp only;omega,hc1.1,hc1.2,A,⟨hv1,hz,hr,rfl,rfl,rfl,by omega⟩⟩,by dsimp only;omega,hw⟩)
   |false=>
    obtain ⟨E,st',A',J,D,L',hR⟩:=q1Q hv1 (Q.G.q i);have hzj:=hz rfl;obtain ⟨k1,k2,k3,k4⟩:=q1R hv1 hzj oM hR;obtain ⟨C',hC',cQ⟩:=q1V hv1 hzj oM oM hr hR;have cP:=j1E u A.length false (a0y u.w A) j d1 Q.G i hi E A'.length st' (a0y u.w A') J D (q1S hv1 hzj hR);have hx':J.recs.length=A'.length:=k1.q.rx.len;exact p1H u u.H.length Q i d d1 D ⟨A.length,j.recs,a0y u.w A,j,L,C,false⟩ ⟨A'.length,J.recs,a0y u.w A',J,L',C',st'⟩ hi hi12 hl hcr hd1 hx hx' (z i hi) E cP cQ hC'.ok hC'.dg K
     (fun v ⟨l,U,hw⟩=>hK v ⟨(i+1,D,.inl ⟨A'.length,J.recs,a0y u.w A',J,L',C',st'⟩),l,U,⟨by dsimp only;omega,k1.cd,k3.trans hc1.2,A',⟨k1,k2,hC',rfl,rfl,rfl,by omega⟩⟩,by dsimp only;omega,hw⟩)
theorem e1R (u:Su) (n1:Int) (Q:Aq) (hm:u.H.length<=maxLen) (hsz:∀k,(u.P.getD k ⟨#[]⟩).size<=9223372036854775807) (z:∀i,i<Q.G.n->GqL Q.G i (Q.G.ns.getD i 0)) (hmk:∀i,0<=Q.ms.getD i 0/\Q.ms.getD i 0<2^64):
  FC prog 5 3 [.agg (u.a 1 2),.i n1,.sl 3 0 0 Q.G.n] [(0,some (GB glT)),(1,u.p true),(2,u.h true),(3,Q.rw),(4,Q.G.fam)] (a0g (.bool true) [] 5):=by
 have cA:=e1P;by_cases h200:200<n1
 .have c0:=cA;let l:=[0,1,2,3,4];exact Wx func3
 by_cases h1:n1<1
 .have cN:=v0k n1 (.inl h1);have cM:=z0U n1 (.inl h1);have cO:=i1j u;refine fEx func3 ?_;repeat' ((conv=>whnf);first|refine cPx cN ?_|refine cPx cM ?_|refine cOx (l:= [0,1,2]) cO ?_|refine cGx cA ?_|refine a0a ?_|(apply bRx<;>intro h<;>try exact aX)|exact aX|(exfalso;first|contradiction|(simp_all;done))|exact rOx [0,1,2,3,4] a0c)
 obtain ⟨n,rfl⟩:∃n:Nat,n1=n:=⟨n1.toNat,by omega⟩;have cN:=h1c n ⟨by omega,by omega⟩;have cM:=m1u n ⟨by omega,by omega⟩;have hc:=p1I n oM;have hnn:(x0A n).nn=n:=rfl;have hdn:(x0A n).down=false:=rfl;generalize x0A n=d at*;rcases e1Q u hm hsz d hc hdn oM 0 with ⟨kp,A,hst,hkp,cO,cR⟩|⟨E,hE,cO,cR⟩
 case' inl=>
  obtain ⟨cnt,X,s,j,L,C,st⟩:=kp;dsimp only at hst;subst hst;refine fEx func3 ?_;repeat' ((conv=>whnf);first|refine cOx (l:= [0]) cN ?_|refine cOx (l:= [0]) cM ?_|refine cOx (l:= [0,1,6,7,8,9,2]) cO ?_|refine cOx (l:= [0,1,2,10,11,12]) cR ?_|refine a0a ?_|(apply bRx<;>intro h<;>try exact aX))
  all_goals (conv=>whnf)
  all_goals first
   |exact aX
   |(exfalso;exact h rfl)
   |(exfalso;first|contradiction|(simp_all;done))
   |skip
  refine a0h (kkT u Q) (kkI u n) (fun x=>12-x.1) (0,d,.inl ⟨cnt,X,s,j,L,C,false⟩) [0,1,2,3,4,5,6,7,8,9,10,11,12,13,14,15,16,17,18,19,20,21,22,23,24,25,26,27,28,29,30,31,32,33,34,35,36,37,38,39,40,41,42,43,44,45,46,47,48,49,50,51,52,53,54,55,56] [] wHx ⟨b1f _,hc,hnn,A,hkp⟩ ?_
 case' inr=>
  refine fEx func3 ?_;repeat' ((conv=>whnf);first|refine cOx (l:= [0]) cN ?_|refine cOx (l:= [0]) cM ?_|refine cOx (l:= [0,1,6,7,8,9,2]) cO ?_|refine cOx (l:= [0,1,2,10,11,12]) cR ?_|refine a0a ?_|(apply bRx<;>intro h<;>try exact aX))
  all_goals (conv=>whnf)
  all_goals first
   |exact aX
   |(exfalso;exact h rfl)
   |(exfalso;first|contradiction|(simp_all;done))
   |skip
  refine a0h (kkT u Q) (kkI u n) (fun x=>12-x.1) (0,d,.inr E) [0,1,2,3,4,5,6,7,8,9,10,11,12] [] wHx ⟨b1f _,hc,hnn,hE⟩ ?_
 all_goals
  clear cN cM cO cR;rintro ⟨i,d,o⟩ hI;by_cases hi:i<Q.G.n/\i<12
  .by_cases hl:Q.G.ns.getD i 0<=20
   .exact i1k u n oM Q hm hsz z hmk i d o hI hi.1 hi.2 hl _ (fun v hv=>hv)
   .have hl':¬Q.G.ns.getD ((i:Int).toNat+0) 0<=20:=hl;cases o with
    |inl k=>
     show b0x _ _ _ _ (kkS u u.H.length Q (i,d,k)) _;unfold kkS;dsimp only;repeat' ((conv=>whnf);first|refine cGx cA ?_|refine a0a ?_|(apply bRx<;>intro h<;>try exact aX)|exact aX|(exfalso;exact h rfl)|(exfalso;first|contradiction|(simp_all;done))|exact rOx [0,1,2,3,4] a0c)
    |inr E0=>
     have hE0:E0≠0:=hI.2.2.2;show b0x _ _ _ _ (kkN u Q (i,d,E0)) _;unfold kkN;dsimp only;repeat' ((conv=>whnf);first|refine cGx cA ?_|refine a0a ?_|(apply bRx<;>intro h<;>try exact aX)|exact aX|(exfalso;exact h rfl)|(exfalso;exact hE0 h)|(exfalso;first|contradiction|(simp_all;done))|exact rOx [0,1,2,3,4] a0c)
  .cases o with
   |inl k=>
    show b0x _ _ _ _ (kkS u u.H.length Q (i,d,k)) _;unfold kkS;dsimp only;repeat' ((conv=>whnf);first|refine cGx cA ?_|refine a0a ?_|(apply bRx<;>intro h<;>try exact aX)|exact aX|(exfalso;exact h rfl)|(exfalso;first|contradiction|(simp_all;done))|exact rOx [0,1,2,3,4] a0c)
   |inr E0=>
    have hE0:E0≠0:=hI.2.2.2;show b0x _ _ _ _ (kkN u Q (i,d,E0)) _;unfold kkN;dsimp only;repeat' ((conv=>whnf);first|refine cGx cA ?_|refine a0a ?_|(apply bRx<;>intro h<;>try exact aX)|exact aX|(exfalso;exact h rfl)|(exfalso;exact hE0 h)|(exfalso;first|contradiction|(simp_all;done))|exact rOx [0,1,2,3,4] a0c)
end
theorem p1J {x:Int} (h:0<=x/\x<=18446744073709551615):0<=x/\x<2^64:=by
 omega
theorem booksKeeps_fc (l0_0:Nat) (hl0_0:l0_0<=maxLen) (q0_0_0:List BA) (eq0_0_0:q0_0_0.length=l0_0) (wq0_0_0:∀x∈q0_0_0,x.size<=maxLen) (x0_1:BA) (hx0_1:x0_1.size<=maxLen) (l0_2:Nat) (hl0_2:l0_2<=maxLen) (q0_2_0:List Int) (eq0_2_0:q0_2_0.length=l0_2) (wq0_2_0:∀x∈q0_2_0,(Lit.int .i64 x).wf=true) (x0_3:Int) (hx0_3:(Lit.int .i64 x0_3).wf=true) (x0_4:Int) (hx0_4:(Lit.int .i64 x0_4).wf=true) (n1:Int) (hw1:(Lit.int .i64 n1).wf=true) (l2:Nat) (hl2:l2<=maxLen) (ns2:List Nat) (ens2:ns2.length=l2) (hns2:∀i,i<l2->ns2.getD i 0<=maxLen) (q2_1:List Bool) (eq2_1:q2_1.length=l2) (q2_2:List Int) (eq2_2:q2_2.length=l2) (wq2_2:∀x∈q2_2,(Lit.int .i64 x).wf=true) (q2_3:List Int) (eq2_3:q2_3.length=l2) (wq2_3:∀x∈q2_3,(Lit.int .u64 x).wf=true) (z2_0:Nat->List Int) (ez2_0:∀i,i<l2->(z2_0 i).length=ns2.getD i 0) (wz2_0:∀i,i<l2->∀x∈z2_0 i,(Lit.int .i64 x).wf=true) (z2_1:Nat->List Int) (ez2_1:∀i,i<l2->(z2_1 i).length=ns2.getD i 0) (wz2_1:∀i,i<l2->∀x∈z2_1 i,(Lit.int .i64 x).wf=true) (z2_2:Nat->List BA) (ez2_2:∀i,i<l2->(z2_2 i).length=ns2.getD i 0) (wz2_2:∀i,i<l2->∀x∈z2_2 i,x.size<=maxLen) (z2_3:Nat->List BA) (ez2_3:∀i,i<l2->(z2_3 i).length=ns2.getD i 0) (wz2_3:∀i,i<l2->∀x∈z2_3 i,x.size<=maxLen) (z2_4:Nat->List BA) (ez2_4:∀i,i<l2->(z2_4 i).length=ns2.getD i 0) (wz2_4:∀i,i<l2->∀x∈z2_4 i,x.size<=maxLen) (z2_5:Nat->List BA) (ez2_5:∀i,i<l2->(z2_5 i).length=ns2.getD i 0) (wz2_5:∀i,i<l2->∀x∈z2_5 i,x.size<=maxLen) (z2_6:Nat->List Int) (ez2_6:∀i,i<l2->(z2_6 i).length=ns2.getD i 0) (wz2_6:∀i,i<l2->∀x∈z2_6 i,(Lit.int .i64 x).wf=true) (z2_7:Nat->List Int) (ez2_7:∀i,i<l2->(z2_7 i).length=ns2.getD i 0) (wz2_7:∀i,i<l2->∀x∈z2_7 i,(Lit.int .i64 x).wf=true) (z2_8:Nat->List Bool) (ez2_8:∀i,i<l2->(z2_8 i).length=ns2.getD i 0):
  FC prog 5 3 [.agg [.sl 1 0 0 l0_0,.str x0_1,.sl 2 0 0 l0_2,.i x0_3,.i x0_4],.i n1,.sl 3 0 0 l2] [(0,some (GB glT)),(1,some (.one true (.cols l0_0 [.sc (.strs q0_0_0)]))),(2,some (.one true (.cols l0_2 [.sc (.ints .i64 q0_2_0)]))),(3,some (.one true (.cols l2 [.own 4 ns2,.sc (.bools q2_1),.sc (.ints .i64 q2_2),.sc (.ints .u64 q2_3)]))),(4,some (.fam true (fun x=>x<l2) (fun x=> .cols (ns2.getD x 0) [.sc (.ints .i64 (z2_0 x)),.sc (.ints .i64 (z2_1 x)),.sc (.strs (z2_2 x)),.sc (.strs (z2_3 x)),.sc (.strs (z2_4 x)),.sc (.strs (z2_5 x)),.sc (.ints .i64 (z2_6 x)),.sc (.ints .i64 (z2_7 x)),.sc (.bools (z2_8 x))])))] (a0g (.bool true) [] 5):=by
 subst eq0_0_0;subst eq0_2_0;exact e1R ⟨q0_0_0,x0_1,q0_2_0,x0_3,x0_4⟩ n1 ⟨⟨l2,ns2,z2_0,z2_1,z2_2,z2_3,z2_4,z2_5,z2_6,z2_7,z2_8⟩,q2_1,q2_2,q2_3⟩ hl0_2
  (fun k=>by
   by_cases q:k<q0_0_0.length
   .rw [List.getD,m0b q];exact wq0_0_0 _ (k1j _)
   .show (q0_0_0.getD k ⟨#[]⟩).size<=_;rw [List.getD,a1X oM];trivial)
  (fun i hi=>⟨ez2_0 i hi,ez2_1 i hi,ez2_2 i hi,ez2_3 i hi,ez2_4 i hi,ez2_5 i hi,ez2_6 i hi,ez2_7 i hi,ez2_8 i hi⟩)
  (fun i=>by
   by_cases q:i<q2_3.length
   .rw [List.getD,m0b q];have:=wq2_3 _ (k1j q);simp only [Lit.wf,n0M,decide_eq_true_eq] at this;exact p1J this
   simp_all)
end Go.Proofs.YtmnjebhdclmcfaaGreatDoor
