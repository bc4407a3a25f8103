/- Several texts in one: Th1. -/
import Derived.Test.YtedoefigabpmpaaGreatDoorP4
set_option linter.unusedVariables false
set_option linter.unusedSimpArgs false
set_option maxRecDepth 100000
namespace Go.Sy
abbrev t0f:=@Nat.pow_le_pow_right
abbrev u0v:=@List.sum_cons
abbrev v0u:=@Int.tmod_eq_emod_of_nonneg
abbrev z0D:=@Int.tdiv_eq_ediv_of_nonneg
abbrev z0E:=@List.ext_getElem?
abbrev z0L:=@Nat.div_div_eq_div_mul
abbrev z0M:=@List.getElem?_set_self
abbrev z0S:=@List.getElem?_set_ne
abbrev z0U:=@Int.toNat_of_nonneg
abbrev z0Z:=@Nat.pow_succ
abbrev z0i:=@List.getElem?_replicate
abbrev z0s:=@List.length_filter_le
abbrev z0t:=@List.length_replicate
end Go.Sy
namespace Go.Sy
open Go.RowKit
theorem u0E {n:Int} (h:0<=n) (h':n<=4294967295):IntKind.u32.wrap n=n:=IntWalk.u32_in n ⟨h,h'⟩
theorem h0x {n:Int} (h:0<=n) (h':n<=18446744073709551615):IntKind.u64.wrap n=n:=IntWalk.u64_in n ⟨h,h'⟩
theorem q0g {n:Int} (h:0<=n) (h':n<=255):IntKind.u8.wrap n=n:=IntWalk.u8_in n ⟨h,h'⟩
theorem f0m {k:IntKind} {x:Int} (n:Nat) (h:n<=k.bits):l0F k x (n:Int)=x/2^n:=by
 unfold l0F;rw [s0b,Nat.min_eq_left h,Int.fdiv_eq_ediv_of_nonneg];exact Int.pow_nonneg (by omega)
theorem f0n {x:Int}:l0F .u64 x 8=x/256:=f0m (k:= .u64) 8 (by decide)
theorem d0U {x:Int}:l0F .u64 x 16=x/65536:=f0m (k:= .u64) 16 (by decide)
theorem d0V {x:Int}:l0F .u64 x 32=x/4294967296:=f0m (k:= .u64) 32 (by decide)
theorem d0W {x:Int}:l0F .i64 x 18=x/262144:=f0m (k:= .i64) 18 (by decide)
abbrev a0A:=And.intro @a0r (And.intro @u0E (And.intro @h0x (And.intro @q0g (And.intro @f0n (And.intro @d0U (And.intro @d0V (And.intro @d0W (And.intro @v0u (And.intro @z0D (And.intro @s0b @s0d))))))))))
theorem h0S {s:ByteArray} {x:Int} {n:Nat} (h:s.size=n) (k:x<(n:Int)):x<(s.size:Int):=by rw [h];exact k
theorem w0t {s:ByteArray} {x:Int} {n:Nat} (h:s.size=n) (k:x<=(n:Int)):x<=(s.size:Int):=by rw [h];exact k
def h0y:Nat->Nat->List Int
 |0,_=> []
 |n+1,u=>h0y n (u/10)++ [((48+u%10:Nat):Int)]
theorem a0l:∀n u,(h0y n u).length=n
 |0,_=>rfl
 |n+1,u=>by simp [h0y,a0l n]
theorem d0X:∀(n u i:Nat),i<n->(h0y n u)[i]? =some ((48+u/10^(n-1-i)%10:Nat):Int)
 |0,_,i,h=>by omega
 |n+1,u,i,h=>by
  simp only [h0y];by_cases e:i<n
  .rw [m0j (by rw [a0l];exact e),d0X n (u/10) i e,z0L,show 10*10^(n-1-i)=10^(n+1-1-i) from by rw [<-Nat.pow_succ'];congr 1;omega]
  .have e':i=n:=by omega
   subst e';rw [m0f (by rw [a0l];exact h0Z _),a0l];simp
def b0Q (u:Nat):Nat:=if u<10 then 1 else b0Q (u/10)+1
termination_by u
decreasing_by omega
theorem g0w (u:Nat):0<b0Q u:=by rw [b0Q];split<;>omega
theorem j0G (u:Nat):u<10^b0Q u:=by
 induction u using Nat.strongRecOn with
 |_ u ih=>
  rw [b0Q];split
  .simpa using ‹u<10›
  .have:=ih (u/10) (by omega);rw [z0Z];omega
theorem m0l (u:Nat) (h:1<=u):10^(b0Q u-1)<=u:=by
 induction u using Nat.strongRecOn with
 |_ u ih=>
  rw [b0Q];split
  .simpa using h
  .have:=ih (u/10) (by omega) (by omega);have hp:=g0w (u/10);rw [show b0Q (u/10)+1-1=(b0Q (u/10)-1)+1 from by omega,z0Z];omega
theorem h0z {u k:Nat} (h1:10^k<=u) (h2:u<10^(k+1)):b0Q u=k+1:=by
 have hu:1<=u:=w0q (Nat.one_le_pow _ _ (by omega)) h1;have a:=j0G u;have b:=m0l u hu;have hp:=g0w u;rcases x0A (b0Q u) (k+1) with h|h|h
 .have:10^b0Q u<=10^k:=t0f (by omega) (by omega);omega
 .exact h
 .have:10^(k+1)<=10^(b0Q u-1):=t0f (by omega) (by omega);omega
def dec (u:Nat):ByteArray:=a0u (h0y (b0Q u) u)
def l0d (n:Int):ByteArray:=if n<0 then a0u (45::h0y (b0Q n.natAbs) n.natAbs) else dec n.toNat
def c0H (u:Nat):Nat:=if u=0 then 0 else u.log2+1
theorem m0m (u:Nat):u<2^c0H u:=by
 unfold c0H;split
 .omega
 .exact Nat.lt_log2_self
theorem h0A (u:Nat) (h:1<=u):2^(c0H u-1)<=u:=by
 unfold c0H;rw [if_neg (by omega),Nat.add_sub_cancel];exact Nat.log2_self_le (by omega)
theorem m0n {u k:Nat} (h1:2^k<=u) (h2:u<2^(k+1)):c0H u=k+1:=by
 have hu:1<=u:=w0q (Nat.one_le_pow _ _ (by omega)) h1;have a:=m0m u;have b:=h0A u hu;have hp:0<c0H u:=by unfold c0H;rw [if_neg (by omega)];omega
 rcases x0A (c0H u) (k+1) with h|h|h
 .have:2^c0H u<=2^k:=t0f (by omega) (by omega);omega
 .exact h
 .have:2^(k+1)<=2^(c0H u-1):=t0f (by omega) (by omega);omega
theorem l0e {u:Nat} (h:u<2^64):c0H u<=64:=by
 rcases m0k 64 (c0H u) with h1|h1
 .have hu:1<=u:=by
   rcases o0B u with e|e
   .subst e;simp [c0H] at h1
   .exact e
  have a:=h0A u hu;have:2^64<=2^(c0H u-1):=t0f (by omega) (by omega);omega
 .exact h1
theorem o0E (u k:Nat) (h:2^k<=u):c0H u=k+c0H (u/2^k):=by
 have h1:1<=u/2^k:=(Nat.one_le_div_iff (Nat.two_pow_pos k)).2 h;have a:=m0m (u/2^k);have b:=h0A (u/2^k) h1;have hp:0<c0H (u/2^k):=by unfold c0H;rw [if_neg (by omega)];omega
 have:c0H u=(k+c0H (u/2^k)-1)+1:=by
  refine m0n ?_ ?_
  .rw [show k+c0H (u/2^k)-1=(c0H (u/2^k)-1)+k from by omega,Nat.pow_add];exact (Nat.le_div_iff_mul_le (Nat.two_pow_pos k)).1 b
  .rw [show k+c0H (u/2^k)-1+1=c0H (u/2^k)+k from by omega,Nat.pow_add];exact (y0L (Nat.two_pow_pos k)).1 a
 omega
theorem l0f:∀L,L<=64->1<=L->10^(L*78913/2^18)<=2^L/\2^L<=10^(L*78913/2^18+1)/\(L*78913/2^18=0\/10^(L*78913/2^18-1)<=2^(L-1)):=by
 decide+kernel
theorem s0g {u:Nat} (h1:1<=u) (h2:u<2^64):b0Q u=c0H u*78913/2^18+(if 10^(c0H u*78913/2^18)<=u then 1 else 0):=by
 have hp:1<=c0H u:=by unfold c0H;rw [if_neg (by omega)];omega
 obtain ⟨a,b,c⟩:=l0f (c0H u) (l0e h2) hp;have d:=m0m u;have e:=h0A u h1;generalize c0H u*78913/2^18=k at*;split
 .exact h0z ‹_› (v0J d b)
 .rcases c with c|c
  .subst c;rename_i h;simp at h;omega
  .have hk:k≠0:=by intro h;subst h;rename_i h;simp at h;omega
   have:=h0z (u:=u) (k:=k-1) (w0q c e) (by rw [show k-1+1=k from by omega];omega);omega
def w0u (s:ByteArray) (n:Nat) (f:Nat->Nat):Bool:=decide (s.size=n)&&(List.range n).all (fun i=>Nat.beq (s.data.toList.getD i 0).toNat (f i))
theorem j0H {s:ByteArray} {n:Nat} {f:Nat->Nat} (h:w0u s n f=true) {i:Nat} (hi:i<n):a0f s (i:Int)=(f i:Int):=by
 unfold w0u at h;simp only [e0z,y0j,w0s] at h;unfold a0f;rw [s0b,d0I (h.2 i hi)]
def smF (i:Nat):Nat:=if i%2=0 then 48+i/20 else 48+i/2%10
theorem f0o {s:ByteArray} (h:w0u s 200 smF=true) {y:Int} (h0:0<=y) (h1:y<100):a0f s (y*2+1)=48+y%10:=by
 have e:y*2+1=((y.toNat*2+1:Nat):Int):=by omega
 rw [e,j0H h (by omega)];unfold smF;rw [if_neg (by omega)];omega
theorem d0n {s:ByteArray} (h:w0u s 200 smF=true) {y:Int} (h0:0<=y) (h1:y<100):a0f s (y*2)=48+y/10:=by
 have e:y*2=((y.toNat*2:Nat):Int):=by omega
 rw [e,j0H h (by omega)];unfold smF;rw [if_pos (by omega)];omega
def m0o (l:List Int) (N o n U m:Nat):List Int:=(List.range N).map (fun x=>if o+n-m<=x/\x<o+n then ((48+U/10^(o+n-1-x)%10:Nat):Int) else l.getD x 0)
theorem h0B (l:List Int) (N o n U m:Nat):(m0o l N o n U m).length=N:=by simp [m0o]
theorem l0g {l:List Int} {N o n U:Nat} (h:l.length=N):m0o l N o n U 0=l:=by
 apply z0E;intro i;simp only [m0o,m0i];by_cases hi:i<N
 .rw [x0K hi];simp only [l0C];rw [if_neg (by omega),List.getD,f0N (by omega)];rfl
 .rw [h0t (by simp;omega),h0t (by omega)];rfl
theorem a0n {l:List Int} {N o n U m i:Nat} {v:Int} (hm:m<n) (hN:o+n<=N) (hi:i=o+n-m-1) (hv:v=((48+U/10^m%10:Nat):Int)):(m0o l N o n U m).set i v=m0o l N o n U (m+1):=by
 subst hi;apply z0E;intro x;rw [z0j,h0B];by_cases e:o+n-m-1=x
 .subst e;rw [if_pos rfl,if_pos (by omega)];simp only [m0o,m0i];rw [x0K (by omega)];simp only [l0C];rw [if_pos (by omega),hv,show o+n-1-(o+n-m-1)=m from by omega]
 .rw [if_neg e];simp only [m0o,m0i];by_cases hx:x<N
  .rw [x0K hx];simp only [l0C];by_cases h2:o+n-m<=x/\x<o+n
   .rw [if_pos h2,if_pos (by omega)]
   .rw [if_neg h2,if_neg (by omega)]
  .rw [h0t (by simp;omega)];rfl
theorem j0I {l:List Int} {N o n U:Nat} (hN:o+n<=N):seg o n (m0o l N o n U n)=h0y n U:=by
 apply z0E;intro i;unfold seg;by_cases hi:i<n
 .rw [w0p,if_pos hi,z0A,d0X _ _ _ hi];simp only [m0o,m0i];rw [x0K (by omega)];simp only [l0C];rw [if_pos (by omega),show o+n-1-(o+i)=n-1-i from by omega]
 .rw [w0p,if_neg hi,h0t (by rw [a0l];omega)]
theorem a0E (U m j:Nat):U/10^(m+j)=U/10^m/10^j:=by rw [Nat.pow_add,z0L]
attribute [irreducible] m0o dec l0d
theorem s0h {L:List Int} {n:Nat} {v:Int} (h:0<L.length):seg 0 (1+n) (L.set 0 v)=v::seg 1 n L:=by
 cases L with
 |nil=>simp at h
 |cons x l=>simp [seg,Nat.add_comm 1 n]
end Go.Sy
namespace Go.Proofs.YtedoefigabpmpaaGreatDoor
open Go.RowKit Go.Sy
section
attribute [local irreducible] a0G a0H a0q b0H
theorem a0C {k:Nat} (h:k<9223372036854775806):IntKind.i64.wrap ((k:Int)+1)=((k+1:Nat):Int):=by rw [a0r (by omega) (by omega)];rfl
def q0h (s:ByteArray) (i:Nat):Bool:=decide (65<=a0f s (i:Int))&&decide (a0f s (i:Int)<=90)
def e0l (s:ByteArray):Nat->Bool
 |0=>true
 |k+1=>e0l s k&&q0h s k
def g0o (s:ByteArray):Bool:=decide (s.size=3)&&e0l s s.size
theorem l0h {s:ByteArray} {k n:Nat} (h:k<n) (hc:q0h s k=false):e0l s n=false:=by
 induction n with
 |zero=>omega
 |succ n ih=>
  simp only [e0l];by_cases e:k=n
  .subst e;simp [hc]
  .rw [ih (by omega)];rfl
theorem c0s {s:ByteArray} {k:Nat} (h:k<s.size) (hc:a0f s (k:Int)<65\/90<a0f s (k:Int)):g0o s=false:=by
 have:q0h s k=false:=by unfold q0h;simp;omega
 unfold g0o;rw [l0h h this];simp
theorem h0C {s:ByteArray} (h:s.size≠3):g0o s=false:=by unfold g0o;simp [h]
theorem e0E {s:ByteArray} {k:Nat} (h:e0l s k=true) (h1:¬a0f s (k:Int)<65) (h2:¬90<a0f s (k:Int)):e0l s (k+1)=true:=by
 simp only [e0l,h,q0h];simp;omega
attribute [irreducible] g0o
theorem g0p (s:ByteArray):b0C Tryz.prog 106 [.str s] (.bool (g0o s)):=by
 refine fEx Tryz.func106 ?_;repeat' ((conv=>whnf);first|refine a0a ?_|(apply bRx<;>intro h<;>try (exfalso;(try dsimp only at h);omega)))
 all_goals (conv=>whnf)
 .exact a0d (by rw [h0C (by omega)];rfl)
 .refine a0m (fun k:Nat=>⟨[(0,.str s),(8,.int .i64 s.size),(9,.int .i64 k)],[],1⟩) (fun k=>k<=s.size/\e0l s k=true) (fun k=>s.size-k) 0 [0] [] wHx ⟨by omega,rfl⟩ ?_;rintro k ⟨hk,hc⟩;repeat' ((conv=>whnf);first|refine a0a ?_|(apply bRx<;>intro h<;>try (exfalso;(try dsimp only at h);omega)))
  all_goals (conv=>whnf)
  .exact a0d (by rw [c0s (k:=k) (by omega) (by omega)];rfl)
  .exact a0d (by rw [c0s (k:=k) (by omega) (by omega)];rfl)
  .exact ⟨k+1,[0],[],⟨by omega,e0E hc (by omega) (by omega)⟩,by omega,⟨rfl,⟨rfl,rfl,congrArg (fun z=>some (SV.int .i64 z)) (a0C (by omega)),trivial⟩,trivial⟩⟩
  .have e:k=s.size:=by omega
   subst e;refine a0d ?_;have:g0o s=true:=by unfold g0o;rw [hc];simp;omega
   rw [this];rfl
end
section
attribute [local irreducible] a0G a0H a0q b0H
def exS:List ByteArray:= [⟨#[74,80,89]⟩,⟨#[75,82,87]⟩,⟨#[86,78,68]⟩,⟨#[67,76,80]⟩,⟨#[73,83,75]⟩,⟨#[66,72,68]⟩,⟨#[75,87,68]⟩,⟨#[74,79,68]⟩,⟨#[79,77,82]⟩,⟨#[84,78,68]⟩]
def exN:List Int:= [0,0,0,0,0,3,3,3,3,3]
def i0I (s:ByteArray):Nat->Nat->Int
 |0,_=>2
 |n+1,k=>if exS.getD k ⟨#[]⟩=s then exN.getD k 0 else i0I s n (k+1)
def u0F (s:ByteArray):Int:=if g0o s=true then i0I s 10 0 else 0
attribute [irreducible] u0F
theorem h0T (s:ByteArray):p0a Tryz.prog glT 69 [.str s] (.tup [.int .i64 (u0F s),.bool (g0o s)]):=by
 refine fEx Tryz.func69 ?_;repeat' ((conv=>whnf);first|refine cPx (g0p _) ?_|refine a0a ?_|(apply bRx<;>intro h<;>try (exfalso;(try dsimp only at h);omega)))
 all_goals (conv=>whnf)
 .exact a0d (by simp [u0F,c0X,h,cv])
 .have hcur:=h;clear h;refine a0m (fun k:Nat=>⟨[(0,.str s),(9,.arr 10 [.strs exS,.ints .i64 exN]),(10,.int .i64 k)],[],1⟩) (fun k=>k<=10/\i0I s (10-k) k=i0I s 10 0) (fun k=>10-k) 0 [0] [] wHx ⟨by omega,rfl⟩ ?_;rintro k ⟨hk,hc⟩;repeat' ((conv=>whnf);first|refine a0a ?_|(apply bRx<;>intro h<;>try (exfalso;(try dsimp only at h);omega)))
  all_goals (conv=>whnf)
  .refine a0d ?_;have e:u0F s=exN.getD k 0:=by
    unfold u0F;rw [if_pos hcur,<-hc,show 10-k=(10-k-1)+1 from by omega,i0I,if_pos (by assumption)]
   rw [e,hcur];rfl
  .refine ⟨k+1,[0],[],⟨by omega,?_⟩,by omega,⟨rfl,⟨rfl,rfl,congrArg (fun z=>some (SV.int .i64 z)) (a0C (by omega)),trivial⟩,trivial⟩⟩;rw [<-hc,show 10-k=(10-(k+1))+1 from by omega,i0I,if_neg (by assumption)]
  .have e:k=10:=by omega
   subst e;refine a0d ?_;have:u0F s=2:=by unfold u0F;rw [if_pos hcur,<-hc];rfl
   rw [this,hcur];rfl
end
section
attribute [local irreducible] a0G a0H a0q b0H
def idC (c:Int):Prop:=(97<=c/\c<=122)\/(65<=c/\c<=90)\/(48<=c/\c<=57)\/c=95\/c=45
instance (c:Int):Decidable (idC c):=by unfold idC;infer_instance
def idB (s:ByteArray):Bool:=decide (∀k,k<s.size->idC (a0f s (k:Int)))&&decide (1<=s.size)&&decide (s.size<=16)
theorem w0v {s:ByteArray} {k:Nat} (h:k<s.size) (hc:¬idC (a0f s (k:Int))):idB s=false:=by
 unfold idB;rw [decide_eq_false (fun hh=>hc (hh k h))];rfl
theorem m0p {s:ByteArray} (h:∀k,k<s.size->idC (a0f s (k:Int))):idB s=(decide (1<=s.size)&&decide (s.size<=16)):=by
 unfold idB;rw [decide_eq_true h];rfl
attribute [irreducible] idB
theorem u0G {s:ByteArray} {k:Nat} (h:∀i,i<k->idC (a0f s (i:Int))) (hk:idC (a0f s (k:Int))):∀i,i<k+1->idC (a0f s (i:Int)):=by
 intro i hi;by_cases e:i=k
 .subst e;exact hk
 .exact h i (by omega)
theorem d0J {k:Nat} (h:k<9223372036854775807):IntKind.i64.wrap ((k:Int)+1)=((k+1:Nat):Int):=by rw [a0r (by omega) (by omega)];rfl
theorem u0H {s:ByteArray} (h:¬s=⟨#[]⟩):1<=s.size:=by
 rcases o0B s.size with e|e
 .exact absurd (ByteArray.ext (t0i e)) h
 .exact e
theorem n0A (s:ByteArray) (hs:s.size<=9223372036854775807):b0C Tryz.prog 136 [.str s] (.bool (idB s)):=by
 refine fEx Tryz.func136 ?_
 (conv=>whnf)
 refine a0m (fun k:Nat=>⟨[(0,.str s),(6,.str s),(7,.int .i64 s.size),(8,.int .i64 k)],[],1⟩) (fun k=>k<=s.size/\∀i,i<k->idC (a0f s (i:Int))) (fun k=>s.size-k) 0 [0] [] wHx ⟨by omega,fun i hi=>by omega⟩ ?_;rintro k ⟨hk,hc⟩;repeat' ((conv=>whnf);first|refine a0a ?_|(apply bRx<;>intro h<;>try (exfalso;(try dsimp only at h);omega)))
 all_goals (conv=>whnf)
 all_goals first
  |exact a0d (by rw [w0v (k:=k) (by omega) (by unfold idC;omega)];rfl)
  |exact ⟨k+1,[0],[],⟨by omega,u0G hc (by unfold idC;omega)⟩,by omega,⟨rfl,⟨rfl,rfl,rfl,congrArg (fun z=>some (SV.int .i64 z)) (d0J (by omega)),trivial⟩,trivial⟩⟩
  |skip
 .have hne:=u0H h;have e:k=s.size:=by omega
  subst e;refine a0d ?_;rw [m0p hc,decide_eq_true hne];show _=SV.bool (true&&decide (s.size<=16));rw [y0g];exact congrArg SV.bool (decide_eq_decide.2 (by omega))
 .have e:k=s.size:=by omega
  rw [e] at hc;refine a0d ?_;rw [m0p hc,h];rfl
def amB (n:Int):Bool:=decide (1<=n)&&decide (n<=999999999999)
theorem h0D {n:Int}:amB n=true↔1<=n/\n<=999999999999:=by unfold amB;simp
theorem l0i {n:Int}:amB n=false↔¬(1<=n/\n<=999999999999):=by rw [<-h0D];simp
attribute [irreducible] amB
theorem g0f (n:Int):b0C Tryz.prog 123 [.int .i64 n] (.bool (amB n)):=by
 refine fEx Tryz.func123 ?_;repeat' ((conv=>whnf);first|refine a0a ?_|(apply bRx<;>intro h<;>try (exfalso;(try dsimp only at h);omega)))
 all_goals (conv=>whnf)
 .refine a0d (congrArg SV.bool ?_);by_cases hh:n<=999999999999
  .rw [h0D.2 ⟨h,hh⟩];exact decide_eq_true hh
  .rw [l0i.2 (fun x=>hh x.2)];exact decide_eq_false hh
 .refine a0d (congrArg SV.bool ?_);rw [l0i.2 (fun x=>h x.1)]
structure Acc where
 bal:Int
 lim:Int
 n:Nat
 ks:List ByteArray
 vs:List Int
 bs:List Nat
 ck:Nat
abbrev n0B (a:Acc):a0g:= [(1,some (.one false (.cells [.int .i64 a.bal,.int .i64 a.lim,.map 2 0]))),(2,some (.one false (.obj (.map false false a.n [.strs a.ks] [.sc (.ints .i64 a.vs)] a.bs a.ck))))]
abbrev w0w (a:Acc):a0g:= [(1,some (.one true (.cells [.int .i64 a.bal,.int .i64 a.lim,.map 2 0]))),(2,some (.one true (.obj (.map false false a.n [.strs a.ks] [.sc (.ints .i64 a.vs)] a.bs a.ck))))]
def Acc.has (a:Acc) (id:ByteArray):Bool:=decide (a0k a.ks id<a.n)
abbrev Acc.get (a:Acc) (id:ByteArray):Int:=a.vs.getD (a0k a.ks id) 0
def Acc.newE (a:Acc) (id:ByteArray):Int:=if idB id=false then 5 else if a0k a.ks id<a.n then 7 else if 64<=a.n then 12 else 0
theorem l0j (a:Acc) (id:ByteArray) (hs:id.size<=9223372036854775807):FC Tryz.prog 3 161 [.ptr 1 0 0 0,.str id] (w0w a) (a0h (.int .i64 (a.newE id)) [] 3):=by
 refine fEx Tryz.func161 ?_;repeat' ((conv=>whnf);first|refine cPx (n0A _ hs) ?_|refine a0a ?_|(apply bRx<;>intro h<;>try (exfalso;(try dsimp only at h);omega)))
 all_goals (conv=>whnf)
 .have e:a.newE id=5:=by unfold Acc.newE;rw [if_pos h]
  rw [e];exact rOx [0,1,2] a0c
 .have e:a.newE id=7:=by unfold Acc.newE;rw [if_neg (by simp_all),if_pos (by assumption)]
  rw [e];exact rOx [0,1,2] a0c
 .have e:a.newE id=12:=by unfold Acc.newE;rw [if_neg (by simp_all),if_neg (by assumption),if_pos (by omega)]
  rw [e];exact rOx [0,1,2] a0c
 .have e:a.newE id=0:=by unfold Acc.newE;rw [if_neg (by simp_all),if_neg (by assumption),if_neg (by omega)]
  rw [e];exact rOx [0,1,2] a0c
def Acc.del (a:Acc) (id:ByteArray):Acc:=⟨a.bal,a.lim,if a0k a.ks id<a.n then a.n-1 else a.n,a.ks.eraseIdx (a0k a.ks id),a.vs.eraseIdx (a0k a.ks id),a.bs.eraseIdx (a0k a.ks id),a.ck⟩
def Acc.put (a:Acc) (id:ByteArray) (m:Int):Acc:=⟨a.bal,a.lim,if a0k a.ks id<a.n then a.n else a.n+1,b0w (a0k a.ks id) id a.ks,b0w (a0k a.ks id) m a.vs,if a0k a.ks id<a.n then a.bs else a.bs++ [a.ck],if a0k a.ks id<a.n then a.ck else a.ck+1⟩
def Acc.set (a:Acc) (id:ByteArray) (m:Int):Acc:=if m=0 then a.del id else a.put id m
theorem m0q (a:Acc) (id:ByteArray) (m:Int):FC Tryz.prog 3 48 [.ptr 1 0 0 0,.str id,.int .i64 m] (n0B a) (a0h (.tup []) (n0B (a.set id m)) 3):=by
 refine fEx Tryz.func48 ?_;repeat' ((conv=>whnf);first|refine a0a ?_|(apply bRx<;>intro h<;>try (exfalso;(try dsimp only at h);omega)))
 all_goals (conv=>whnf)
 .have e:a.set id m=a.del id:=by unfold Acc.set;rw [if_pos h]
  rw [e];exact rOx [0,1,2] (a0b (a0b a0c))
 .have e:a.set id m=a.put id m:=by unfold Acc.set;rw [if_neg h]
  rw [e];exact rOx [0,1,2] (a0b (a0b a0c))
attribute [irreducible] Acc.newE
def o0F (vs:List Int) (sn:List Nat):Int:=(sn.map (fun i=>vs.getD i 0)).sum
theorem i0G {n:Nat} {sn:List Nat} (hd:sn.Nodup) (hl:∀i∈sn,i<n) (ha:∀i,i<n->i∈sn):sn.Perm (List.range n):=by
 refine (List.perm_ext_iff_of_nodup hd List.nodup_range).2 fun i=> ?_
 rw [w0s];exact ⟨hl i,ha i⟩
theorem e0k {α:Type} (l:List α) (d:α):(List.range l.length).map (fun i=>l.getD i d)=l:=by
 refine z0n (by simp) ?_;intro i h1 h2;simp [List.getD,h2]
theorem s0i {l m:List Int} (h:l.Perm m):l.sum=m.sum:=by
 induction h with
 |nil=>rfl
 |cons x _ ih=>simp [ih]
 |swap x y l=>simp;omega
 |trans _ _ a b=>exact a.trans b
theorem q0i {vs:List Int} {n:Nat} {sn:List Nat} (hn:vs.length=n) (hd:sn.Nodup) (hl:∀i∈sn,i<n) (ha:∀i,i<n->i∈sn):o0F vs sn=vs.sum:=by
 subst hn;unfold o0F;have:=s0i ((i0G hd hl ha).map (fun i=>vs.getD i 0));rw [this,e0k]
theorem j0J (n:Int):IntKind.i64.wrap n=(n+9223372036854775808)%18446744073709551616-9223372036854775808:=by
 simp only [IntKind.wrap,IntKind.signed,IntKind.bits,y0g,decide_eq_true_eq,Int.reducePow,Nat.reduceSub,ge_iff_le];split<;>omega
theorem n0C (x y:Int):IntKind.i64.wrap (IntKind.i64.wrap x+y)=IntKind.i64.wrap (x+y):=by
 rw [j0J,j0J,j0J];omega
end
section
attribute [local irreducible] a0G a0H a0q b0H
theorem c0F:∀(n:Nat) (sn:List Nat),sn.Nodup->(∀i∈sn,i<n)->sn.length<=n
 |0,sn,_,h=>by cases sn with|nil=>simp|cons x r=>exact absurd (h x (by simp)) (by omega)
 |n+1,sn,hd,h=>by
  by_cases hm:n∈sn
  .have:=c0F n (sn.erase n) (hd.erase n) (fun i hi=>by
    have h1:=h i (List.mem_of_mem_erase hi);have h2:i≠n:=fun e=>by subst e;exact (hd.not_mem_erase) hi
    omega)
   rw [List.length_erase_of_mem hm] at this;omega
  .have:=c0F n sn hd (fun i hi=>by
    have h1:=h i hi;have h2:i≠n:=fun e=>by subst e;exact hm hi
    omega)
   omega
theorem f0l {n i:Nat} {sn:List Nat} (hd:sn.Nodup) (h:∀i∈sn,i<n) (hi:i<n) (hn:¬i∈sn):sn.length<n:=by
 have:=c0F n (i::sn) (z0K.2 ⟨hn,hd⟩) (fun x hx=>by rcases j0x.1 hx with rfl|hx;exact hi;exact h x hx);simp only [s0a] at this;omega
def Acc.held (a:Acc):Int:=IntKind.i64.wrap a.vs.sum
def Acc.avail (a:Acc):Int:=IntKind.i64.wrap (IntKind.i64.wrap (a.bal+a.lim)-a.held)
theorem n0D (a:Acc) (hv:a.vs.length=a.n):FC Tryz.prog 3 31 [.ptr 1 0 0 0] (w0w a) (a0h (.int .i64 a.held) [] 3):=by
 refine fEx Tryz.func31 ?_;repeat' ((conv=>whnf);first|refine a0a ?_|(apply bRx<;>intro h<;>try (exfalso;(try dsimp only at h);omega)))
 all_goals (conv=>whnf)
 refine a0m (fun sn:List Nat=>⟨[(12,.ptr 3 0 0 0),(3,.int .i64 (IntKind.i64.wrap (o0F a.vs sn)))],(3,some (.one false (.obj (.iter 2 0 a.bs a.ck sn))))::w0w a,4⟩) (fun sn=>sn.Nodup/\∀i∈sn,i<a.n) (fun sn=>a.n-sn.length) [] [0,1,2,3] [] wHx ⟨z0N,by simp⟩ ?_;rintro sn ⟨hd,hl⟩;repeat' ((conv=>whnf);first|(refine ⟨⟨rfl,rfl⟩,fun i hi hni=> ?_,fun hall=> ?_⟩)|refine a0a ?_|(apply bRx<;>intro h<;>try (exfalso;(try dsimp only at h);omega)))
 all_goals (conv=>whnf)
 .have:=f0l hd hl hi hni;refine ⟨i::sn,[0,1,2,3],[],⟨z0K.2 ⟨hni,hd⟩,fun x hx=> ?_⟩,by simp only [s0a];omega,⟨rfl,⟨rfl,?_,trivial⟩,⟨rfl,rfl,rfl,trivial⟩⟩⟩
  .rcases j0x.1 hx with rfl|hx
   .exact hi
   .exact hl x hx
  .refine congrArg (fun z=>some (SV.int .i64 z)) ?_;show IntKind.i64.wrap (IntKind.i64.wrap (o0F a.vs sn)+a.vs.getD i 0)=_;rw [n0C];unfold o0F;rw [u0z,u0v,Int.add_comm]
 .have e:a.held=IntKind.i64.wrap (o0F a.vs sn):=by unfold Acc.held;rw [q0i hv hd hl hall]
  rw [e];exact rOx [0,1,2] a0c
theorem m0r (a:Acc):FC Tryz.prog 3 30 [.ptr 1 0 0 0] (w0w a) (a0h (.int .i64 a.bal) [] 3):=by
 refine fEx Tryz.func30 ?_;repeat' ((conv=>whnf);first|refine a0a ?_|(apply bRx<;>intro h<;>try (exfalso;(try dsimp only at h);omega)))
 all_goals (conv=>whnf)
 all_goals exact rOx [0,1,2] a0c
theorem j0K (a:Acc) (hv:a.vs.length=a.n):FC Tryz.prog 3 124 [.ptr 1 0 0 0] (w0w a) (a0h (.int .i64 a.avail) [] 3):=by
 have c:=n0D a hv;refine fEx Tryz.func124 ?_;repeat' ((conv=>whnf);first|refine cOx (l:= [0,1,2]) c ?_|refine a0a ?_|(apply bRx<;>intro h<;>try (exfalso;(try dsimp only at h);omega)))
 all_goals (conv=>whnf)
 all_goals exact rOx [0,1,2] a0c
end
section
attribute [local irreducible] a0G a0H a0q b0H
attribute [local irreducible] Acc.avail Acc.held
theorem aw (a:Acc):e0r (n0B a):=a0b (a0b a0c)
theorem rt {a:Acc} {r r0:SV} {vs:VS} (hr:r=r0) (hh:a0X (rho [0,1,2] vs.next) (n0B a) vs.heap) (hr0:SV.ren (rho [0,1,2] vs.next) r0=r0:=by rfl) (hl:e0P [0,1,2] vs.next=true:=by rfl):b0H 3 (a0h r0 (n0B a) 3) r vs:=by
 subst hr;exact a0y (l:= [0,1,2]) (by rw [hl];rfl) hr0.symm hh (aw a)
def Acc.upE (a:Acc) (id:ByteArray) (n l:Int):Int:=if¬(1<=n/\n<=999999999999)\/l<1\/n<l then 4 else if a.newE id≠0 then a.newE id else if a.avail<l then 16 else 0
def Acc.upV (a:Acc) (id:ByteArray) (n l:Int):Int:=if a.upE id n l=0 then min n a.avail else 0
def Acc.upA (a:Acc) (id:ByteArray) (n l:Int):Acc:=if a.upE id n l=0 then a.set id (min n a.avail) else a
theorem l0k (a:Acc) (id:ByteArray) (n l:Int) (hv:a.vs.length=a.n) (hs:id.size<=9223372036854775807):FC Tryz.prog 3 131 [.ptr 1 0 0 0,.str id,.int .i64 n,.int .i64 l] (n0B a) (a0h (.tup [.int .i64 (a.upV id n l),.int .i64 (a.upE id n l)]) (n0B (a.upA id n l)) 3):=by
 have c1:=l0j a id hs;have c2:=j0K a hv;have c3:=m0q a id (min n a.avail);have am:=g0f n;have L:∀e,a.upE id n l=e->e≠0->a.upV id n l=0/\a.upA id n l=a:=by
  intro e h1 h2;unfold Acc.upV Acc.upA;rw [h1,if_neg h2,if_neg h2];exact ⟨rfl,rfl⟩
 refine fEx Tryz.func131 ?_;repeat' ((conv=>whnf);first|refine cPx am ?_|refine cOx (l:= [0,1,2]) c1 ?_|refine cOx (l:= [0,1,2]) c2 ?_|refine cOx (l:= [0,1,2]) c3 ?_|refine a0a ?_|(apply bRx<;>intro h<;>try (exfalso;(try dsimp only at h);omega)))
 all_goals (conv=>whnf)
 all_goals (try rw [l0i] at*)
 all_goals (try rw [h0D] at*)
 .have e:a.upE id n l=4:=by unfold Acc.upE;(repeat (first|rw [if_pos (by omega)]|rw [if_neg (by omega)]|rw [if_pos (by assumption)]|rw [if_neg (by assumption)]|rw [if_neg (bnf (by assumption))]))
  obtain ⟨e1,e2⟩:=L _ e (by decide);rw [e1,e2,e];exact rt rfl ⟨rfl,rfl,trivial⟩
 .have e:a.upE id n l=4:=by unfold Acc.upE;(repeat (first|rw [if_pos (by omega)]|rw [if_neg (by omega)]|rw [if_pos (by assumption)]|rw [if_neg (by assumption)]|rw [if_neg (bnf (by assumption))]))
  obtain ⟨e1,e2⟩:=L _ e (by decide);rw [e1,e2,e];exact rt rfl ⟨rfl,rfl,trivial⟩
 .have e:a.upE id n l=4:=by unfold Acc.upE;(repeat (first|rw [if_pos (by omega)]|rw [if_neg (by omega)]|rw [if_pos (by assumption)]|rw [if_neg (by assumption)]|rw [if_neg (bnf (by assumption))]))
  obtain ⟨e1,e2⟩:=L _ e (by decide);rw [e1,e2,e];exact rt rfl ⟨rfl,rfl,trivial⟩
 .have e:a.upE id n l=a.newE id:=by unfold Acc.upE;(repeat (first|rw [if_pos (by omega)]|rw [if_neg (by omega)]|rw [if_pos (by assumption)]|rw [if_neg (by assumption)]|rw [if_neg (bnf (by assumption))]))
  obtain ⟨e1,e2⟩:=L _ e (by assumption);rw [e1,e2,e];exact rt rfl ⟨rfl,rfl,trivial⟩
 .have e:a.upE id n l=16:=by unfold Acc.upE;(repeat (first|rw [if_pos (by omega)]|rw [if_neg (by omega)]|rw [if_pos (by assumption)]|rw [if_neg (by assumption)]|rw [if_neg (bnf (by assumption))]))
  obtain ⟨e1,e2⟩:=L _ e (by decide);rw [e1,e2,e];exact rt rfl ⟨rfl,rfl,trivial⟩
 .have e:a.upE id n l=0:=by unfold Acc.upE;(repeat (first|rw [if_pos (by omega)]|rw [if_neg (by omega)]|rw [if_pos (by assumption)]|rw [if_neg (by assumption)]|rw [if_neg (bnf (by assumption))]))
  have e1:a.upV id n l=min n a.avail:=by unfold Acc.upV;rw [if_pos e]
  have e2:a.upA id n l=a.set id (min n a.avail):=by unfold Acc.upA;rw [if_pos e]
  rw [e1,e2,e];exact rt rfl ⟨rfl,rfl,trivial⟩
attribute [local irreducible] Acc.upE Acc.upV Acc.upA
theorem s0j (a:Acc) (id:ByteArray) (n:Int) (hv:a.vs.length=a.n) (hs:id.size<=9223372036854775807):FC Tryz.prog 3 132 [.ptr 1 0 0 0,.str id,.int .i64 n] (n0B a) (a0h (.int .i64 (a.upE id n n)) (n0B (a.upA id n n)) 3):=by
 have c1:=l0k a id n n hv hs;refine fEx Tryz.func132 ?_;repeat' ((conv=>whnf);first|refine cOx (l:= [0,1,2]) c1 ?_|refine a0a ?_|(apply bRx<;>intro h<;>try (exfalso;(try dsimp only at h);omega)))
 all_goals (conv=>whnf)
 all_goals exact rt rfl ⟨rfl,rfl,trivial⟩
def Acc.foE (a:Acc) (id:ByteArray) (n:Int):Int:=if¬(1<=n/\n<=999999999999) then 4 else if idB id=false then 5 else if 999999999999<IntKind.i64.wrap (a.vs.getD (a0k a.ks id) 0+n) then 4 else if¬a0k a.ks id<a.n/\64<=a.n then 12 else 0
def Acc.foA (a:Acc) (id:ByteArray) (n:Int):Acc:=if a.foE id n=0 then a.set id (IntKind.i64.wrap (a.vs.getD (a0k a.ks id) 0+n)) else a
def Acc.reE (a:Acc) (id:ByteArray) (n:Int):Int:=if¬a0k a.ks id<a.n then 6 else if n<1\/a.vs.getD (a0k a.ks id) 0<n then 4 else 0
def Acc.reA (a:Acc) (id:ByteArray) (n:Int):Acc:=if a.reE id n=0 then a.set id (IntKind.i64.wrap (a.vs.getD (a0k a.ks id) 0-n)) else a
theorem h0E (a:Acc) (id:ByteArray) (n:Int) (hs:id.size<=9223372036854775807):FC Tryz.prog 3 98 [.ptr 1 0 0 0,.str id,.int .i64 n] (n0B a) (a0h (.int .i64 (a.foE id n)) (n0B (a.foA id n)) 3):=by
 have c1:=n0A id hs;have c3:=m0q a id (IntKind.i64.wrap (a.get id+n));have am:=g0f n;have L:∀e,a.foE id n=e->e≠0->a.foA id n=a:=by
  intro e h1 h2;unfold Acc.foA;rw [h1,if_neg h2]
 refine fEx Tryz.func98 ?_;repeat' ((conv=>whnf);first|refine cPx am ?_|refine cPx c1 ?_|refine cOx (l:= [0,1,2]) c3 ?_|refine a0a ?_|(apply bRx<;>intro h<;>try (exfalso;(try dsimp only at h);omega)))
 all_goals (conv=>whnf)
 all_goals (try rw [l0i] at*)
 all_goals (try rw [h0D] at*)
 .have e:a.foE id n=4:=by unfold Acc.foE;(repeat (first|rw [if_pos (by omega)]|rw [if_neg (by omega)]|rw [if_pos (by assumption)]|rw [if_neg (by assumption)]|rw [if_neg (bnf (by assumption))]))
  rw [L _ e (by decide),e];exact rt rfl ⟨rfl,rfl,trivial⟩
 .have e:a.foE id n=5:=by unfold Acc.foE;(repeat (first|rw [if_pos (by omega)]|rw [if_neg (by omega)]|rw [if_pos (by assumption)]|rw [if_neg (by assumption)]|rw [if_neg (bnf (by assumption))]))
  rw [L _ e (by decide),e];exact rt rfl ⟨rfl,rfl,trivial⟩
 .have e:a.foE id n=4:=by unfold Acc.foE;(repeat (first|rw [if_pos (by omega)]|rw [if_neg (by omega)]|rw [if_pos (by assumption)]|rw [if_neg (by assumption)]|rw [if_neg (bnf (by assumption))]))
  rw [L _ e (by decide),e];exact rt rfl ⟨rfl,rfl,trivial⟩
 .have e:a.foE id n=12:=by unfold Acc.foE;(repeat (first|rw [if_pos (by omega)]|rw [if_neg (by omega)]|rw [if_pos (by assumption)]|rw [if_neg (by assumption)]|rw [if_neg (bnf (by assumption))]))
  rw [L _ e (by decide),e];exact rt rfl ⟨rfl,rfl,trivial⟩
 .have e:a.foE id n=0:=by unfold Acc.foE;(repeat (first|rw [if_pos (by omega)]|rw [if_neg (by omega)]|rw [if_pos (by assumption)]|rw [if_neg (by assumption)]|rw [if_neg (bnf (by assumption))]))
  have e2:a.foA id n=a.set id (IntKind.i64.wrap (a.get id+n)):=by unfold Acc.foA;rw [if_pos e]
  rw [e2,e];exact rt rfl ⟨rfl,rfl,trivial⟩
 .have e:a.foE id n=0:=by unfold Acc.foE;(repeat (first|rw [if_pos (by omega)]|rw [if_neg (by omega)]|rw [if_pos (by assumption)]|rw [if_neg (by assumption)]|rw [if_neg (bnf (by assumption))]))
  have e2:a.foA id n=a.set id (IntKind.i64.wrap (a.get id+n)):=by unfold Acc.foA;rw [if_pos e]
  rw [e2,e];exact rt rfl ⟨rfl,rfl,trivial⟩
theorem h0F (a:Acc) (id:ByteArray) (n:Int):FC Tryz.prog 3 22 [.ptr 1 0 0 0,.str id,.int .i64 n] (n0B a) (a0h (.int .i64 (a.reE id n)) (n0B (a.reA id n)) 3):=by
 have c3:=m0q a id (IntKind.i64.wrap (a.get id-n));have L:∀e,a.reE id n=e->e≠0->a.reA id n=a:=by
  intro e h1 h2;unfold Acc.reA;rw [h1,if_neg h2]
 refine fEx Tryz.func22 ?_;repeat' ((conv=>whnf);first|refine cOx (l:= [0,1,2]) c3 ?_|refine a0a ?_|(apply bRx<;>intro h<;>try (exfalso;(try dsimp only at h);omega)))
 all_goals (conv=>whnf)
 all_goals (try rw [l0i] at*)
 all_goals (try rw [h0D] at*)
 .have e:a.reE id n=6:=by unfold Acc.reE;(repeat (first|rw [if_pos (by omega)]|rw [if_neg (by omega)]|rw [if_pos (by assumption)]|rw [if_neg (by assumption)]|rw [if_neg (bnf (by assumption))]))
  rw [L _ e (by decide),e];exact rt rfl ⟨rfl,rfl,trivial⟩
 .have e:a.reE id n=4:=by unfold Acc.reE;(repeat (first|rw [if_pos (by omega)]|rw [if_neg (by omega)]|rw [if_pos (by assumption)]|rw [if_neg (by assumption)]|rw [if_neg (bnf (by assumption))]))
  rw [L _ e (by decide),e];exact rt rfl ⟨rfl,rfl,trivial⟩
 .have e:a.reE id n=4:=by unfold Acc.reE;(repeat (first|rw [if_pos (by omega)]|rw [if_neg (by omega)]|rw [if_pos (by assumption)]|rw [if_neg (by assumption)]|rw [if_neg (bnf (by assumption))]))
  rw [L _ e (by decide),e];exact rt rfl ⟨rfl,rfl,trivial⟩
 .have e:a.reE id n=0:=by unfold Acc.reE;(repeat (first|rw [if_pos (by omega)]|rw [if_neg (by omega)]|rw [if_pos (by assumption)]|rw [if_neg (by assumption)]|rw [if_neg (bnf (by assumption))]))
  have e2:a.reA id n=a.set id (IntKind.i64.wrap (a.get id-n)):=by unfold Acc.reA;rw [if_pos e]
  rw [e2,e];exact rt rfl ⟨rfl,rfl,trivial⟩
end
section
attribute [local irreducible] a0G a0H a0q b0H
def nwE (s:ByteArray) (b l:Int):Int:=if g0o s=false then 11 else if b< -999999999999\/999999999999<b\/l<0\/999999999999<l then 4 else 0
def Acc.mk0 (b l:Int):Acc:=⟨b,l,0,[],[],[],0⟩
theorem o0G (s:ByteArray) (b l:Int) (h0:nwE s b l=0):FC Tryz.prog 1 43 [.str s,.int .i64 b,.int .i64 l] [(0,some (GB glT))] (a0h (.tup [.ptr 1 0 0 0,.int .i64 0]) (n0B (Acc.mk0 b l)) 3):=by
 have ex:=h0T s;have hc:g0o s=true:=by unfold nwE at h0;cases h:g0o s;rw [if_pos h] at h0;omega;rfl
 have hr:¬(b< -999999999999\/999999999999<b\/l<0\/999999999999<l):=by
  intro hh;unfold nwE at h0;rw [if_neg (bnf hc),if_pos hh] at h0;omega
 rw [hc] at ex;refine fEx Tryz.func43 ?_;repeat' ((conv=>whnf);first|refine cGx ex ?_|refine a0a ?_|(apply bRx<;>intro h<;>try (exfalso;(try dsimp only at h);omega)))
 all_goals (conv=>whnf)
 .exact rOx [0,2,1] (aw _)
theorem y0X:g0o ⟨#[69,85,82]⟩=true:=by unfold g0o;decide
theorem w0x {b l:Int} (h: -999999999999<=b/\b<=999999999999/\0<=l/\l<=999999999999):nwE ⟨#[69,85,82]⟩ b l=0:=by
 unfold nwE;rw [if_neg (bnf y0X),if_neg (by omega)]
end
section
attribute [local irreducible] a0G a0H a0q b0H
def s0:Acc:=⟨1000,500,0,[],[],[],0⟩
def s2:Acc:=⟨1000,500,2,[⟨#[97]⟩,⟨#[98]⟩],[1200,300],[0,1],2⟩
end
section
theorem f0O (l:List ByteArray) (s:ByteArray):a0k l s<=l.length:=by
 induction l with
 |nil=>simp [a0k]
 |cons x l ih=>
  simp only [a0k,seq];by_cases h:x=s
  .rw [decide_eq_true h];simp
  .rw [decide_eq_false h];simp;exact ih
theorem b0u {l:List ByteArray} {s:ByteArray}:a0k l s<l.length↔s∈l:=by
 induction l with
 |nil=>simp [a0k]
 |cons x l ih=>
  simp only [a0k,seq];by_cases h:x=s
  .rw [decide_eq_true h];simp [h]
  .rw [decide_eq_false h];have:¬s=x:=fun e=>h e.symm
   simp [this,ih]
theorem d0o {l:List ByteArray} {s:ByteArray} (h:a0k l s<l.length):l[a0k l s]? =some s:=by
 induction l with
 |nil=>simp [a0k] at h
 |cons x l ih=>
  simp only [a0k,seq] at h⊢;by_cases e:x=s
  .rw [decide_eq_true e];simp [e]
  .rw [decide_eq_false e] at h⊢;simp only [cond_false,s0a,z0I] at h⊢;exact ih (by omega)
theorem c0b {l:List ByteArray} (hd:l.Nodup) {i:Nat} {s:ByteArray} (h:l[i]? =some s):a0k l s=i:=by
 have hi:i<l.length:=(y0M.1 h).1;have hm:s∈l:=v0G.2 ⟨i,h⟩;have h2:=d0o (b0u.2 hm);have h3:=b0u.2 hm;obtain ⟨_,e1⟩:=y0M.1 h;obtain ⟨_,e2⟩:=y0M.1 h2;exact (z0o hd).1 (e2.trans e1.symm)
theorem f0P {l:List ByteArray} {s:ByteArray}:b0w (a0k l s) s l=if a0k l s<l.length then l else l++ [s]:=by
 unfold b0w;split
 .rename_i h;have:=d0o h;refine z0E fun i=> ?_
  rw [z0j];by_cases e:a0k l s=i
  .subst e;rw [if_pos rfl,if_pos h,this]
  .rw [if_neg e]
 .rfl
structure Acc.Ok (a:Acc):Prop where
 k:a.ks.length=a.n
 v:a.vs.length=a.n
 nd:a.ks.Nodup
 id:∀s∈a.ks,idB s=true
 n64:a.n<=64
theorem w0y (b l:Int):(Acc.mk0 b l).Ok:=⟨rfl,rfl,z0N,(fun s hs=>by cases hs),by simp [Acc.mk0]⟩
theorem t0j {a:Acc} (h:a.Ok) {id:ByteArray} (m:Int) (hi:a0k a.ks id<a.n\/(idB id=true/\a.n<64)):(a.put id m).Ok:=by
 have hk:=h.k;have hv:=h.v;unfold Acc.put;by_cases c:a0k a.ks id<a.n
 .have c1:a0k a.ks id<a.ks.length:=by omega
  have c2:a0k a.ks id<a.vs.length:=by omega
  rw [f0P,if_pos c1,if_pos c,if_pos c,if_pos c];unfold b0w;rw [if_pos c2];exact ⟨h.k,by simp [h.v],h.nd,h.id,h.n64⟩
 .have c1:¬a0k a.ks id<a.ks.length:=by omega
  have c2:¬a0k a.ks id<a.vs.length:=by omega
  obtain ⟨i1,i2⟩:=hi.resolve_left c;rw [f0P,if_neg c1,if_neg c,if_neg c,if_neg c];unfold b0w;rw [if_neg c2];have hm:¬id∈a.ks:=fun x=>c1 (b0u.2 x)
  refine ⟨by simp [h.k],by simp [h.v],?_,?_,i2⟩
  .rw [z0l];refine ⟨h.nd,by simp,?_⟩;intro x hx y hy e;simp only [p0T] at hy;subst hy;subst e;exact hm hx
  .intro s hs;rcases u0r.1 hs with hs|hs
   .exact h.id s hs
   .simp only [p0T] at hs;subst hs;exact i1
theorem t0k {a:Acc} (h:a.Ok) (id:ByteArray):(a.del id).Ok:=by
 have hk:=h.k;have hv:=h.v;have hn:=h.n64;unfold Acc.del;by_cases c:a0k a.ks id<a.n
 .have c1:a0k a.ks id<a.ks.length:=by omega
  have c2:a0k a.ks id<a.vs.length:=by omega
  rw [if_pos c];refine ⟨?_,?_,h.nd.sublist (z0r _ _),fun s hs=>h.id s ((z0r _ _).mem hs),?_⟩
  .show (a.ks.eraseIdx _).length=a.n-1;rw [List.length_eraseIdx_of_lt c1];omega
  .show (a.vs.eraseIdx _).length=a.n-1;rw [List.length_eraseIdx_of_lt c2];omega
  .show a.n-1<=64;omega
 .rw [if_neg c,v0O (by omega),v0O (by omega)];exact ⟨h.k,h.v,h.nd,h.id,h.n64⟩
theorem w0z {a:Acc} (h:a.Ok) {id:ByteArray} (m:Int) (hi:a0k a.ks id<a.n\/(idB id=true/\a.n<64)):(a.set id m).Ok:=by
 unfold Acc.set;split
 .exact t0k h id
 .exact t0j h m hi
theorem u0I {a:Acc} {id:ByteArray} (h:a.newE id=0):idB id=true/\¬a0k a.ks id<a.n/\a.n<64:=by
 unfold Acc.newE at h;split at h
 .omega
 .split at h
  .omega
  .split at h
   .omega
   .rename_i h1 h2 h3;exact ⟨by cases hb:idB id<;>simp_all,h2,by omega⟩
theorem u0J (a:Acc) (id:ByteArray) (m:Int):(a.set id m).bal=a.bal/\(a.set id m).lim=a.lim:=by
 unfold Acc.set Acc.del Acc.put;split<;>exact ⟨rfl,rfl⟩
end
section
theorem i0J {a:Acc} (h:a.Ok) {i:Nat} {s:ByteArray} (hi:a.ks[i]? =some s):a.get s=a.vs.getD i 0:=by
 show a.vs.getD (a0k a.ks s) 0=_;rw [c0b h.nd hi]
theorem e0m {a:Acc} (h:a.Ok) {s:ByteArray} (hs:¬s∈a.ks):a.get s=0:=by
 have h1:¬a0k a.ks s<a.ks.length:=fun h=>hs (b0u.1 h)
 show a.vs.getD (a0k a.ks s) 0=_;rw [List.getD,h0t (by have:=h.k;have:=h.v;omega)];rfl
theorem t0l {a:Acc} (id s:ByteArray) (h:s∈(a.del id).ks):s∈a.ks:=List.mem_of_mem_eraseIdx h
theorem j0L {α:Type}:∀(l:List α) (i:Nat),l.length<=i->l.eraseIdx i=l
 | [],_,_=>rfl
 |x::l,0,h=>absurd h (by simp)
 |x::l,i+1,h=>by show x::l.eraseIdx i=_;rw [j0L l i (by simpa using h)]
theorem u0K {a:Acc} (h:a.Ok) (id s:ByteArray):(a.del id).get s=if s=id then 0 else a.get s:=by
 have hd:=t0k h id;have hk:=h.k;have hv:=h.v;by_cases hi:a0k a.ks id<a.ks.length
 .have hg:=d0o hi;by_cases he:s=id
  .subst he;rw [if_pos rfl];refine e0m hd fun hm=> ?_
   obtain ⟨j,hj⟩:=v0G.1 hm;have hj:(a.ks.eraseIdx (a0k a.ks s))[j]? =some s:=hj;rw [r0Z] at hj;split at hj
   .have:=c0b h.nd hj;omega
   .have:=c0b h.nd hj;omega
  .rw [if_neg he];by_cases hm:s∈a.ks
   .obtain ⟨j,hj⟩:=v0G.1 hm;rw [i0J h hj];have hne:j≠a0k a.ks id:=by
     rintro rfl;rw [hg] at hj;exact he (Option.some.inj hj).symm
    by_cases hlt:j<a0k a.ks id
    .have e:(a.del id).ks[j]? =some s:=by
      show (a.ks.eraseIdx (a0k a.ks id))[j]? =_;rw [r0Z,if_pos hlt];exact hj
     rw [i0J hd e];show (a.vs.eraseIdx (a0k a.ks id)).getD j 0=_;rw [List.getD,r0Z,if_pos hlt];rfl
    .have e:(a.del id).ks[j-1]? =some s:=by
      show (a.ks.eraseIdx (a0k a.ks id))[j-1]? =_;rw [r0Z,if_neg (by omega),show j-1+1=j by omega];exact hj
     rw [i0J hd e];show (a.vs.eraseIdx (a0k a.ks id)).getD (j-1) 0=_;rw [List.getD,r0Z,if_neg (by omega),show j-1+1=j by omega];rfl
   .rw [e0m hd fun hx=>hm (t0l _ _ hx),e0m h hm]
 .have e:(a.del id).get s=a.get s:=by
   show (a.vs.eraseIdx (a0k a.ks id)).getD (a0k (a.ks.eraseIdx (a0k a.ks id)) s) 0=a.vs.getD (a0k a.ks s) 0;rw [j0L a.ks _ (by omega),j0L a.vs _ (by omega)]
  rw [e];by_cases he:s=id
  .subst he;rw [if_pos rfl];exact e0m h fun hm=>hi (b0u.2 hm)
  .rw [if_neg he]
theorem t0m {a:Acc} (id:ByteArray) (m:Int):(a.put id m).ks=if a0k a.ks id<a.ks.length then a.ks else a.ks++ [id]:=f0P
theorem u0L {a:Acc} (h:a.Ok) (id s:ByteArray) (m:Int) (hi:a0k a.ks id<a.n\/(idB id=true/\a.n<64)):(a.put id m).get s=if s=id then m else a.get s:=by
 have hd:=t0j h m hi;have hk:=h.k;have hv:=h.v;have hp:=t0m (a:=a) id m;by_cases hi:a0k a.ks id<a.ks.length
 .have hg:=d0o hi;rw [if_pos hi] at hp;have hvs:(a.put id m).vs=a.vs.set (a0k a.ks id) m:=by
   show b0w _ _ _=_;unfold b0w;rw [if_pos (by omega)]
  show (a.put id m).vs.getD (a0k (a.put id m).ks s) 0=_;rw [hp,hvs];by_cases he:s=id
  .subst he;rw [if_pos rfl,List.getD,z0M (by omega)];rfl
  .rw [if_neg he,List.getD,z0S];rfl;intro e;by_cases hs:a0k a.ks s<a.ks.length
   .have:=d0o hs;rw [<-e,hg] at this;exact he (Option.some.inj this).symm
   .have:=f0O a.ks s;omega
 .rw [if_neg hi] at hp;have hle:=f0O a.ks id;have hvs:(a.put id m).vs=a.vs++ [m]:=by
   show b0w _ _ _=_;unfold b0w;rw [if_neg (by omega)]
  by_cases he:s=id
  .subst he;rw [if_pos rfl];have e:(a.put s m).ks[a.n]? =some s:=by rw [hp,m0f (by omega),hk,x0N];rfl
   rw [i0J hd e,hvs,List.getD,m0f (by omega),hv,x0N];rfl
  .rw [if_neg he];by_cases hm:s∈a.ks
   .obtain ⟨j,hj⟩:=v0G.1 hm;have hjl:=(y0M.1 hj).1;have e:(a.put id m).ks[j]? =some s:=by rw [hp,m0j (by omega)];exact hj
    rw [i0J h hj,i0J hd e,hvs,List.getD,m0j (by omega)];rfl
   .rw [e0m h hm,e0m hd];rw [hp];simp only [u0r,p0T,not_or];exact ⟨hm,he⟩
theorem j0M {a:Acc} (h:a.Ok) (id s:ByteArray) (m:Int) (hi:a0k a.ks id<a.n\/(idB id=true/\a.n<64)):(a.set id m).get s=if s=id then m else a.get s:=by
 unfold Acc.set;split
 .rename_i e;subst e;exact u0K h id s
 .exact u0L h id s m hi
theorem l0l:∀(l:List Int) (i:Nat),(l.eraseIdx i).sum=l.sum-l.getD i 0
 | [],i=>by simp
 |x::l,0=>by
  show l.sum=(x::l).sum-x;rw [u0v];omega
 |x::l,i+1=>by
  show (x::l.eraseIdx i).sum=(x::l).sum-l.getD i 0;rw [u0v,u0v,l0l l i];omega
theorem q0j:∀(l:List Int) (i:Nat) (x:Int),i<l.length->(l.set i x).sum=l.sum-l.getD i 0+x
 | [],i,x,h=>absurd h (by simp)
 |y::l,0,x,_=>by
  show (x::l).sum=(y::l).sum-y+x;rw [u0v,u0v];omega
 |y::l,i+1,x,h=>by
  show (y::l.set i x).sum=(y::l).sum-l.getD i 0+x;rw [u0v,u0v,q0j l i x (by simpa using h)];omega
theorem q0k {a:Acc} (h:a.Ok) (id:ByteArray) (m:Int):(a.set id m).vs.sum=a.vs.sum-a.get id+m:=by
 have hk:=h.k;have hv:=h.v;unfold Acc.set;split
 .rename_i e;subst e;show (a.vs.eraseIdx (a0k a.ks id)).sum=a.vs.sum-a.vs.getD (a0k a.ks id) 0+0;rw [l0l];omega
 .show (b0w (a0k a.ks id) m a.vs).sum=_;unfold b0w;split
  .rename_i e;rw [q0j _ _ _ e]
  .rename_i e;have:a.get id=0:=e0m h fun hm=>e (by have:=b0u.2 hm;omega)
   rw [this,List.sum_append,u0v,List.sum_nil];omega
theorem t0n {a:Acc} (id s:ByteArray) (m:Int) (h:s∈(a.set id m).ks):s=id\/s∈a.ks:=by
 unfold Acc.set at h;split at h
 .exact .inr (t0l _ _ h)
 .rw [t0m] at h;split at h
  .exact .inr h
  .rcases u0r.1 h with h|h
   .exact .inr h
   .exact .inl (p0T.1 h)
end
section
attribute [local irreducible] a0G a0H a0q b0H
def s0k (s:ByteArray) (i:Nat):Prop:=48<=a0f s (i:Int)/\a0f s (i:Int)<=57
instance (s:ByteArray) (i:Nat):Decidable (s0k s i):=by unfold s0k;infer_instance
def g0x (s:ByteArray):Nat->Bool
 |0=>true
 |k+1=>g0x s k&&decide (s0k s k)
def dgB (s:ByteArray):Bool:=g0x s s.size
theorem d0Y {s:ByteArray} {k n:Nat} (h:k<n) (hc:¬s0k s k):g0x s n=false:=by
 induction n with
 |zero=>omega
 |succ n ih=>
  simp only [g0x];by_cases e:k=n
  .subst e;simp [hc]
  .rw [ih (by omega)];rfl
theorem f0p {s:ByteArray} {k:Nat} (h:g0x s k=true) (h1:48<=a0f s (k:Int)) (h2:a0f s (k:Int)<=57):g0x s (k+1)=true:=by
 simp only [g0x,h,y0g,decide_eq_true_eq];exact ⟨h1,h2⟩
theorem j0N {s:ByteArray} {k n:Nat} (h:k<n) (hd:g0x s n=true):s0k s k:=by
 by_cases hc:s0k s k
 .exact hc
 .rw [d0Y h hc] at hd;cases hd
theorem j0O {s:ByteArray} {k:Nat} (hk:k<s.size) (h:a0f s (k:Int)<128):Utf8.decode s k=((a0f s (k:Int)).toNat,1):=by
 have e:(s.get! k).toNat=(a0f s (k:Int)).toNat:=by
  rw [k0V s k hk,s0b];congr 1;show s.data[k]! =s.data[k];exact getElem!_pos s.data k hk
 unfold Utf8.decode;simp only [s0d];rw [if_pos (by rw [e];have:=d0H s (k:Int);omega),e]
theorem s0l {s:ByteArray} {k:Nat} (hk:k<s.size) (h:¬a0f s (k:Int)<128):128<=(Utf8.decode s k).1:=by
 have e:(s.get! k).toNat=(a0f s (k:Int)).toNat:=by
  rw [k0V s k hk,s0b];congr 1;show s.data[k]! =s.data[k];exact getElem!_pos s.data k hk
 unfold Utf8.decode;simp only [s0d];rw [if_neg (by rw [e];have:=d0H s (k:Int);omega)];have hr:Utf8.runeError=65533:=rfl;split
 .split
  .dsimp only;omega
  .dsimp only;omega
 .split
  .split
   .rename_i hc;simp only [ge_iff_le,e0z,decide_eq_true_eq] at hc;dsimp only;omega
   .dsimp only;omega
  .split
   .split
    .rename_i hc;simp only [ge_iff_le,e0z,decide_eq_true_eq] at hc;dsimp only;omega
    .dsimp only;omega
   .dsimp only;omega
theorem f0q (s:ByteArray):b0C Tryz.prog 104 [.str s] (.bool (dgB s)):=by
 refine fEx Tryz.func104 ?_
 (conv=>whnf)
 refine a0m (fun k:Nat=>⟨[(0,.str s),(6,.ptr 1 0 0 0)],[(1,some (.one false (.obj (.siter s k))))],2⟩) (fun k=>k<=s.size/\g0x s k=true) (fun k=>s.size-k) 0 [0,1] [] wHx ⟨by omega,rfl⟩ ?_;rintro k ⟨hk,hc⟩;repeat' ((conv=>whnf);first|(refine ⟨fun hlt=> ?_,fun hge=> ?_⟩)|refine a0a ?_|(apply bRx<;>intro h<;>try (exfalso;(try dsimp only at h);omega)))
 all_goals (conv=>whnf)
 .have hf:dgB s=false:=by
   refine d0Y hlt (fun hd=> ?_);have h:((Utf8.decode s k).1:Int)<48:=h;rw [j0O hlt (by have:=hd.2;omega)] at h;have:=hd.1;simp only at h;omega
  exact a0d (by rw [hf];rfl)
 .have hf:dgB s=false:=by
   refine d0Y hlt (fun hd=> ?_);have h2:((Utf8.decode s k).1:Int)>57:=by assumption
   rw [j0O hlt (by have:=hd.2;omega)] at h2;have:=hd.2;simp only at h2;omega
  exact a0d (by rw [hf];rfl)
 .have h1:¬((Utf8.decode s k).1:Int)<48:=by assumption
  have h2:¬((Utf8.decode s k).1:Int)>57:=by assumption
  by_cases hl:a0f s (k:Int)<128
  .rw [j0O hlt hl] at h1 h2⊢;simp only at h1 h2;refine ⟨k+1,[0,1],[],⟨by omega,f0p hc (by omega) (by omega)⟩,by omega,⟨rfl,⟨rfl,rfl,trivial⟩,⟨rfl,trivial⟩⟩⟩
  .have:=s0l hlt hl;exfalso;omega
 .have e:k=s.size:=by omega
  subst e;refine a0d ?_;rw [show dgB s=true from hc];rfl
def luT (s:ByteArray) (k:Nat):Int:=
 let n:=a0f s (k:Int)-48
 if (s.size-k)%2=0 then (if n*2>9 then n*2-9 else n*2) else n
def n0E (s:ByteArray):Nat->Int
 |0=>0
 |k+1=>n0E s k+luT s k
theorem t0o {s:ByteArray} {k:Nat} (h:s0k s k):0<=luT s k/\luT s k<=9:=by
 obtain ⟨h1,h2⟩:=h;unfold luT;dsimp only;split
 .split<;>omega
 .omega
theorem q0l {s:ByteArray}:∀k,g0x s k=true->0<=n0E s k/\n0E s k<=9*k
 |0,_=>by simp [n0E]
 |k+1,h=>by
  have h1:=j0N (Nat.lt_succ_self k) h;have h0:g0x s k=true:=by simp only [g0x,e0z] at h;exact h.1
  have:=q0l k h0;have:=t0o h1;simp only [n0E];omega
theorem u0M (s:ByteArray) (hd:dgB s=true) (hs:s.size<=1000000):b0C Tryz.prog 138 [.str s] (.int .i64 (n0E s s.size)):=by
 refine fEx Tryz.func138 ?_
 (conv=>whnf)
 refine a0m (fun k:Nat=>⟨[(0,.str s),(3,.int .i64 (n0E s k)),(8,.ptr 1 0 0 0)],[(1,some (.one false (.obj (.siter s k))))],2⟩) (fun k=>k<=s.size/\g0x s k=true) (fun k=>s.size-k) 0 [0,1] [] wHx ⟨by omega,rfl⟩ ?_;rintro k ⟨hk,hc⟩;by_cases hlt:k<s.size
 .have ha:=j0N hlt hd;obtain ⟨h48,h57⟩:=ha;have hde:=j0O hlt (by omega);have hb:=q0l k hc;have hnx:(Utf8.decode s k).1=(a0f s (k:Int)).toNat:=by rw [hde]
  have hpx:(Utf8.decode s k).2=1:=by rw [hde]
  have w1:IntKind.i32.wrap (((Utf8.decode s k).1:Int)-48)=a0f s (k:Int)-48:=by
   rw [hnx,IntWalk.i32_in _ ⟨by omega,by omega⟩];omega
  have w2:IntKind.i64.wrap (a0f s (k:Int)-48)=a0f s (k:Int)-48:=a0r (by omega) (by omega);have w3:IntKind.i64.wrap ((a0f s (k:Int)-48)*2)=(a0f s (k:Int)-48)*2:=a0r (by omega) (by omega);have w4:IntKind.i64.wrap ((a0f s (k:Int)-48)*2-9)=(a0f s (k:Int)-48)*2-9:=a0r (by omega) (by omega);have w5:IntKind.i64.wrap ((s.size:Int)-(k:Int))=((s.size-k:Nat):Int):=by rw [a0r (by omega) (by omega)];omega
  have w6:(((s.size-k:Nat):Int)).tmod 2=(((s.size-k)%2:Nat):Int):=by rw [v0u (by omega)];rfl
  have w7:IntKind.i64.wrap (((s.size-k)%2:Nat):Int)=(((s.size-k)%2:Nat):Int):=a0r (by omega) (by omega);have w8:IntKind.i64.wrap (n0E s k+luT s k)=n0E s (k+1):=by
   have:=t0o (s:=s) (k:=k) ⟨h48,h57⟩;rw [a0r (by omega) (by omega)];rfl
  repeat' ((conv=>whnf);first|(refine ⟨fun _=> ?_,fun hge=>absurd hlt hge⟩)|refine a0a ?_|(apply bRx<;>intro h<;>try (exfalso;(try dsimp only at h);omega)))
  all_goals (conv=>whnf)
  all_goals (rw [hpx];refine ⟨k+1,[0,1],[],⟨hlt,f0p hc h48 h57⟩,by omega,⟨rfl,⟨rfl,congrArg (fun z=>some (SV.int .i64 z)) ?_,rfl,trivial⟩,⟨rfl,trivial⟩⟩⟩)
  .have h':(IntKind.i64.wrap ((s.size:Int)-(k:Int))).tmod 2=0:=by assumption
   have e9:9<IntKind.i64.wrap (IntKind.i64.wrap (IntKind.i32.wrap (((Utf8.decode s k).1:Int)-48))*2):=h;rw [w1,w2,w3] at e9;rw [w5,w6] at h';show IntKind.i64.wrap (n0E s k+IntKind.i64.wrap (IntKind.i64.wrap (IntKind.i64.wrap (IntKind.i32.wrap (((Utf8.decode s k).1:Int)-48))*2)-9))=_;have e:luT s k=(a0f s (k:Int)-48)*2-9:=by unfold luT;dsimp only;rw [if_pos (by omega),if_pos (by omega)]
   rw [w1,w2,w3,w4,<-w8,e]
  .have h':(IntKind.i64.wrap ((s.size:Int)-(k:Int))).tmod 2=0:=by assumption
   have e9:¬9<IntKind.i64.wrap (IntKind.i64.wrap (IntKind.i32.wrap (((Utf8.decode s k).1:Int)-48))*2):=h;rw [w1,w2,w3] at e9;rw [w5,w6] at h';show IntKind.i64.wrap (n0E s k+IntKind.i64.wrap (IntKind.i64.wrap (IntKind.i32.wrap (((Utf8.decode s k).1:Int)-48))*2))=_;have e:luT s k=(a0f s (k:Int)-48)*2:=by unfold luT;dsimp only;rw [if_pos (by omega),if_neg (by omega)]
   rw [w1,w2,w3,<-w8,e]
  .have h':¬(IntKind.i64.wrap ((s.size:Int)-(k:Int))).tmod 2=0:=h;rw [w5,w6] at h';show IntKind.i64.wrap (n0E s k+IntKind.i64.wrap (IntKind.i32.wrap (((Utf8.decode s k).1:Int)-48)))=_;have e:luT s k=(a0f s (k:Int)-48):=by unfold luT;dsimp only;rw [if_neg (by omega)]
   rw [w1,w2,<-w8,e]
 .have e:k=s.size:=by omega
  subst e;repeat' ((conv=>whnf);first|(refine ⟨fun h0=>absurd h0 hlt,fun _=> ?_⟩)|refine a0a ?_|(apply bRx<;>intro h<;>try (exfalso;(try dsimp only at h);omega)))
  all_goals (conv=>whnf)
  all_goals exact a0d rfl
def luB (s:ByteArray):Bool:=dgB s&&decide ((n0E s s.size).tmod 10=0)
theorem s0m (s:ByteArray) (h0:¬s=⟨#[]⟩) (hs:s.size<=1000000):b0C Tryz.prog 105 [.str s] (.bool (luB s)):=by
 have c1:=f0q s;unfold luB;cases hd:dgB s with
 |false=>
  rw [hd] at c1;refine fEx Tryz.func105 ?_;repeat' ((conv=>whnf);first|refine cPx c1 ?_|refine a0a ?_|(apply bRx<;>intro h<;>try (exfalso;(try dsimp only at h);omega)))
  all_goals (conv=>whnf)
  all_goals first
   |exact a0d rfl
   |(exfalso;exact h0 (by assumption))
 |true=>
  rw [hd] at c1;have c2:=u0M s hd hs;by_cases hm:(n0E s s.size).tmod 10=0
  .rw [decide_eq_true hm];refine fEx Tryz.func105 ?_;repeat' ((conv=>whnf);first|refine cPx c1 ?_|refine cPx c2 ?_|refine a0a ?_|(apply bRx<;>intro h<;>try (exfalso;(try dsimp only at h);omega)))
   all_goals (conv=>whnf)
   all_goals first
    |exact a0d rfl
    |(exfalso;exact h0 (by assumption))
    |exact a0d (congrArg SV.bool (decide_eq_true hm))
  .rw [decide_eq_false hm];refine fEx Tryz.func105 ?_;repeat' ((conv=>whnf);first|refine cPx c1 ?_|refine cPx c2 ?_|refine a0a ?_|(apply bRx<;>intro h<;>try (exfalso;(try dsimp only at h);omega)))
   all_goals (conv=>whnf)
   all_goals first
    |exact a0d rfl
    |(exfalso;exact h0 (by assumption))
    |exact a0d (congrArg SV.bool (decide_eq_false hm))
def y0m (s:ByteArray):Int:=if s.size<12 then 1 else if 19<s.size then 3 else if dgB s=false then 2 else if luB s=false then 9 else 0
theorem q0m (s:ByteArray):b0C Tryz.prog 66 [.str s] (.int .i64 (y0m s)):=by
 have c1:=f0q s;unfold y0m;by_cases h12:s.size<12
 .rw [if_pos h12];refine fEx Tryz.func66 ?_;repeat' ((conv=>whnf);first|refine a0a ?_|(apply bRx<;>intro h<;>try (exfalso;(try dsimp only at h);omega)))
  all_goals (conv=>whnf)
  all_goals exact a0d rfl
 .rw [if_neg h12];by_cases h19:19<s.size
  .rw [if_pos h19];refine fEx Tryz.func66 ?_;repeat' ((conv=>whnf);first|refine a0a ?_|(apply bRx<;>intro h<;>try (exfalso;(try dsimp only at h);omega)))
   all_goals (conv=>whnf)
   all_goals exact a0d rfl
  .rw [if_neg h19];have c2:=s0m s (fun e=>h12 (by rw [e];decide)) (by omega);cases hd:dgB s with
   |false=>
    rw [hd] at c1;rw [if_pos rfl];refine fEx Tryz.func66 ?_;repeat' ((conv=>whnf);first|refine cPx c1 ?_|refine a0a ?_|(apply bRx<;>intro h<;>try (exfalso;(try dsimp only at h);omega)))
    all_goals (conv=>whnf)
    all_goals exact a0d rfl
   |true=>
    rw [hd] at c1;rw [if_neg (by decide)];cases hl:luB s with
    |false=>
     rw [hl] at c2;rw [if_pos rfl];refine fEx Tryz.func66 ?_;repeat' ((conv=>whnf);first|refine cPx c1 ?_|refine cPx c2 ?_|refine a0a ?_|(apply bRx<;>intro h<;>try (exfalso;(try dsimp only at h);omega)))
     all_goals (conv=>whnf)
     all_goals exact a0d rfl
    |true=>
     rw [hl] at c2;rw [if_neg (by decide)];refine fEx Tryz.func66 ?_;repeat' ((conv=>whnf);first|refine cPx c1 ?_|refine cPx c2 ?_|refine a0a ?_|(apply bRx<;>intro h<;>try (exfalso;(try dsimp only at h);omega)))
     all_goals (conv=>whnf)
     all_goals exact a0d rfl
end
section
attribute [local irreducible] a0G a0H a0q b0H
def dgW (w U:Nat):ByteArray:=a0u (h0y w U)
theorem b0J (U w:Nat) (hU:U<1000000000000000000) (h1:1<=w) (hw:w<=100):b0C Tryz.prog 9 [.int .i64 U,.int .i64 w] (.str (dgW w U)):=by
 refine fEx Tryz.func9 ?_;repeat' ((conv=>whnf);first|refine a0a ?_|(apply bRx<;>intro h<;>try (exfalso;(try dsimp only at h);omega)))
 all_goals (conv=>whnf)
 have ei:IntKind.i64.wrap ((w:Int)-1)=(w:Int)-1-((0:Nat):Int):=by rw [a0r (by omega) (by omega)];omega
 refine a0m (fun m:Nat=>⟨[(0,.int .i64 ((U/10^m:Nat):Int)),(1,.int .i64 w),(5,.sl 1 0 0 w),(6,.int .i64 ((w:Int)-1-(m:Int)))],[(1,some (.one false (.cols w [.sc (.ints .u8 (m0o (List.replicate w 0) w 0 w U m))])))],2⟩) (fun m=>m<=w) (fun m=>w-m) 0 [0,1] []
  ⟨rfl,⟨congrArg (fun z=>some (SV.int .i64 z)) (by simp),rfl,rfl,congrArg (fun z=>some (SV.int .i64 z)) ei,trivial⟩,⟨by rw [l0g (by simp)];rfl,trivial⟩⟩ (p0V _) ?_
 rintro m hm;by_cases hlt:m<w
 .have e1:((U/10^m:Nat):Int).tdiv 10=((U/10^(m+1):Nat):Int):=by
   rw [z0D (Int.natCast_nonneg _),z0Z,<-z0L];rfl
  have e2:((U/10^m:Nat):Int).tmod 10=((U/10^m%10:Nat):Int):=by
   rw [v0u (Int.natCast_nonneg _)];rfl
  have hb:U/10^m<=U:=Nat.div_le_self _ _;have e3:IntKind.i64.wrap ((U/10^(m+1):Nat):Int)=((U/10^(m+1):Nat):Int):=a0r (by have:=Int.natCast_nonneg (U/10^(m+1));omega) (by have:U/10^(m+1)<=U:=Nat.div_le_self _ _;omega);have e4:IntKind.i64.wrap ((U/10^m%10:Nat):Int)=((U/10^m%10:Nat):Int):=a0r (by omega) (by omega);have e5:IntKind.i64.wrap (48+((U/10^m%10:Nat):Int))=48+((U/10^m%10:Nat):Int):=a0r (by omega) (by omega);have e6:IntKind.u8.wrap (48+((U/10^m%10:Nat):Int))=((48+U/10^m%10:Nat):Int):=by rw [q0g (by omega) (by omega)];omega
  have hs:=a0n (l:=List.replicate w 0) (N:=w) (o:=0) (n:=w) (U:=U) (m:=m) (i:=((w:Int)-1-(m:Int)).toNat) hlt (by omega) (by omega) rfl;generalize hV:U/10^(m+1)=V at*;generalize hW:U/10^m=W at*;repeat' ((conv=>whnf);first|(rw [e2])|(rw [e4])|(rw [e5])|(rw [e6])|(rw [e1])|(rw [e3])|refine a0a ?_|(apply bRx<;>intro h<;>try (exfalso;(try dsimp only at h);omega)))
  all_goals (conv=>whnf)
  all_goals first
   |(exfalso;omega)
   |exact ⟨m+1,[0,1],[],by omega,by omega,⟨rfl,⟨by rw [hV];rfl,rfl,rfl,congrArg (fun z=>some (SV.int .i64 z)) (by rw [a0r (by omega) (by omega)];omega),trivial⟩,⟨congrArg (fun l=>some (HB.one false (.cols w [.sc (.ints .u8 l)]))) hs,trivial⟩⟩⟩
   |trace_state
 .have e:m=w:=by omega
  subst e;have hs:seg 0 m (m0o (List.replicate m 0) m 0 m U m)=h0y m U:=j0I (by omega);repeat' ((conv=>whnf);first|refine a0a ?_|(apply bRx<;>intro h<;>try (exfalso;(try dsimp only at h);omega)))
  all_goals (conv=>whnf)
  all_goals first
   |(exfalso;omega)
   |exact a0d (congrArg (fun l=>SV.str (a0u l)) hs)
   |trace_state
end
section
attribute [local irreducible] a0G a0H a0q b0H
abbrev El:=Int×ByteArray
def el0:El:=(0,⟨#[]⟩)
abbrev elK (n:Nat) (E:List El):Blk:= .cols n [.sc (.ints .i64 (E.map (·.1))),.sc (.strs (E.map (·.2)))]
theorem t0p {E:List El} {j:Nat} {a:Int} {b:ByteArray}:(some (HB.one false (.cols (j+1) [.sc (.ints .i64 (E.map (·.1)++ [a])),.sc (.strs (E.map (·.2)++ [b]))])):Option HB)=some (.one false (elK (j+1) (E++ [(a,b)]))):=by simp
theorem o0H (E:List El) (k:Nat):(E.map (·.1)).getD k 0=(E.getD k el0).1:=by
 simp only [List.getD,m0i];cases E[k]?<;>rfl
theorem v0L (E:List El) (k:Nat):(E.map (·.2)).getD k ⟨#[]⟩=(E.getD k el0).2:=by
 simp only [List.getD,m0i];cases E[k]?<;>rfl
def fxI (p:El->Bool) (E:List El):Int:=if E.findIdx p<E.length then (E.findIdx p:Int) else-1
theorem q0n {p:El->Bool} {E:List El} {k:Nat} (hk:k<E.length) (h:k<=E.findIdx p) (hn:p (E.getD k el0)=false):k+1<=E.findIdx p:=by
 rcases m0k k (E.findIdx p) with h1|h1
 .exact h1
 .have e:E.findIdx p=k:=by omega
  have:=List.findIdx_getElem (p:=p) (xs:=E) (w:=by omega);simp only [e] at this;rw [List.getD,f0N hk] at hn;simp only [t0O] at hn;rw [hn] at this;cases this
theorem w0A {p:El->Bool} {E:List El} {k:Nat} (hk:k<E.length) (h:k<=E.findIdx p) (hn:p (E.getD k el0)=true):fxI p E=k:=by
 have:E.findIdx p<=k:=by
  rcases m0k k (E.findIdx p) with h1|h1
  .have:=List.not_of_lt_findIdx h1;rw [List.getD,f0N hk] at hn;simp only [t0O] at hn;rw [hn] at this;cases this
  .exact h1
 have e:E.findIdx p=k:=by omega
 unfold fxI;rw [e,if_pos hk]
theorem t0q {p:El->Bool} {E:List El} (h:E.length<=E.findIdx p):fxI p E= -1:=by unfold fxI;rw [if_neg (by omega)]
def isE (n:Int) (x:El):Bool:=decide (x.1=n)
def gtE (n:Int) (x:El):Bool:=decide (x.1>n)
def noE (n:Int) (x:El):Bool:= !decide (x.1=n)
theorem w0B (a:Int) (b:ByteArray) (n:Int):FC Tryz.prog 3 39 [.agg [.int .i64 a,.str b],.ptr 2 0 0 0] [(2,some (.one true (.cells [.int .i64 n])))] (a0h (.bool (isE n (a,b))) [] 3):=by
 refine fEx Tryz.func39 ?_;repeat' ((conv=>whnf);first|refine a0a ?_|(apply bRx<;>intro h<;>try (exfalso;(try dsimp only at h);omega)))
 all_goals (conv=>whnf)
 exact rOx [0,1,2] a0c
theorem u0N (a:Int) (b:ByteArray) (n:Int):FC Tryz.prog 3 88 [.agg [.int .i64 a,.str b],.ptr 2 0 0 0] [(2,some (.one true (.cells [.int .i64 n])))] (a0h (.bool (gtE n (a,b))) [] 3):=by
 refine fEx Tryz.func88 ?_;repeat' ((conv=>whnf);first|refine a0a ?_|(apply bRx<;>intro h<;>try (exfalso;(try dsimp only at h);omega)))
 all_goals (conv=>whnf)
 exact rOx [0,1,2] a0c
theorem u0O (a:Int) (b:ByteArray) (n:Int):FC Tryz.prog 3 122 [.agg [.int .i64 a,.str b],.ptr 2 0 0 0] [(2,some (.one true (.cells [.int .i64 n])))] (a0h (.bool (noE n (a,b))) [] 3):=by
 refine fEx Tryz.func122 ?_;repeat' ((conv=>whnf);first|refine a0a ?_|(apply bRx<;>intro h<;>try (exfalso;(try dsimp only at h);omega)))
 all_goals (conv=>whnf)
 exact rOx [0,1,2] a0c
theorem s0n (E:List El) (n:Nat) (x:Int) (hn:E.length=n) (h6:n<=100000):FC Tryz.prog 3 38 [.sl 1 0 0 n,.fn 39 [.ptr 2 0 0 0]] [(1,some (.one true (elK n E))),(2,some (.one true (.cells [.int .i64 x])))] (a0h (.int .i64 (fxI (isE x) E)) [] 3):=by
 refine fEx Tryz.func38 ?_;repeat' ((conv=>whnf);first|refine a0a ?_|(apply bRx<;>intro h<;>try (exfalso;(try dsimp only at h);omega)))
 all_goals (conv=>whnf)
 refine a0m (fun k:Nat=>⟨[(1,.fn 39 [.ptr 2 0 0 0]),(7,.sl 1 0 0 n),(8,.int .i64 n),(9,.int .i64 k)],[(1,some (.one true (elK n E))),(2,some (.one true (.cells [.int .i64 x])))],3⟩) (fun k=>k<=n/\k<=E.findIdx (isE x)) (fun k=>n-k) 0 [0,1,2] [] wHx ⟨p0V _,p0V _⟩ ?_;rintro k ⟨hk,hf⟩;by_cases hk2:k<n
 .have c1:=w0B ((E.map (·.1)).getD k 0) ((E.map (·.2)).getD k ⟨#[]⟩) x;have hp:isE x ((E.map (·.1)).getD k 0,(E.map (·.2)).getD k ⟨#[]⟩)=isE x (E.getD k el0):=by rw [o0H,v0L]
  rw [hp] at c1;repeat' ((conv=>whnf);first|refine cOx (l:= [0,1,2]) c1 ?_|refine a0a ?_|(apply bRx<;>intro h<;>try (exfalso;(try dsimp only at h);omega)))
  all_goals (conv=>whnf)
  all_goals first
   |(exfalso;omega)
   |exact a0y (l:= [0,1,2]) rfl (by rw [w0A (by omega) hf h];rfl) trivial a0c
   |exact ⟨k+1,[0,1,2],[],⟨hk2,q0n (by omega) hf h⟩,(show n-(k+1)<n-k by omega),⟨rfl,⟨rfl,rfl,rfl,congrArg (fun z=>some (SV.int .i64 z)) (a0C (by omega)),trivial⟩,⟨rfl,rfl,trivial⟩⟩⟩
   |trace_state
 .have e:=t0q (p:=isE x) (E:=E) (by omega);repeat' ((conv=>whnf);first|refine a0a ?_|(apply bRx<;>intro h<;>try (exfalso;(try dsimp only at h);omega)))
  all_goals (conv=>whnf)
  all_goals first
   |(exfalso;omega)
   |exact a0y (l:= [0,1,2]) rfl (by rw [e];rfl) trivial a0c
   |trace_state
theorem q0o (E:List El) (n:Nat) (x:Int) (hn:E.length=n) (h6:n<=100000):FC Tryz.prog 3 38 [.sl 1 0 0 n,.fn 88 [.ptr 2 0 0 0]] [(1,some (.one true (elK n E))),(2,some (.one true (.cells [.int .i64 x])))] (a0h (.int .i64 (fxI (gtE x) E)) [] 3):=by
 refine fEx Tryz.func38 ?_;repeat' ((conv=>whnf);first|refine a0a ?_|(apply bRx<;>intro h<;>try (exfalso;(try dsimp only at h);omega)))
 all_goals (conv=>whnf)
 refine a0m (fun k:Nat=>⟨[(1,.fn 88 [.ptr 2 0 0 0]),(7,.sl 1 0 0 n),(8,.int .i64 n),(9,.int .i64 k)],[(1,some (.one true (elK n E))),(2,some (.one true (.cells [.int .i64 x])))],3⟩) (fun k=>k<=n/\k<=E.findIdx (gtE x)) (fun k=>n-k) 0 [0,1,2] [] wHx ⟨p0V _,p0V _⟩ ?_;rintro k ⟨hk,hf⟩;by_cases hk2:k<n
 .have c1:=u0N ((E.map (·.1)).getD k 0) ((E.map (·.2)).getD k ⟨#[]⟩) x;have hp:gtE x ((E.map (·.1)).getD k 0,(E.map (·.2)).getD k ⟨#[]⟩)=gtE x (E.getD k el0):=by rw [o0H,v0L]
  rw [hp] at c1;repeat' ((conv=>whnf);first|refine cOx (l:= [0,1,2]) c1 ?_|refine a0a ?_|(apply bRx<;>intro h<;>try (exfalso;(try dsimp only at h);omega)))
  all_goals (conv=>whnf)
  all_goals first
   |(exfalso;omega)
   |exact a0y (l:= [0,1,2]) rfl (by rw [w0A (by omega) hf h];rfl) trivial a0c
   |exact ⟨k+1,[0,1,2],[],⟨hk2,q0n (by omega) hf h⟩,(show n-(k+1)<n-k by omega),⟨rfl,⟨rfl,rfl,rfl,congrArg (fun z=>some (SV.int .i64 z)) (a0C (by omega)),trivial⟩,⟨rfl,rfl,trivial⟩⟩⟩
   |trace_state
 .have e:=t0q (p:=gtE x) (E:=E) (by omega);repeat' ((conv=>whnf);first|refine a0a ?_|(apply bRx<;>intro h<;>try (exfalso;(try dsimp only at h);omega)))
  all_goals (conv=>whnf)
  all_goals first
   |(exfalso;omega)
   |exact a0y (l:= [0,1,2]) rfl (by rw [e];rfl) trivial a0c
   |trace_state
theorem u0P {L:List El} {p:El->Bool} {k:Nat} (hk:k<L.length):(L.take (k+1)).filter p=if p (L.getD k el0)=true then (L.take k).filter p++ [L.getD k el0] else (L.take k).filter p:=by
 rw [List.take_add_one,List.filter_append,List.getD,f0N hk];simp only [Option.toList_some,t0O,List.filter_cons,List.filter_nil];split
 .rfl
 .rw [List.append_nil]
theorem w0C (L:List El) (p:El->Bool) (k:Nat):((L.take k).filter p).length<=k:=w0q (z0s _ _) (by rw [x0U];omega)
theorem q0p (E:List El) (n:Nat) (x:Int) (hn:E.length=n) (h6:n<=100000):FC Tryz.prog 3 121 [.sl 1 0 0 n,.fn 122 [.ptr 2 0 0 0]] [(1,some (.one true (elK n E))),(2,some (.one true (.cells [.int .i64 x])))] (a0h (.sl 3 0 0 (E.filter (noE x)).length) [(3,some (.one false (elK (E.filter (noE x)).length (E.filter (noE x)))))] 4):=by
 refine fEx Tryz.func121 ?_;repeat' ((conv=>whnf);first|refine a0a ?_|(apply bRx<;>intro h<;>try (exfalso;(try dsimp only at h);omega)))
 all_goals (conv=>whnf)
 refine a0m (fun k:Nat=>⟨[(1,.fn 122 [.ptr 2 0 0 0]),(5,.sl 3 0 0 ((E.take k).filter (noE x)).length),(11,.sl 1 0 0 n),(12,.int .i64 n),(13,.int .i64 k)],[(1,some (.one true (elK n E))),(2,some (.one true (.cells [.int .i64 x]))),(3,some (.one false (elK ((E.take k).filter (noE x)).length ((E.take k).filter (noE x)))))],4⟩) (fun k=>k<=n) (fun k=>n-k) 0 [0,1,2,3] [] wHx (p0V _) ?_;intro k hk;have hfl:=w0C E (noE x) k;by_cases hk2:k<n
 .have hst:=u0P (L:=E) (p:=noE x) (k:=k) (by omega);have c1:=u0O ((E.map (·.1)).getD k 0) ((E.map (·.2)).getD k ⟨#[]⟩) x;have hp:noE x ((E.map (·.1)).getD k 0,(E.map (·.2)).getD k ⟨#[]⟩)=noE x (E.getD k el0):=by rw [o0H,v0L]
  rw [hp] at c1;have hap:=t0p (E:=(E.take k).filter (noE x)) (j:=((E.take k).filter (noE x)).length) (a:=(E.map (·.1)).getD k 0) (b:=(E.map (·.2)).getD k ⟨#[]⟩);rw [show ((E.map (·.1)).getD k 0,(E.map (·.2)).getD k ⟨#[]⟩)=E.getD k el0 by rw [o0H,v0L]] at hap;repeat' ((conv=>whnf);first|refine cOx (l:= [0,1,2]) c1 ?_|refine a0a ?_|(apply bRx<;>intro h<;>try (exfalso;(try dsimp only at h);omega)))
  all_goals (conv=>whnf)
  all_goals first
   |(exfalso;omega)
   |skip
  .rw [if_pos h] at hst;refine ⟨k+1,[0,1,2,6],[],hk2,(show n-(k+1)<n-k by omega),?_⟩;dsimp only;rw [hst,p0P,r0Y];exact ⟨rfl,⟨rfl,rfl,rfl,rfl,congrArg (fun z=>some (SV.int .i64 z)) (a0C (by omega)),trivial⟩,⟨rfl,rfl,hap,trivial⟩⟩
  .rw [if_neg (by rw [h];decide)] at hst;refine ⟨k+1,[0,1,2,3],[],hk2,(show n-(k+1)<n-k by omega),?_⟩;dsimp only;rw [hst];exact ⟨rfl,⟨rfl,rfl,rfl,rfl,congrArg (fun z=>some (SV.int .i64 z)) (a0C (by omega)),trivial⟩,⟨rfl,rfl,rfl,trivial⟩⟩
 have ek:k=n:=by omega
 subst ek;rw [show E.take k=E by rw [<-hn,List.take_length]];repeat' ((conv=>whnf);first|refine a0a ?_|(apply bRx<;>intro h<;>try (exfalso;(try dsimp only at h);omega)))
 all_goals (conv=>whnf)
 all_goals first
  |(exfalso;omega)
  |exact rOx [0,1,2,3] (a0b a0c)
end
section
attribute [local irreducible] a0G a0H a0q b0H
def inE (x:El) (E:List El):List El:=E.take (E.findIdx (gtE x.1))++x::E.drop (E.findIdx (gtE x.1))
theorem y0Q {α:Type} (z x:α) {l:List α} {n i:Nat} (hl:l.length=n) (hi:i<=n):List.replicate (Int.toNat 0) z++seg (Int.toNat 0+0) ((i:Int).toNat-Int.toNat 0) l++seg 0 1 [x]++seg ((i:Int).toNat+0) ((n:Int).toNat-(i:Int).toNat) l=l.take i++x::l.drop i:=by
 have e:(l.drop i).take (n-i)=l.drop i:=v0E (by rw [x0V];omega);simp [seg,e]
theorem q0q {E:List El} {n i:Nat} (a:Int) (b:ByteArray) (hn:E.length=n) (hi:i<=n):(some (HB.one false (.cols (Int.toNat 0+((i:Int).toNat-Int.toNat 0)+1+((n:Int).toNat-(i:Int).toNat)) [.sc (.ints .i64 (List.replicate (Int.toNat 0) 0++seg (Int.toNat 0+0) ((i:Int).toNat-Int.toNat 0) (E.map (·.1))++seg 0 1 [a]++seg ((i:Int).toNat+0) ((n:Int).toNat-(i:Int).toNat) (E.map (·.1)))),.sc (.strs (List.replicate (Int.toNat 0) ⟨#[]⟩++seg (Int.toNat 0+0) ((i:Int).toNat-Int.toNat 0) (E.map (·.2))++seg 0 1 [b]++seg ((i:Int).toNat+0) ((n:Int).toNat-(i:Int).toNat) (E.map (·.2))))])):Option HB)=some (.one false (elK (n+1) (E.take i++(a,b)::E.drop i))):=by
 rw [y0Q 0 a (by simp [hn]) hi,y0Q ⟨#[]⟩ b (by simp [hn]) hi,show Int.toNat 0+((i:Int).toNat-Int.toNat 0)+1+((n:Int).toNat-(i:Int).toNat)=n+1 by omega];simp
theorem w0D (E:List El) (n:Nat) (a:Int) (b:ByteArray) (hn:E.length=n) (h6:n<=100000):FC Tryz.prog 3 87 [.sl 1 0 0 n,.agg [.int .i64 a,.str b],.fn 88 [.ptr 2 0 0 0]] [(1,some (.one true (elK n E))),(2,some (.one true (.cells [.int .i64 a])))] (a0h (.sl 3 0 0 (n+1)) [(3,some (.one false (elK (n+1) (inE (a,b) E))))] 4):=by
 have c1:=q0o E n a hn h6;have w1:IntKind.i64.wrap ((n:Int)+1)=((n+1:Nat):Int):=by rw [a0r (by omega) (by omega)];rfl
 have hle:E.findIdx (gtE a)<=n:=by rw [<-hn];exact List.findIdx_le_length
 unfold inE;dsimp only;by_cases hf:E.findIdx (gtE a)<E.length
 .rw [show fxI (gtE a) E=(E.findIdx (gtE a):Int) from if_pos hf] at c1;generalize E.findIdx (gtE a)=i at*;have hr:=q0q a b hn hle;refine fEx Tryz.func87 ?_;repeat' ((conv=>whnf);first|(rw [w1])|refine cOx (l:= [0,1,2]) c1 ?_|refine a0a ?_|(apply bRx<;>intro h<;>try (exfalso;(try dsimp only at h);omega)))
  all_goals (conv=>whnf)
  all_goals first
   |(exfalso;omega)
   |exact a0y (l:= [0,1,2,8]) rfl (congrArg (SV.sl 8 0 0) (by omega)) ⟨hr,trivial⟩ (a0b a0c)
   |trace_state
 .rw [show fxI (gtE a) E= -1 from if_neg hf] at c1;rw [show E.findIdx (gtE a)=n by omega];have hr:=q0q a b hn (h0Z n);refine fEx Tryz.func87 ?_;repeat' ((conv=>whnf);first|(rw [w1])|refine cOx (l:= [0,1,2]) c1 ?_|refine a0a ?_|(apply bRx<;>intro h<;>try (exfalso;(try dsimp only at h);omega)))
  all_goals (conv=>whnf)
  all_goals first
   |(exfalso;omega)
   |exact a0y (l:= [0,1,2,8]) rfl (congrArg (SV.sl 8 0 0) (by omega)) ⟨hr,trivial⟩ (a0b a0c)
   |trace_state
def geV (E:List El) (n:Int):ByteArray:=if fxI (isE n) E<0 then ⟨#[]⟩ else (E.getD (fxI (isE n) E).toNat el0).2
def geB (E:List El) (n:Int):Bool:= !decide (fxI (isE n) E<0)
theorem w0E (p:El->Bool) (E:List El):fxI p E<E.length/\(fxI p E= -1\/0<=fxI p E):=by unfold fxI;split<;>omega
theorem b0z (E:List El) (k:Nat) (t n:Int) (hk:E.length=k) (h6:k<=100000):FC Tryz.prog 2 17 [.agg [.int .i64 t,.sl 1 0 0 k],.int .i64 n] [(1,some (.one true (elK k E)))] (a0h (.tup [.str (geV E n),.bool (geB E n)]) [] 2):=by
 have c1:=s0n E k n hk h6;have hb:=w0E (isE n) E;unfold geV geB;generalize fxI (isE n) E=i at*;by_cases hi:i<0
 .rw [if_pos hi,decide_eq_true hi];refine fEx Tryz.func17 ?_;repeat' ((conv=>whnf);first|refine cOx (l:= [0,1,3]) c1 ?_|refine a0a ?_|(apply bRx<;>intro h<;>try (exfalso;(try dsimp only at h);omega)))
  all_goals (conv=>whnf)
  all_goals first
   |(exfalso;omega)
   |exact rOx [0,1] a0c
   |trace_state
 .rw [if_neg hi,decide_eq_false hi];have hv:=v0L E i.toNat;refine fEx Tryz.func17 ?_;repeat' ((conv=>whnf);first|refine cOx (l:= [0,1,3]) c1 ?_|refine a0a ?_|(apply bRx<;>intro h<;>try (exfalso;(try dsimp only at h);omega)))
  all_goals (conv=>whnf)
  all_goals first
   |(exfalso;omega)
   |exact a0y (l:= [0,1]) rfl (by rw [<-hv];rfl) trivial a0c
   |trace_state
end
section
attribute [local irreducible] a0G a0H a0q b0H
def mdB (s:ByteArray):Bool:=g0x s s.size&& !decide (s=⟨#[]⟩)
theorem w0F {s:ByteArray} {k:Nat} (h:k<s.size) (hc:a0f s (k:Int)<48\/57<a0f s (k:Int)):mdB s=false:=by
 unfold mdB;rw [d0Y h (by unfold s0k;omega)];rfl
theorem f0r (s:ByteArray) (hs:s.size<=1000000):b0C Tryz.prog 78 [.str s] (.bool (mdB s)):=by
 refine fEx Tryz.func78 ?_;repeat' ((conv=>whnf);first|refine a0a ?_|(apply bRx<;>intro h<;>try (exfalso;(try dsimp only at h);omega)))
 all_goals (conv=>whnf)
 refine a0m (fun k:Nat=>⟨[(0,.str s),(5,.int .i64 s.size),(6,.int .i64 k)],[],1⟩) (fun k=>k<=s.size/\g0x s k=true) (fun k=>s.size-k) 0 [0] [] wHx ⟨p0V _,rfl⟩ ?_;rintro k ⟨hk,hd⟩;repeat' ((conv=>whnf);first|refine a0a ?_|(apply bRx<;>intro h<;>try (exfalso;(try dsimp only at h);omega)))
 all_goals (conv=>whnf)
 all_goals first
  |(exfalso;omega)
  |exact a0d (by rw [w0F (k:=k) (by omega) (by omega)];rfl)
  |exact ⟨k+1,[0],[],⟨by omega,f0p hd (by omega) (by omega)⟩,(by omega),⟨rfl,⟨rfl,rfl,congrArg (fun z=>some (SV.int .i64 z)) (a0C (by omega)),trivial⟩,trivial⟩⟩
  |(have e:k=s.size:=by omega
    subst e;refine a0d ?_;unfold mdB;rw [hd];rfl)
  |trace_state
def vaT (s:ByteArray):Nat->Nat
 |0=>0
 |k+1=>10*vaT s k+(a0f s (k:Int)-48).toNat
theorem t0r {s:ByteArray}:∀k,g0x s k=true->vaT s k<10^k
 |0,_=>by simp [vaT]
 |k+1,h=>by
  have h1:=j0N (Nat.lt_succ_self k) h;have h0:g0x s k=true:=by simp only [g0x,e0z] at h;exact h.1
  have:=t0r k h0;obtain ⟨a,b⟩:=h1;simp only [vaT,z0Z];omega
def nuE (E:List El) (n:Int):Int:=if geB E n=false then 6 else if 18<(geV E n).size\/mdB (geV E n)=false then 2 else 0
def nuV (E:List El) (n:Int):Int:=if nuE E n=0 then (vaT (geV E n) (geV E n).size:Int) else 0
theorem s0o {E:List El} {n:Int} (h:geB E n=false):nuV E n=0/\nuE E n=6:=by unfold nuV nuE;simp [h]
theorem n0F {E:List El} {n:Int} (h:geB E n=true) (k:18<(geV E n).size\/mdB (geV E n)=false):nuV E n=0/\nuE E n=2:=by unfold nuV nuE;simp [h,k]
theorem u0Q {E:List El} {n:Int} (h:geB E n=true) (k:¬18<(geV E n).size) (k2:mdB (geV E n)=true):nuV E n=(vaT (geV E n) (geV E n).size:Int)/\nuE E n=0:=by unfold nuV nuE;simp [h,k,k2]
theorem w0G {s:ByteArray} (h:mdB s=true):∀k,k<s.size->s0k s k:=by
 intro k hk;unfold mdB at h;simp only [e0z] at h;exact j0N hk h.1
theorem y0n {s:ByteArray}:∀k n,g0x s n=true->k<=n->g0x s k=true:=by
 intro k n h hk;induction n with
 |zero=>rw [show k=0 by omega];rfl
 |succ n ih=>
  rcases m0k k (n+1) with h1|h1
  .simp only [g0x,e0z] at h;exact ih h.1 (by omega)
  .rw [show k=n+1 by omega];exact h
theorem i0K (E:List El) (k:Nat) (t n:Int) (hk:E.length=k) (h6:k<=100000) (hz:(geV E n).size<=1000000):FC Tryz.prog 2 62 [.agg [.int .i64 t,.sl 1 0 0 k],.int .i64 n] [(1,some (.one true (elK k E)))] (a0h (.tup [.int .i64 (nuV E n),.int .i64 (nuE E n)]) [] 2):=by
 have c1:=b0z E k t n hk h6;have c2:=f0r (geV E n) hz;cases hb:geB E n with
 |false=>
  rw [hb] at c1;rw [(s0o hb).1,(s0o hb).2];refine fEx Tryz.func62 ?_;repeat' ((conv=>whnf);first|refine cOx (l:= [0,1]) c1 ?_|refine cPx c2 ?_|refine a0a ?_|(apply bRx<;>intro h<;>try (exfalso;(try dsimp only at h);omega)))
  all_goals (conv=>whnf)
  all_goals exact rOx [0,1] a0c
 |true=>
  rw [hb] at c1;cases hd:mdB (geV E n) with
  |false=>
   rw [hd] at c2;rw [(n0F hb (.inr hd)).1,(n0F hb (.inr hd)).2];refine fEx Tryz.func62 ?_;repeat' ((conv=>whnf);first|refine cOx (l:= [0,1]) c1 ?_|refine cPx c2 ?_|refine a0a ?_|(apply bRx<;>intro h<;>try (exfalso;(try dsimp only at h);omega)))
   all_goals (conv=>whnf)
   all_goals exact rOx [0,1] a0c
  |true=>
   rw [hd] at c2;by_cases hs:18<(geV E n).size
   .rw [(n0F hb (.inl hs)).1,(n0F hb (.inl hs)).2];refine fEx Tryz.func62 ?_;repeat' ((conv=>whnf);first|refine cOx (l:= [0,1]) c1 ?_|refine cPx c2 ?_|refine a0a ?_|(apply bRx<;>intro h<;>try (exfalso;(try dsimp only at h);omega)))
    all_goals (conv=>whnf)
    all_goals first
     |exact rOx [0,1] a0c
     |(exfalso;omega)
   .rw [(u0Q hb hs hd).1,(u0Q hb hs hd).2];generalize geV E n=s at*;have hall:g0x s s.size=true:=by unfold mdB at hd;simp only [e0z] at hd;exact hd.1
    refine fEx Tryz.func62 ?_;repeat' ((conv=>whnf);first|refine cOx (l:= [0,1]) c1 ?_|refine cPx c2 ?_|refine a0a ?_|(apply bRx<;>intro h<;>try (exfalso;(try dsimp only at h);omega)))
    all_goals (conv=>whnf)
    all_goals first
     |(exfalso;omega)
     |skip
    refine a0m (fun k':Nat=>⟨[(6,.str s),(8,.int .i64 (vaT s k')),(27,.int .i64 s.size),(28,.int .i64 k')],[],2⟩) (fun k'=>k'<=s.size) (fun k'=>s.size-k') 0 [0,1] [] wHx (p0V _) ?_;intro j hj;have hv:=t0r j (y0n j _ hall hj);by_cases hlt:j<s.size
    .have ha:=w0G hd j hlt;obtain ⟨a,b⟩:=ha;have hp:10^j<=10^17:=t0f (by omega) (by omega);have w1:IntKind.u8.wrap (a0f s (j:Int)-48)=a0f s (j:Int)-48:=q0g (by omega) (by omega);have w2:IntKind.i64.wrap (a0f s (j:Int)-48)=a0f s (j:Int)-48:=a0r (by omega) (by omega);have w3:IntKind.i64.wrap (10*(vaT s j:Int))=10*(vaT s j:Int):=a0r (by omega) (by omega);have w4:IntKind.i64.wrap (10*(vaT s j:Int)+(a0f s (j:Int)-48))=(vaT s (j+1):Int):=by
      rw [a0r (by omega) (by omega)];simp only [vaT];omega
     repeat' ((conv=>whnf);first|(rw [w1])|(rw [w2])|(rw [w3])|(rw [w4])|refine a0a ?_|(apply bRx<;>intro h<;>try (exfalso;(try dsimp only at h);omega)))
     all_goals (conv=>whnf)
     all_goals first
      |(exfalso;omega)
      |exact ⟨j+1,[0,1],[],hlt,(by omega),⟨rfl,⟨rfl,rfl,rfl,congrArg (fun z=>some (SV.int .i64 z)) (a0C (by omega)),trivial⟩,trivial⟩⟩
      |trace_state
    .have e:j=s.size:=by omega
     subst e;repeat' ((conv=>whnf);first|refine a0a ?_|(apply bRx<;>intro h<;>try (exfalso;(try dsimp only at h);omega)))
     all_goals (conv=>whnf)
     all_goals first
      |(exfalso;omega)
      |exact rOx [0,1] a0c
      |trace_state
end
section
attribute [local irreducible] a0G a0H a0q b0H
theorem s0p (E:List El) (n:Nat) (hn:E.length=n) (h6:n<=100000):FC Tryz.prog 3 32 [.sl 1 0 0 n,.sl 2 0 0 n] [(1,some (.one true (elK n E))),(2,some (.one true (elK n E)))] (a0h (.bool true) [] 3):=by
 refine fEx Tryz.func32 ?_;repeat' ((conv=>whnf);first|refine a0a ?_|(apply bRx<;>intro h<;>try (exfalso;(try dsimp only at h);omega)))
 all_goals (conv=>whnf)
 all_goals first
  |(exfalso;omega)
  |skip
 refine a0m (fun k:Nat=>⟨[(0,.sl 1 0 0 n),(1,.sl 2 0 0 n),(12,.int .i64 n),(13,.int .i64 k)],[(1,some (.one true (elK n E))),(2,some (.one true (elK n E)))],3⟩) (fun k=>k<=n) (fun k=>n-k) 0 [0,1,2] [] wHx (p0V _) ?_;intro k hk;repeat' ((conv=>whnf);first|refine a0a ?_|(apply bRx<;>intro h<;>try (exfalso;(try dsimp only at h);omega)))
 all_goals (conv=>whnf)
 all_goals first
  |(exfalso;omega)
  |(exfalso;simp [seq] at h;done)
  |exact rOx [0,1,2] a0c
  |exact ⟨k+1,[0,1,2],[],(by omega),(by omega),⟨rfl,⟨rfl,rfl,rfl,congrArg (fun z=>some (SV.int .i64 z)) (a0C (by omega)),trivial⟩,⟨rfl,rfl,trivial⟩⟩⟩
  |trace_state
theorem s0q (E:List El) (n:Nat) (t:Int) (hn:E.length=n) (h6:n<=100000):FC Tryz.prog 3 12 [.agg [.int .i64 t,.sl 1 0 0 n],.agg [.int .i64 t,.sl 2 0 0 n]] [(1,some (.one true (elK n E))),(2,some (.one true (elK n E)))] (a0h (.bool true) [] 3):=by
 have c1:=s0p E n hn h6;refine fEx Tryz.func12 ?_;repeat' ((conv=>whnf);first|refine cOx (l:= [0,1,2]) c1 ?_|refine a0a ?_|(apply bRx<;>intro h<;>try (exfalso;(try dsimp only at h);omega)))
 all_goals (conv=>whnf)
 all_goals first
  |(exfalso;omega)
  |exact rOx [0,1,2] a0c
  |trace_state
theorem m0s (E:List El) (k:Nat) (t n:Int) (hk:E.length=k) (h6:k<=100000):FC Tryz.prog 2 86 [.agg [.int .i64 t,.sl 1 0 0 k],.int .i64 n] [(1,some (.one true (elK k E)))] (a0h (.agg [.int .i64 t,.sl 2 0 0 (E.filter (noE n)).length]) [(2,some (.one false (elK (E.filter (noE n)).length (E.filter (noE n)))))] 3):=by
 have c1:=q0p E k n hk h6;refine fEx Tryz.func86 ?_;repeat' ((conv=>whnf);first|refine cOx (l:= [0,1,3]) c1 ?_|refine a0a ?_|(apply bRx<;>intro h<;>try (exfalso;(try dsimp only at h);omega)))
 all_goals (conv=>whnf)
 exact rOx [0,1,5] (a0b a0c)
def v0M (n:Int):Int:=x0W .u64 1 (63-(n-1)%64)
def clW (l:List Int):List Int:=l.set 0 (l0I .u64 (l.getD 0 0) 9223372036854775808)
def stW (l:List Int) (n:Int):List Int:=(clW l).set ((n-1)/64).toNat (ior .u64 ((clW l).getD ((n-1)/64).toNat 0) (v0M n))
theorem m0t (n:Int) (hn:2<=n/\n<=128):b0C Tryz.prog 146 [.int .i64 n] (.bool true):=by
 refine fEx Tryz.func146 ?_;repeat' ((conv=>whnf);first|refine a0a ?_|(apply bRx<;>intro h<;>try (exfalso;(try dsimp only at h);omega)))
 all_goals (conv=>whnf)
 all_goals first
  |(exfalso;omega)
  |exact a0d (by rw [decide_eq_true hn.2];rfl)
  |trace_state
theorem n0G (n:Int) (h:2<=n/\n<=128):b0C Tryz.prog 110 [.int .i64 n] (.tup [.int .i64 ((n-1)/64),.int .u64 (v0M n)]):=by
 have w1:IntKind.i64.wrap (n-1)=n-1:=a0r (by omega) (by omega);have w2:(n-1).tdiv 64=(n-1)/64:=z0D (by omega);have w3:(n-1).tmod 64=(n-1)%64:=v0u (by omega);have w4:IntKind.i64.wrap ((n-1)/64)=(n-1)/64:=a0r (by omega) (by omega);have w5:IntKind.i64.wrap ((n-1)%64)=(n-1)%64:=a0r (by omega) (by omega);have w6:IntKind.i64.wrap (63-(n-1)%64)=63-(n-1)%64:=a0r (by omega) (by omega);refine fEx Tryz.func110 ?_;repeat' ((conv=>whnf);first|(rw [w1])|(rw [w2])|(rw [w3])|(rw [w4])|(rw [w5])|(rw [w6])|refine a0a ?_|(apply bRx<;>intro h<;>try (exfalso;(try dsimp only at h);omega)))
 all_goals (conv=>whnf)
 all_goals first
  |(exfalso;omega)
  |exact a0d rfl
  |trace_state
theorem n0H (l:List Int):b0C Tryz.prog 147 [.arr 2 [.ints .u64 l]] (.arr 2 [.ints .u64 (clW l)]):=by
 refine fEx Tryz.func147 ?_;repeat' ((conv=>whnf);first|refine a0a ?_|(apply bRx<;>intro h<;>try (exfalso;(try dsimp only at h);omega)))
 all_goals (conv=>whnf)
 exact a0d rfl
theorem w0H (l:List Int) (n:Int) (hn:2<=n/\n<=128):b0C Tryz.prog 108 [.arr 2 [.ints .u64 l],.int .i64 n] (.tup [.arr 2 [.ints .u64 (stW l n)],.int .i64 0]):=by
 have c0:=m0t n hn;have c1:=n0G n hn;have c2:=n0H l;have hb:0<=(n-1)/64/\(n-1)/64<=1:=by omega
 unfold stW;generalize clW l=m at*;generalize (n-1)/64=i at*;generalize v0M n=b at*;refine fEx Tryz.func108 ?_;repeat' ((conv=>whnf);first|refine cPx c0 ?_|refine cPx c1 ?_|refine cPx c2 ?_|refine a0a ?_|(apply bRx<;>intro h<;>try (exfalso;(try dsimp only at h);omega)))
 all_goals (conv=>whnf)
 all_goals first
  |(exfalso;omega)
  |exact a0d rfl
  |trace_state
def ofW (l:List Int):Nat->List Int
 |0=> [0,0]
 |k+1=>stW (ofW l k) (l.getD k 0)
theorem y0o (l:List Int) (n:Nat) (hl:l.length=n) (h6:n<=1000) (hr:∀k,k<n->2<=l.getD k 0/\l.getD k 0<=128):FC Tryz.prog 2 74 [.sl 1 0 0 n] [(1,some (.one true (.cols n [.sc (.ints .i64 l)])))] (a0h (.tup [.arr 2 [.ints .u64 (ofW l n)],.int .i64 0]) [] 2):=by
 refine fEx Tryz.func74 ?_;repeat' ((conv=>whnf);first|refine a0a ?_|(apply bRx<;>intro h<;>try (exfalso;(try dsimp only at h);omega)))
 all_goals (conv=>whnf)
 refine a0m (fun k:Nat=>⟨[(2,.ptr 3 0 0 0),(4,.ptr 2 0 0 0),(10,.sl 1 0 0 n),(11,.int .i64 n),(12,.int .i64 k)],[(1,some (.one true (.cols n [.sc (.ints .i64 l)]))),(2,some (.one false (.cols 2 [.sc (.ints .u64 (ofW l k))]))),(3,some (.one false (.cols 2 [.sc (.ints .u64 [0,0])])))],4⟩) (fun k=>k<=n) (fun k=>n-k) 0 [0,1,3,2] [] wHx (p0V _) ?_;intro k hk;by_cases hlt:k<n
 .have c1:=w0H (ofW l k) (l.getD k 0) (hr k hlt);repeat' ((conv=>whnf);first|refine cPx c1 ?_|refine a0a ?_|(apply bRx<;>intro h<;>try (exfalso;(try dsimp only at h);omega)))
  all_goals (conv=>whnf)
  all_goals first
   |(exfalso;omega)
   |exact ⟨k+1,[0,1,2,3],[],hlt,(by omega),⟨rfl,⟨rfl,rfl,rfl,rfl,congrArg (fun z=>some (SV.int .i64 z)) (a0C (by omega)),trivial⟩,⟨rfl,rfl,rfl,trivial⟩⟩⟩
   |trace_state
 .have e:k=n:=by omega
  subst e;repeat' ((conv=>whnf);first|refine a0a ?_|(apply bRx<;>intro h<;>try (exfalso;(try dsimp only at h);omega)))
  all_goals (conv=>whnf)
  all_goals first
   |(exfalso;omega)
   |exact rOx [0,1] a0c
   |trace_state
end
section
attribute [local irreducible] a0G a0H a0q b0H
theorem l0m (x:Int):∃c:Int,0<=c/\c<=127/\b0C Tryz.prog 148 [.int .u64 x] (.int .i64 c):=by
 have key:∀c:Int,0<=m0I .i64 c 127/\m0I .i64 c 127<=127:=by
  intro c;unfold m0I;have h2:(BitVec.ofInt IntKind.i64.bits c&&&BitVec.ofInt IntKind.i64.bits 127).toNat<=127:=by
   rw [BitVec.toNat_and];exact w0q Nat.and_le_right (by decide)
  rw [a0r (by omega) (by omega)];omega
 obtain ⟨y1,e1⟩:∃y:Int,IntKind.u64.wrap (m0I .u64 (l0F .u64 x 1) 6148914691236517205+m0I .u64 x 6148914691236517205)=y:=⟨_,rfl⟩;obtain ⟨y2,e2⟩:∃y:Int,IntKind.u64.wrap (m0I .u64 (l0F .u64 y1 2) 3689348814741910323+m0I .u64 y1 3689348814741910323)=y:=⟨_,rfl⟩;obtain ⟨y3,e3⟩:∃y:Int,m0I .u64 (IntKind.u64.wrap (l0F .u64 y2 4+y2)) 1085102592571150095=y:=⟨_,rfl⟩;obtain ⟨y4,e4⟩:∃y:Int,IntKind.u64.wrap (y3+l0F .u64 y3 8)=y:=⟨_,rfl⟩;obtain ⟨y5,e5⟩:∃y:Int,IntKind.u64.wrap (y4+l0F .u64 y4 16)=y:=⟨_,rfl⟩;obtain ⟨y6,e6⟩:∃y:Int,IntKind.u64.wrap (y5+l0F .u64 y5 32)=y:=⟨_,rfl⟩;refine ⟨m0I .i64 (IntKind.i64.wrap y6) 127,(key _).1,(key _).2,?_⟩;refine fEx Tryz.func148 ?_;repeat' ((conv=>whnf);first|(rw [e1])|(rw [e2])|(rw [e3])|(rw [e4])|(rw [e5])|(rw [e6])|refine a0a ?_|(apply bRx<;>intro h<;>try (exfalso;(try dsimp only at h);omega)))
 all_goals (conv=>whnf)
 exact a0d rfl
theorem s0r (l:List Int):∃c:Int,0<=c/\c<=254/\b0C Tryz.prog 109 [.arr 2 [.ints .u64 l]] (.int .i64 c):=by
 have c0:=n0H l;obtain ⟨a,ha,ha2,c1⟩:=l0m ((clW l).getD 0 0);obtain ⟨b,hb,hb2,c2⟩:=l0m ((clW l).getD 1 0);have w1:IntKind.i64.wrap (a+b)=a+b:=a0r (by omega) (by omega);generalize clW l=m at*;refine ⟨a+b,by omega,by omega,?_⟩;refine fEx Tryz.func109 ?_;repeat' ((conv=>whnf);first|refine cPx c0 ?_|refine cPx c1 ?_|refine cPx c2 ?_|refine a0a ?_|(apply bRx<;>intro h<;>try (exfalso;(try dsimp only at h);omega)))
 all_goals (conv=>whnf)
 exact a0d (congrArg (SV.int .i64) w1)
def lsW (l:List Int):Nat->List Int
 |0=> []
 |j+1=>if m0I .u64 (l.getD (((j:Int)+1)/64).toNat 0) (v0M ((j:Int)+2))≠0 then lsW l j++ [(j:Int)+2] else lsW l j
theorem q0r (l:List Int):∀j,(lsW l j).length<=j
 |0=>h0Z _
 |j+1=>by
  have:=q0r l j;simp only [lsW];split
  .rw [p0P,r0Y];omega
  .omega
theorem u0R (l:List Int):FC Tryz.prog 1 75 [.arr 2 [.ints .u64 l]] [] (a0h (.sl 1 0 0 (lsW l 127).length) [(1,some (.one false (.cols (lsW l 127).length [.sc (.ints .i64 (lsW l 127))])))] 2):=by
 obtain ⟨c,hc,hc2,c0⟩:=s0r l;refine fEx Tryz.func75 ?_;repeat' ((conv=>whnf);first|refine cPx c0 ?_|refine a0a ?_|(apply bRx<;>intro h<;>try (exfalso;(try dsimp only at h);omega)))
 all_goals (conv=>whnf)
 refine a0m (fun j:Nat=>⟨[(1,.ptr 2 0 0 0),(3,.sl 1 0 0 (lsW l j).length),(4,.int .i64 ((j:Int)+2))],[(1,some (.one false (.cols (lsW l j).length [.sc (.ints .i64 (lsW l j))]))),(2,some (.one false (.cols 2 [.sc (.ints .u64 l)])))],3⟩) (fun j=>j<=127) (fun j=>127-j) 0 [0,2,1] [] wHx (p0V _) ?_;intro j hj;by_cases hlt:j<127
 .have c1:=n0G ((j:Int)+2) (by omega);have hl:=q0r l j;have e1:((j:Int)+2-1)/64=((j:Int)+1)/64:=by congr 1;omega
  rw [e1] at c1;have hi:0<=((j:Int)+1)/64/\((j:Int)+1)/64<2:=by omega
  have hst:lsW l (j+1)=if m0I .u64 (l.getD (((j:Int)+1)/64).toNat 0) (v0M ((j:Int)+2))≠0 then lsW l j++ [(j:Int)+2] else lsW l j:=rfl
  generalize ((j:Int)+1)/64=i at*;generalize v0M ((j:Int)+2)=b at*;repeat' ((conv=>whnf);first|refine cPx c1 ?_|refine a0a ?_|(apply bRx<;>intro h<;>try (exfalso;(try dsimp only at h);omega)))
  all_goals (conv=>whnf)
  all_goals first
   |(exfalso;omega)
   |skip
  .rw [if_pos h] at hst;refine ⟨j+1,[0,4,2],[],(by omega),(by omega),?_⟩;try dsimp only
   rw [hst,p0P,r0Y];exact ⟨rfl,⟨rfl,rfl,congrArg (fun z=>some (SV.int .i64 z)) (by rw [a0r (by omega) (by omega)];omega),trivial⟩,⟨rfl,rfl,trivial⟩⟩
  .rw [if_neg (fun e=>e h)] at hst;refine ⟨j+1,[0,1,2],[],(by omega),(by omega),?_⟩;try dsimp only
   rw [hst];exact ⟨rfl,⟨rfl,rfl,congrArg (fun z=>some (SV.int .i64 z)) (by rw [a0r (by omega) (by omega)];omega),trivial⟩,⟨rfl,rfl,trivial⟩⟩
 .have e:j=127:=by omega
  subst e;repeat' ((conv=>whnf);first|refine a0a ?_|(apply bRx<;>intro h<;>try (exfalso;(try dsimp only at h);omega)))
  all_goals (conv=>whnf)
  all_goals first
   |(exfalso;omega)
   |exact rOx [0,1] (a0b a0c)
   |trace_state
def rqQ:List Int:= [2,3,4,7,11,32,37,41,42,49]
def rqA:List Int:= [2,3,4,7,11,32,37,39,41,42,49]
def rqR:List Int:= [2,4,11,32,37,49,56]
def x0O (t:Int) (l:List Int):Prop:=(t=100/\l=rqQ)\/(t=120/\l=rqA)\/(t=420/\l=rqR)
theorem y0p {t:Int} {l:List Int} (h:x0O t l):(∀k,k<l.length->2<=l.getD k 0/\l.getD k 0<=128)/\l.length<=1000/\lsW (ofW l l.length) 127=l:=by
 rcases h with ⟨_,rfl⟩|⟨_,rfl⟩|⟨_,rfl⟩
 all_goals refine ⟨by decide,by decide,by kernel_rfl⟩
theorem m0u {t:Int} {l:List Int} (h:x0O t l):FC Tryz.prog 1 50 [.int .i64 t] [] (a0h (.sl 1 0 0 l.length) [(1,some (.one false (.cols l.length [.sc (.ints .i64 l)])))] 2):=by
 obtain ⟨h1,h2,h3⟩:=y0p h;have c0:=y0o l l.length rfl h2 h1;have c1:=u0R (ofW l l.length);rw [h3] at c1;generalize ofW l l.length=m at*;rcases h with ⟨rfl,rfl⟩|⟨rfl,rfl⟩|⟨rfl,rfl⟩
 all_goals refine fEx Tryz.func50 ?_
 all_goals repeat' ((conv=>whnf);first|refine cOx (l:= [0,1]) c0 ?_|refine cOx (l:= [0]) c1 ?_|refine a0a ?_|(apply bRx<;>intro h<;>try (exfalso;(try dsimp only at h);omega)))
 all_goals (conv=>whnf)
 all_goals exact rOx [0,3] (a0b a0c)
end
section
attribute [local irreducible] a0G a0H a0q b0H
def dcN:List Int:= [2,3,4,7,11,14,18,32,37,38,39,41,42,48,49,52,54,55,56,59,70,95,100]
def dcS:List ByteArray:= [⟨#[99,97,114,100]⟩,⟨#[112,114,111,99,101,115,115]⟩,⟨#[97,109,111,117,110,116]⟩,⟨#[115,101,110,116]⟩,⟨#[116,114,97,99,101]⟩,⟨#[101,120,112,105,114,121]⟩,⟨#[99,97,116,101,103,111,114,121]⟩,⟨#[97,99,113,117,105,114,101,114]⟩,⟨#[114,101,102,101,114,101,110,99,101]⟩,⟨#[97,112,112,114,111,118,97,108]⟩,⟨#[114,101,115,112,111,110,115,101]⟩,⟨#[116,101,114,109,105,110,97,108]⟩,⟨#[109,101,114,99,104,97,110,116]⟩,⟨#[101,120,116,114,97]⟩,⟨#[99,117,114,114,101,110,99,121]⟩,⟨#[99,114,121,112,116,111,103,114,97,109]⟩,⟨#[112,97,114,116,105,97,108]⟩,⟨#[99,111,117,110,116,101,114]⟩,⟨#[111,114,105,103,105,110,97,108]⟩,⟨#[110,111,110,99,101]⟩,⟨#[110,101,116,119,111,114,107]⟩,⟨#[114,97,105,115,101]⟩,⟨#[114,101,99,101,105,118,101,114]⟩]
def dcK:List Int:= [1,1,1,1,1,1,1,2,1,1,1,2,2,2,2,3,1,1,1,2,1,1,2]
def dcL:List Int:= [19,6,12,13,6,5,4,16,12,6,2,8,16,255,3,16,12,6,12,8,3,12,16]
def dcV:List Int:= [2,0,0,0,0,0,0,2,0,0,0,0,2,3,0,0,0,0,0,0,0,0,2]
def x0P (n:Int) (i:Nat):Prop:=i<23/\dcN.getD i 0=n/\∀j,j<i->dcN.getD j 0≠n
theorem u0S (n:Int) (i:Nat) (h:x0P n i):p0a Tryz.prog glT 72 [.int .i64 n] (.tup [.agg [.int .i64 (dcN.getD i 0),.str (dcS.getD i ⟨#[]⟩),.int .i64 (dcK.getD i 0),.int .i64 (dcL.getD i 0),.int .i64 (dcV.getD i 0)],.bool true]):=by
 obtain ⟨hi,hn,hf⟩:=h;refine fEx Tryz.func72 ?_;repeat' ((conv=>whnf);first|refine a0a ?_|(apply bRx<;>intro h<;>try (exfalso;(try dsimp only at h);omega)))
 all_goals (conv=>whnf)
 refine a0m (fun k:Nat=>⟨[(0,.int .i64 n),(2,.ptr 1 0 0 0),(6,.arr 23 [.ints .i64 dcN,.strs dcS,.ints .i64 dcK,.ints .i64 dcL,.ints .i64 dcV]),(7,.int .i64 k)],[(1,some (.one false (.cells [.int .i64 0,.str ⟨#[]⟩,.int .i64 0,.int .i64 0,.int .i64 0])))],2⟩) (fun k=>k<=i) (fun k=>i-k) 0 [0,1] [] wHx (p0V _) ?_;intro k hk;by_cases hlt:k<i
 .have:=hf k hlt;repeat' ((conv=>whnf);first|refine a0a ?_|(apply bRx<;>intro h<;>try (exfalso;(try dsimp only at h);omega)))
  all_goals (conv=>whnf)
  all_goals first
   |(exfalso;omega)
   |exact absurd h this
   |exact ⟨k+1,[0,1],[],hlt,(by omega),⟨rfl,⟨rfl,rfl,rfl,congrArg (fun z=>some (SV.int .i64 z)) (a0C (by omega)),trivial⟩,⟨rfl,trivial⟩⟩⟩
   |trace_state
 .have e:k=i:=by omega
  subst e;repeat' ((conv=>whnf);first|refine a0a ?_|(apply bRx<;>intro h<;>try (exfalso;(try dsimp only at h);omega)))
  all_goals (conv=>whnf)
  all_goals first
   |(exfalso;omega)
   |exact absurd hn h
   |exact a0d rfl
   |trace_state
theorem f0s {n:Int} {i:Nat} (h:(decide (i<23)&&decide (dcN.getD i 0=n)&&(List.range i).all (fun j=> !decide (dcN.getD j 0=n)))=true):x0P n i:=by
 simp only [e0z,decide_eq_true_eq,y0j,w0s,n0r,decide_eq_false_iff_not] at h;exact ⟨h.1.1,h.1.2,h.2⟩
def kdC (kind c:Int):Prop:=(kind=1/\48<=c/\c<=57)\/(kind=2/\32<=c/\c<=126)
def kdB (kind:Int) (s:ByteArray):Prop:=(∀k,k<s.size->kdC kind (a0f s (k:Int)))/\(kind=1\/kind=2)/\(kind=2->s.size=0\/(a0f s 0≠32/\a0f s ((s.size:Int)-1)≠32))
theorem q0s (s:ByteArray) (h:s.size=0\/a0f s 0≠32) (hz:s.size<=1000000):b0C Tryz.prog 139 [.str s,.int .u8 32] (.str s):=by
 refine fEx Tryz.func139 ?_;repeat' ((conv=>whnf);first|refine a0a ?_|(apply bRx<;>intro h<;>try (exfalso;(try dsimp only at h);omega)))
 all_goals (conv=>whnf)
 refine a0m (fun _:Unit=>⟨[(0,.str s),(1,.int .u8 32)],[],1⟩) (fun _=>True) (fun _=>0) () [0] [] wHx trivial ?_;intro _ _;repeat' ((conv=>whnf);first|refine a0a ?_|(apply bRx<;>intro h<;>try (exfalso;(try dsimp only at h);omega)))
 all_goals (conv=>whnf)
 all_goals first
  |(exfalso;omega)
  |exact a0d rfl
  |trace_state
theorem q0t (s:ByteArray) (hx:s.size=0\/a0f s ((s.size:Int)-1)≠32) (hz:s.size<=1000000):b0C Tryz.prog 140 [.str s,.int .u8 32] (.str s):=by
 refine fEx Tryz.func140 ?_;repeat' ((conv=>whnf);first|refine a0a ?_|(apply bRx<;>intro h<;>try (exfalso;(try dsimp only at h);omega)))
 all_goals (conv=>whnf)
 refine a0m (fun _:Unit=>⟨[(0,.str s),(1,.int .u8 32)],[],1⟩) (fun _=>True) (fun _=>0) () [0] [] wHx trivial ?_;intro _ _;have w1:IntKind.i64.wrap ((s.size:Int)-1)=(s.size:Int)-1:=a0r (by omega) (by omega);repeat' ((conv=>whnf);first|(rw [w1])|refine a0a ?_|(apply bRx<;>intro h<;>try (exfalso;(try dsimp only at h);omega)))
 all_goals (conv=>whnf)
 all_goals first
  |(exfalso;omega)
  |exact a0d rfl
  |trace_state
theorem s0s (s:ByteArray) (hx:s.size=0\/(a0f s 0≠32/\a0f s ((s.size:Int)-1)≠32)) (hz:s.size<=1000000):b0C Tryz.prog 107 [.str s,.str ⟨#[32]⟩] (.str s):=by
 have c0:=q0s s (hx.imp id And.left) hz;have c1:=q0t s (hx.imp id And.right) hz;have e:a0f ⟨#[32]⟩ 0=32:=rfl;refine fEx Tryz.func107 ?_;repeat' ((conv=>whnf);first|refine cPx c0 ?_|refine cPx c1 ?_|refine a0a ?_|(apply bRx<;>intro h<;>try (exfalso;(try dsimp only at h);omega)))
 all_goals (conv=>whnf)
 all_goals first
  |(exfalso;omega)
  |exact a0d rfl
  |(exfalso;simp at*;done)
  |trace_state
theorem m0v (kind:Int) (s:ByteArray) (h:kdB kind s) (hz:s.size<=1000000):b0C Tryz.prog 73 [.int .i64 kind,.str s] (.bool true):=by
 obtain ⟨h1,h2,h3⟩:=h;refine fEx Tryz.func73 ?_;repeat' ((conv=>whnf);first|refine a0a ?_|(apply bRx<;>intro h<;>try (exfalso;(try dsimp only at h);omega)))
 all_goals (conv=>whnf)
 refine a0m (fun k:Nat=>⟨[(0,.int .i64 kind),(1,.str s),(10,.int .i64 s.size),(11,.int .i64 k)],[],1⟩) (fun k=>k<=s.size) (fun k=>s.size-k) 0 [0] [] wHx (p0V _) ?_;intro k hk;by_cases hlt:k<s.size
 .have hc:=h1 k hlt;unfold kdC at hc;have hb:=d0H s (k:Int);rcases hc with ⟨hk1,hc1,hc2⟩|⟨hk1,hc1,hc2⟩
  .repeat' ((conv=>whnf);first|refine a0a ?_|(apply bRx<;>intro h<;>try (exfalso;(try dsimp only at h);omega)))
   all_goals (conv=>whnf)
   all_goals first
    |(exfalso;omega)
    |exact ⟨k+1,[0],[],(by omega),(by omega),⟨rfl,⟨rfl,rfl,rfl,congrArg (fun z=>some (SV.int .i64 z)) (a0C (by omega)),trivial⟩,trivial⟩⟩
    |(simp_all;done)
    |trace_state
  .repeat' ((conv=>whnf);first|refine a0a ?_|(apply bRx<;>intro h<;>try (exfalso;(try dsimp only at h);omega)))
   all_goals (conv=>whnf)
   all_goals first
    |(exfalso;omega)
    |exact ⟨k+1,[0],[],(by omega),(by omega),⟨rfl,⟨rfl,rfl,rfl,congrArg (fun z=>some (SV.int .i64 z)) (a0C (by omega)),trivial⟩,trivial⟩⟩
    |(simp_all;done)
    |trace_state
 .by_cases hk2:kind=2
  .have c0:=s0s s (h3 hk2) hz;have es:seq s s=true:=by simp [seq]
   repeat' ((conv=>whnf);first|refine cPx c0 ?_|refine a0a ?_|(apply bRx<;>intro h<;>try (exfalso;(try dsimp only at h);omega)))
   all_goals (conv=>whnf)
   all_goals first
    |(exfalso;omega)
    |exact a0d (by rw [es];rfl)
    |exact a0d rfl
    |trace_state
  .repeat' ((conv=>whnf);first|refine a0a ?_|(apply bRx<;>intro h<;>try (exfalso;(try dsimp only at h);omega)))
   all_goals (conv=>whnf)
   all_goals first
    |(exfalso;omega)
    |exact a0d rfl
    |trace_state
def f0t (n:Int) (s:ByteArray):Prop:=∃i,x0P n i/\((if 0<dcV.getD i 0\/n=41 then 1 else dcL.getD i 0)<=(s.size:Int))/\(s.size:Int)<=dcL.getD i 0/\kdB (dcK.getD i 0) s
theorem w0I:∀i,dcL.getD i 0<=255:=by
 intro i;rcases m0k i 23 with h|h
 .revert h;revert i;decide
 .rw [List.getD,h0t (by simpa [dcL] using h)];decide
theorem n0I (n:Int) (s:ByteArray) (h:f0t n s):p0a Tryz.prog glT 49 [.int .i64 n,.str s] (.int .i64 0):=by
 obtain ⟨i,hi,h1,h2,h3⟩:=h;have hb:=w0I i;have c0:=u0S n i hi;have c1:=m0v _ s h3 (by omega);rw [hi.2.1] at c0;generalize dcL.getD i 0=L at*;generalize dcV.getD i 0=V at*;generalize dcK.getD i 0=K at*;generalize dcS.getD i ⟨#[]⟩=N at*;refine fEx Tryz.func49 ?_;repeat' ((conv=>whnf);first|refine cGx c0 ?_|refine cPx c1 ?_|refine a0a ?_|(apply bRx<;>intro h<;>try (exfalso;(try dsimp only at h);omega)))
 all_goals (conv=>whnf)
 all_goals first
  |(exfalso;omega)
  |exact a0d rfl
  |(exfalso;(split at h1<;>omega);done)
  |trace_state
end
section
attribute [local irreducible] a0G a0H a0q b0H
structure MsOk (t:Int) (E:List El) (l:List Int):Prop where
 rq:x0O t l
 asc:∀k,k+1<E.length->(E.getD k el0).1<(E.getD (k+1) el0).1
 all:∀k,k<E.length->f0t (E.getD k el0).1 (E.getD k el0).2
 has:∀k,k<l.length->geB E (l.getD k 0)=true
 len:E.length<=100
theorem y0Y {t:Int} {l:List Int} (h:x0O t l):1<=t/\t<=9999/\l.length<=11:=by
 rcases h with ⟨rfl,rfl⟩|⟨rfl,rfl⟩|⟨rfl,rfl⟩<;>decide
theorem l0n (t:Int) (E:List El) (l:List Int) (n:Nat) (hn:E.length=n) (hM:MsOk t E l):FC Tryz.prog 2 23 [.agg [.int .i64 t,.sl 1 0 0 n]] [(0,some (GB glT)),(1,some (.one true (elK n E)))] (a0h (.int .i64 0) [] 2):=by
 have ht:=y0Y hM.rq;have hlen:=hM.len;have c3:=m0u hM.rq;refine fEx Tryz.func23 ?_;repeat' ((conv=>whnf);first|refine a0a ?_|(apply bRx<;>intro h<;>try (exfalso;(try dsimp only at h);omega)))
 all_goals (conv=>whnf)
 all_goals first
  |(exfalso;omega)
  |skip
 refine a0m (fun k:Nat=>⟨[(1,.ptr 2 0 0 0),(3,.int .i64 ((k:Int)+1))],[(0,some (GB glT)),(1,some (.one true (elK n E))),(2,some (.one false (.cells [.int .i64 t,.sl 1 0 0 n])))],3⟩) (fun k=>k<=n) (fun k=>n-k) 0 [0,1,2] [] wHx (p0V _) ?_;intro k hk;by_cases hlt:k+1<n
 .have ha:=hM.asc k (by omega);have w1:IntKind.i64.wrap ((k:Int)+1-1)=(k:Int):=by rw [a0r (by omega) (by omega)];omega
  have e1:(E.map (·.1)).getD (((k:Int)+1).toNat+0) 0=(E.getD (k+1) el0).1:=by rw [o0H,show ((k:Int)+1).toNat+0=k+1 by omega]
  have e2:(E.map (·.1)).getD ((k:Int).toNat+0) 0=(E.getD k el0).1:=by rw [o0H];rfl
  repeat' ((conv=>whnf);first|(rw [w1])|refine a0a ?_|(apply bRx<;>intro h<;>try (exfalso;(try dsimp only at h);omega)))
  all_goals (conv=>whnf)
  all_goals first
   |(exfalso;omega)
   |(exfalso;rw [e1,e2] at h;omega)
   |exact ⟨k+1,[0,1,2],[],by omega,by omega,⟨rfl,⟨rfl,congrArg (fun z=>some (SV.int .i64 z)) (by rw [a0r (by omega) (by omega)];omega),trivial⟩,⟨gwk rfl,rfl,rfl,trivial⟩⟩⟩
   |trace_state
 .repeat' ((conv=>whnf);first|refine a0a ?_|(apply bRx<;>intro h<;>try (exfalso;(try dsimp only at h);omega)))
  all_goals (conv=>whnf)
  all_goals first
   |(exfalso;omega)
   |skip
  refine a0m (fun k:Nat=>⟨[(1,.ptr 2 0 0 0),(41,.sl 1 0 0 n),(42,.int .i64 n),(43,.int .i64 k)],[(0,some (GB glT)),(1,some (.one true (elK n E))),(2,some (.one false (.cells [.int .i64 t,.sl 1 0 0 n])))],3⟩) (fun k=>k<=n) (fun k=>n-k) 0 [0,1,2] [] wHx (p0V _) ?_;intro k hk;by_cases hlt:k<n
  .have c1:=n0I _ _ (hM.all k (by omega));rw [<-o0H,<-v0L] at c1;repeat' ((conv=>whnf);first|refine cGx c1 ?_|refine a0a ?_|(apply bRx<;>intro h<;>try (exfalso;(try dsimp only at h);omega)))
   all_goals (conv=>whnf)
   all_goals first
    |(exfalso;omega)
    |exact ⟨k+1,[0,1,2],[],by omega,by omega,⟨rfl,⟨rfl,rfl,rfl,congrArg (fun z=>some (SV.int .i64 z)) (a0C (by omega)),trivial⟩,⟨gwk rfl,rfl,rfl,trivial⟩⟩⟩
    |trace_state
  .repeat' ((conv=>whnf);first|refine cOx (l:= [0]) c3 ?_|refine a0a ?_|(apply bRx<;>intro h<;>try (exfalso;(try dsimp only at h);omega)))
   all_goals (conv=>whnf)
   all_goals first
    |(exfalso;omega)
    |skip
   refine a0m (fun k:Nat=>⟨[(1,.ptr 2 0 0 0),(58,.sl 3 0 0 l.length),(59,.int .i64 l.length),(60,.int .i64 k)],[(0,some (GB glT)),(1,some (.one true (elK n E))),(2,some (.one false (.cells [.int .i64 t,.sl 1 0 0 n]))),(3,some (.one false (.cols l.length [.sc (.ints .i64 l)])))],4⟩) (fun k=>k<=l.length) (fun k=>l.length-k) 0 [0,1,2,3] [] wHx (p0V _) ?_;intro k hk;by_cases hlt:k<l.length
   .have c1:=b0z E n t (l.getD k 0) hn (by omega);rw [hM.has k hlt] at c1;repeat' ((conv=>whnf);first|refine cOx (l:= [0,1]) c1 ?_|refine a0a ?_|(apply bRx<;>intro h<;>try (exfalso;(try dsimp only at h);omega)))
    all_goals (conv=>whnf)
    all_goals first
     |(exfalso;omega)
     |exact ⟨k+1,[0,1,2,3],[],hlt,by omega,⟨rfl,⟨rfl,rfl,rfl,congrArg (fun z=>some (SV.int .i64 z)) (a0C (by omega)),trivial⟩,⟨gwk rfl,rfl,rfl,rfl,trivial⟩⟩⟩
     |trace_state
   .repeat' ((conv=>whnf);first|refine a0a ?_|(apply bRx<;>intro h<;>try (exfalso;(try dsimp only at h);omega)))
    all_goals (conv=>whnf)
    all_goals first
     |(exfalso;omega)
     |exact rOx [0,1] a0c
     |trace_state
end
section
attribute [local irreducible] a0G a0H a0q b0H
theorem y0q {s:ByteArray} (h:w0u s 256 c0H=true) {x:Int} (h0:0<=x) (h1:x<256):a0f s x=(c0H x.toNat:Int):=by
 have:=j0H h (i:=x.toNat) (by omega);rw [<-this,z0U h0]
theorem o0I {u:Nat} (h:u<256):c0H u<=8:=by
 rcases m0k 8 (c0H u) with h1|h1
 .have hu:1<=u:=by
   rcases o0B u with e|e
   .subst e;simp [c0H] at h1
   .exact e
  have a:=h0A u hu;have:2^8<=2^(c0H u-1):=t0f (by omega) (by omega);omega
 .exact h1
theorem u0T {u c:Nat} {x:Int} (hx:x=((u/2^c:Nat):Int)) (h:c=0\/2^c<=u):(c:Int)+(c0H x.toNat:Int)=(c0H u:Int):=by
 subst hx;rw [s0b];rcases h with rfl|h
 .simp
 .rw [o0E u c h];omega
theorem c0N {u c:Nat} {x n:Int} (hn:n=(c:Int)) (hc:c<=56) (hx:x=((u/2^c:Nat):Int)) (h:c=0\/2^c<=u) (h1:x<256):IntKind.i64.wrap (n+IntKind.i64.wrap (c0H x.toNat:Int))=(c0H u:Int):=by
 have hb:=o0I (u:=x.toNat) (by omega);rw [a0r (n:=(c0H x.toNat:Int)) (by omega) (by omega),a0r (by omega) (by omega),hn];exact u0T hx h
theorem o0J (u:Nat) (hu:u<18446744073709551616):b0C Tryz.prog 150 [.int .u64 u] (.int .i64 (c0H u)):=by
 refine fEx Tryz.func150 ?_;repeat' ((conv=>whnf);first|(refine a0j ⟨by (try simp only [f0n,d0U,d0V,d0W] at*);(try simp (disch:=omega) only [a0A]);omega,h0S (n:=256) (by kernel_rfl) (by (try simp only [f0n,d0U,d0V,d0W] at*);(try simp (disch:=omega) only [a0A]);omega)⟩ ?_)|refine a0a ?_|(apply bRx<;>intro h<;>try (exfalso;(try dsimp only at h);omega)))
 all_goals (conv=>whnf)
 all_goals refine a0d ?_
 all_goals simp only [c0X]
 all_goals (try simp only [f0n,d0U,d0V,d0W] at*)
 all_goals rw [y0q (by kernel_rfl) (by (try simp (disch:=omega) only [a0A]);omega) (by (try simp (disch:=omega) only [a0A]);omega)]
 all_goals refine congrArg (SV.int .i64) ?_
 .exact c0N (c:=56) (by first|rfl|((try simp (disch:=omega) only [a0A]);omega)) (by omega) (by (try simp (disch:=omega) only [a0A]);omega) (by omega) (by (try simp (disch:=omega) only [a0A]);omega)
 .exact c0N (c:=48) (by first|rfl|((try simp (disch:=omega) only [a0A]);omega)) (by omega) (by (try simp (disch:=omega) only [a0A]);omega) (by omega) (by (try simp (disch:=omega) only [a0A]);omega)
 .exact c0N (c:=40) (by first|rfl|((try simp (disch:=omega) only [a0A]);omega)) (by omega) (by (try simp (disch:=omega) only [a0A]);omega) (by omega) (by (try simp (disch:=omega) only [a0A]);omega)
 .exact c0N (c:=32) (by first|rfl|((try simp (disch:=omega) only [a0A]);omega)) (by omega) (by (try simp (disch:=omega) only [a0A]);omega) (by omega) (by (try simp (disch:=omega) only [a0A]);omega)
 .exact c0N (c:=24) (by first|rfl|((try simp (disch:=omega) only [a0A]);omega)) (by omega) (by (try simp (disch:=omega) only [a0A]);omega) (by omega) (by (try simp (disch:=omega) only [a0A]);omega)
 .exact c0N (c:=16) (by first|rfl|((try simp (disch:=omega) only [a0A]);omega)) (by omega) (by (try simp (disch:=omega) only [a0A]);omega) (by omega) (by (try simp (disch:=omega) only [a0A]);omega)
 .exact c0N (c:=8) (by first|rfl|((try simp (disch:=omega) only [a0A]);omega)) (by omega) (by (try simp (disch:=omega) only [a0A]);omega) (by omega) (by (try simp (disch:=omega) only [a0A]);omega)
 .exact c0N (c:=0) (by first|rfl|((try simp (disch:=omega) only [a0A]);omega)) (by omega) (by (try simp (disch:=omega) only [a0A]);omega) (by omega) (by (try simp (disch:=omega) only [a0A]);omega)
theorem h0U (n:Nat) (hn:n<=64):b0C Tryz.prog 149 [.int .i64 n] (.int .i64 (n*78913/262144:Nat)):=by
 refine fEx Tryz.func149 ?_;repeat' ((conv=>whnf);first|refine a0a ?_|(apply bRx<;>intro h<;>try (exfalso;(try dsimp only at h);omega)))
 all_goals (conv=>whnf)
 all_goals refine a0d ?_
 all_goals simp only [c0X]
 all_goals (try simp (disch:=omega) only [a0A])
 all_goals rfl
theorem o0K (b:Bool):b0C Tryz.prog 151 [.bool b] (.int .i64 (if b=true then 1 else 0)):=by
 refine fEx Tryz.func151 ?_;repeat' ((conv=>whnf);first|refine a0a ?_|(apply bRx<;>intro h<;>try (exfalso;(try dsimp only at h);omega)))
 all_goals (conv=>whnf)
 all_goals exact a0d (by simp [c0X,h,cv])
end
section
attribute [local irreducible] a0G a0H a0q b0H
def t0s:List Int:= [1,10,100,1000,10000,100000,1000000,10000000,100000000,1000000000,10000000000,100000000000,1000000000000,10000000000000,100000000000000,1000000000000000,10000000000000000,100000000000000000,1000000000000000000,10000000000000000000]
theorem s0t:∀k,k<20->t0s.getD k 0=((10^k:Nat):Int):=by decide+kernel
theorem e0n (u:Nat) (h1:1<=u) (hu:u<18446744073709551616):p0a Tryz.prog glT 113 [.int .u64 u] (.int .i64 (b0Q u)):=by
 have c1:=o0J u hu;have hb:=l0e (u:=u) hu;have c2:=h0U (c0H u) hb;have hk:c0H u*78913/262144<20:=by omega
 have hn:=s0g h1 hu;have hp:=s0t _ hk;refine fEx Tryz.func113 ?_;generalize c0H u*78913/262144=k at*;repeat' ((conv=>whnf);first|refine cPx c1 ?_|refine cPx c2 ?_|refine cPx (o0K _) ?_|refine a0a ?_|(apply bRx<;>intro h<;>try (exfalso;(try dsimp only at h);omega)))
 all_goals (conv=>whnf)
 all_goals refine a0d ?_
 all_goals simp only [c0X]
 all_goals refine congrArg (SV.int .i64) ?_
 have e:∀b:Bool,b=decide ((t0s.getD k 0)<=(u:Int))->IntKind.i64.wrap ((k:Int)+if b=true then 1 else 0)=(b0Q u:Int):=by
  intro b hb;subst hb;rw [hn,hp];by_cases h:10^k<=u
  .have h':((10^k:Nat):Int)<=(u:Int):=Int.ofNat_le.2 h;rw [if_pos h,decide_eq_true h',if_pos rfl,a0r (by omega) (by omega)];rfl
  .have h':¬((10^k:Nat):Int)<=(u:Int):=fun x=>h (Int.ofNat_le.1 x)
   rw [if_neg h,decide_eq_false h',if_neg (by simp),a0r (by omega) (by omega)];rfl
 exact e _ rfl
theorem q0u:∀n,n<100->(n<10->h0y (b0Q n) n= [((48+n:Nat):Int)])/\(¬n<10->h0y (b0Q n) n= [((48+n/10:Nat):Int),((48+n%10:Nat):Int)]):=by
 intro n hn;constructor
 .intro h;rw [b0Q,if_pos h];simp [h0y];omega
 .intro h;rw [b0Q,if_neg h,b0Q,if_pos (by omega)];simp [h0y];omega
theorem f0u {s:ByteArray} {a n:Nat} (h:a+n<=s.size) (l:List Int) (hl:l.length=n) (hg:∀i,i<n->a0f s ((a+i:Nat):Int)=l.getD i 0):s.extract a (a+n)=a0u l:=by
 have h1:s.data.toList.length=s.size:=by simp
 have:(s.extract a (a+n)).data.toList=(a0u l).data.toList:=by
  unfold a0u;simp only [w0j,z0Q,z0V];apply z0E;intro i;by_cases hi:i<n
  .rw [w0p,if_pos (by omega),z0A,f0N (by omega)];rw [m0i,f0N (by omega)];simp only [l0C,Option.some.injEq];have hh:=hg i hi;unfold a0f at hh;rw [s0b,List.getD,f0N (by omega),List.getD,f0N (by omega)] at hh;simp only [t0O] at hh;rw [<-hh,s0b];exact (UInt8.ofNat_toNat).symm
  .rw [w0p,if_neg (by omega),h0t (by simp;omega)]
 have e2:∀x y:ByteArray,x.data.toList=y.data.toList->x=y:=by
  intro x y h;cases x;cases y;simp at h;congr
 exact e2 _ _ this
theorem o0L (n:Nat) (hn:n<100):b0C Tryz.prog 112 [.int .i64 n] (.str (dec n)):=by
 obtain ⟨d1,d2⟩:=q0u n hn;refine fEx Tryz.func112 ?_;repeat' ((conv=>whnf);first|(refine a0j ⟨by (try simp (disch:=omega) only [a0A]);omega,by (try simp (disch:=omega) only [a0A]);omega,w0t (n:=36) (by kernel_rfl) (by (try simp (disch:=omega) only [a0A]);omega)⟩ ?_)|(refine a0j ⟨by (try simp (disch:=omega) only [a0A]);omega,by (try simp (disch:=omega) only [a0A]);omega,w0t (n:=200) (by kernel_rfl) (by (try simp (disch:=omega) only [a0A]);omega)⟩ ?_)|refine a0a ?_|(apply bRx<;>intro h<;>try (exfalso;(try dsimp only at h);omega)))
 all_goals (conv=>whnf)
 all_goals refine a0d ?_
 all_goals simp only [c0X]
 all_goals refine congrArg SV.str ?_
 all_goals unfold dec
 .rw [d1 (by omega),show (IntKind.i64.wrap ((n:Int)+1)).toNat=n+1 from by (try simp (disch:=omega) only [a0A]);omega];refine f0u (n:=1) (by show n+1<=36;omega) _ rfl ?_;intro i hi;have e:i=0:=by omega
  subst e;refine Eq.trans (j0H (n:=36) (f:=fun i=>if i<10 then 48+i else 87+i) (by kernel_rfl) (i:=n+0) (by omega)) ?_;rw [if_pos (by omega)];rfl
 .rw [d2 (by omega),show (IntKind.i64.wrap ((n:Int)*2)).toNat=n*2 from by (try simp (disch:=omega) only [a0A]);omega,show (IntKind.i64.wrap (IntKind.i64.wrap ((n:Int)*2)+2)).toNat=n*2+2 from by (try simp (disch:=omega) only [a0A]);omega];refine f0u (n:=2) (by show n*2+2<=200;omega) _ rfl ?_;intro i hi;rcases (show i=0\/i=1 by omega) with rfl|rfl
  .rw [show ((n*2+0:Nat):Int)=(n:Int)*2 by omega,d0n (by kernel_rfl) (by omega) (by omega)];rfl
  .rw [show ((n*2+1:Nat):Int)=(n:Int)*2+1 by omega,f0o (by kernel_rfl) (by omega) (by omega)];rfl
set_option maxHeartbeats 2000000 in
theorem d0d (l:List Int) (N o n U:Nat) (hl:l.length=N) (hN:o+n<=N) (hN2:N<=1000) (hU:U<10^n) (hU2:U<18446744073709551616):
  FC Tryz.prog 2 114 [.sl 1 0 o n,.int .u64 U] [(1,some (.one false (.cols N [.sc (.ints .u8 l)])))] (a0h (.tup []) [(1,some (.one false (.cols N [.sc (.ints .u8 (m0o l N o n U n))])))] 2):=by
 refine fEx Tryz.func114 ?_
 (conv=>whnf)
 refine a0m (fun m:Nat=>⟨[(0,.sl 1 0 o n),(1,.int .u64 (U/10^m:Nat)),(4,.int .i64 (n-m:Nat))],[(1,some (.one false (.cols N [.sc (.ints .u8 (m0o l N o n U m))])))],2⟩) (fun m=>m<=n) (fun m=>n-m) 0 [0,1] [] ⟨rfl,⟨rfl,?_,rfl,trivial⟩,⟨?_,trivial⟩⟩ (by omega) ?_
 .simp only [Nat.pow_zero,Nat.div_one];rfl
 .rw [l0g hl];rfl
 intro m hm;have hu:U/10^m<=U:=Nat.div_le_self _ _;have hdm:U/10^m<10^(n-m):=by
  rw [y0L (Nat.pow_pos (by omega)),<-Nat.pow_add,show n-m+m=n from by omega];exact hU
 generalize hq:U/10^m=q at*;by_cases h8:8<=n-m
 .repeat' ((conv=>whnf);first|(refine a0j ⟨by (try simp (disch:=omega) only [a0A]);omega,h0S (n:=200) (by kernel_rfl) (by (try simp (disch:=omega) only [a0A]);omega)⟩ ?_)|(refine a0j ⟨by (try simp (disch:=omega) only [a0A]);omega,by (try simp (disch:=omega) only [a0A]);omega⟩ ?_)|(refine a0j (by (try simp (disch:=omega) only [a0A]);omega) ?_)|refine a0a ?_|(apply bRx<;>intro h<;>try (exfalso;(try dsimp only at h);omega)))
  all_goals (conv=>whnf)
  refine ⟨m+8,[0,1],[],by omega,by omega,⟨rfl,⟨rfl,?_,?_,trivial⟩,⟨?_,trivial⟩⟩⟩
  .refine congrArg (fun z=>some (SV.int .u64 z)) ?_
   (try simp (disch:=omega) only [a0A])
   simp only [a0E,hq,Nat.reducePow];omega
  .refine congrArg (fun z=>some (SV.int .i64 z)) ?_
   (try simp (disch:=omega) only [a0A])
   omega
  .refine congrArg (fun z=>some (HB.one false (.cols N [.sc (.ints .u8 z)]))) ?_;rw [a0n (m:=m),a0n (m:=m+1),a0n (m:=m+2),a0n (m:=m+3),a0n (m:=m+4),a0n (m:=m+5),a0n (m:=m+6),a0n (m:=m+7)];all_goals first|omega|((try simp (disch:=omega) only [a0A]);omega)|((try simp (disch:=omega) only [a0A]);rw [f0o (by kernel_rfl) (by omega) (by omega)];simp only [a0E,hq,Nat.reducePow];omega)|((try simp (disch:=omega) only [a0A]);rw [d0n (by kernel_rfl) (by omega) (by omega)];simp only [a0E,hq,Nat.reducePow];omega)
 .have hk:n-m=0\/n-m=1\/n-m=2\/n-m=3\/n-m=4\/n-m=5\/n-m=6\/n-m=7:=by omega
  rcases hk with hk|hk|hk|hk|hk|hk|hk|hk
  .obtain rfl:n=m+0:=by omega
   have hk':q<10^0:=by simpa [hk] using hdm
   repeat' ((conv=>whnf);first|(refine a0j ⟨by (try simp (disch:=omega) only [a0A]);omega,h0S (n:=200) (by kernel_rfl) (by (try simp (disch:=omega) only [a0A]);omega)⟩ ?_)|(refine a0j ⟨by (try simp (disch:=omega) only [a0A]);omega,by (try simp (disch:=omega) only [a0A]);omega⟩ ?_)|(refine a0j (by (try simp (disch:=omega) only [a0A]);omega) ?_)|((refine g0e (fun h=> ?_) (fun h=> ?_))<;>try (exfalso;revert h;(try simp (disch:=omega) only [a0A]);omega))|refine a0a ?_|(apply bRx<;>intro h<;>try (exfalso;(try dsimp only at h);omega)))
   all_goals (conv=>whnf)
   refine a0y (l:= [0,1]) rfl rfl ⟨?_,trivial⟩ (a0b a0c);refine congrArg (fun z=>some (HB.one false (.cols N [.sc (.ints .u8 z)]))) ?_;rfl
  .obtain rfl:n=m+1:=by omega
   have hk':q<10^1:=by simpa [hk] using hdm
   repeat' ((conv=>whnf);first|(refine a0j ⟨by (try simp (disch:=omega) only [a0A]);omega,h0S (n:=200) (by kernel_rfl) (by (try simp (disch:=omega) only [a0A]);omega)⟩ ?_)|(refine a0j ⟨by (try simp (disch:=omega) only [a0A]);omega,by (try simp (disch:=omega) only [a0A]);omega⟩ ?_)|(refine a0j (by (try simp (disch:=omega) only [a0A]);omega) ?_)|((refine g0e (fun h=> ?_) (fun h=> ?_))<;>try (exfalso;revert h;(try simp (disch:=omega) only [a0A]);omega))|refine a0a ?_|(apply bRx<;>intro h<;>try (exfalso;(try dsimp only at h);omega)))
   all_goals (conv=>whnf)
   refine a0y (l:= [0,1]) rfl rfl ⟨?_,trivial⟩ (a0b a0c);refine congrArg (fun z=>some (HB.one false (.cols N [.sc (.ints .u8 z)]))) ?_;rw [a0n (m:=m)];all_goals first|omega|((try simp (disch:=omega) only [a0A]);omega)|((try simp (disch:=omega) only [a0A]);rw [f0o (by kernel_rfl) (by omega) (by omega)];simp only [a0E,hq,Nat.reducePow];omega)|((try simp (disch:=omega) only [a0A]);rw [d0n (by kernel_rfl) (by omega) (by omega)];simp only [a0E,hq,Nat.reducePow];omega)|((try simp (disch:=omega) only [a0A]);simp only [a0E,hq,Nat.reducePow];omega)
  .obtain rfl:n=m+2:=by omega
   have hk':q<10^2:=by simpa [hk] using hdm
   repeat' ((conv=>whnf);first|(refine a0j ⟨by (try simp (disch:=omega) only [a0A]);omega,h0S (n:=200) (by kernel_rfl) (by (try simp (disch:=omega) only [a0A]);omega)⟩ ?_)|(refine a0j ⟨by (try simp (disch:=omega) only [a0A]);omega,by (try simp (disch:=omega) only [a0A]);omega⟩ ?_)|(refine a0j (by (try simp (disch:=omega) only [a0A]);omega) ?_)|((refine g0e (fun h=> ?_) (fun h=> ?_))<;>try (exfalso;revert h;(try simp (disch:=omega) only [a0A]);omega))|refine a0a ?_|(apply bRx<;>intro h<;>try (exfalso;(try dsimp only at h);omega)))
   all_goals (conv=>whnf)
   refine a0y (l:= [0,1]) rfl rfl ⟨?_,trivial⟩ (a0b a0c);refine congrArg (fun z=>some (HB.one false (.cols N [.sc (.ints .u8 z)]))) ?_;rw [a0n (m:=m),a0n (m:=m+1)];all_goals first|omega|((try simp (disch:=omega) only [a0A]);omega)|((try simp (disch:=omega) only [a0A]);rw [f0o (by kernel_rfl) (by omega) (by omega)];simp only [a0E,hq,Nat.reducePow];omega)|((try simp (disch:=omega) only [a0A]);rw [d0n (by kernel_rfl) (by omega) (by omega)];simp only [a0E,hq,Nat.reducePow];omega)|((try simp (disch:=omega) only [a0A]);simp only [a0E,hq,Nat.reducePow];omega)
  .obtain rfl:n=m+3:=by omega
   have hk':q<10^3:=by simpa [hk] using hdm
   repeat' ((conv=>whnf);first|(refine a0j ⟨by (try simp (disch:=omega) only [a0A]);omega,h0S (n:=200) (by kernel_rfl) (by (try simp (disch:=omega) only [a0A]);omega)⟩ ?_)|(refine a0j ⟨by (try simp (disch:=omega) only [a0A]);omega,by (try simp (disch:=omega) only [a0A]);omega⟩ ?_)|(refine a0j (by (try simp (disch:=omega) only [a0A]);omega) ?_)|((refine g0e (fun h=> ?_) (fun h=> ?_))<;>try (exfalso;revert h;(try simp (disch:=omega) only [a0A]);omega))|refine a0a ?_|(apply bRx<;>intro h<;>try (exfalso;(try dsimp only at h);omega)))
   all_goals (conv=>whnf)
   refine a0y (l:= [0,1]) rfl rfl ⟨?_,trivial⟩ (a0b a0c);refine congrArg (fun z=>some (HB.one false (.cols N [.sc (.ints .u8 z)]))) ?_;rw [a0n (m:=m),a0n (m:=m+1),a0n (m:=m+2)];all_goals first|omega|((try simp (disch:=omega) only [a0A]);omega)|((try simp (disch:=omega) only [a0A]);rw [f0o (by kernel_rfl) (by omega) (by omega)];simp only [a0E,hq,Nat.reducePow];omega)|((try simp (disch:=omega) only [a0A]);rw [d0n (by kernel_rfl) (by omega) (by omega)];simp only [a0E,hq,Nat.reducePow];omega)|((try simp (disch:=omega) only [a0A]);simp only [a0E,hq,Nat.reducePow];omega)
  .obtain rfl:n=m+4:=by omega
   have hk':q<10^4:=by simpa [hk] using hdm
   repeat' ((conv=>whnf);first|(refine a0j ⟨by (try simp (disch:=omega) only [a0A]);omega,h0S (n:=200) (by kernel_rfl) (by (try simp (disch:=omega) only [a0A]);omega)⟩ ?_)|(refine a0j ⟨by (try simp (disch:=omega) only [a0A]);omega,by (try simp (disch:=omega) only [a0A]);omega⟩ ?_)|(refine a0j (by (try simp (disch:=omega) only [a0A]);omega) ?_)|((refine g0e (fun h=> ?_) (fun h=> ?_))<;>try (exfalso;revert h;(try simp (disch:=omega) only [a0A]);omega))|refine a0a ?_|(apply bRx<;>intro h<;>try (exfalso;(try dsimp only at h);omega)))
   all_goals (conv=>whnf)
   refine a0y (l:= [0,1]) rfl rfl ⟨?_,trivial⟩ (a0b a0c);refine congrArg (fun z=>some (HB.one false (.cols N [.sc (.ints .u8 z)]))) ?_;rw [a0n (m:=m),a0n (m:=m+1),a0n (m:=m+2),a0n (m:=m+3)];all_goals first|omega|((try simp (disch:=omega) only [a0A]);omega)|((try simp (disch:=omega) only [a0A]);rw [f0o (by kernel_rfl) (by omega) (by omega)];simp only [a0E,hq,Nat.reducePow];omega)|((try simp (disch:=omega) only [a0A]);rw [d0n (by kernel_rfl) (by omega) (by omega)];simp only [a0E,hq,Nat.reducePow];omega)|((try simp (disch:=omega) only [a0A]);simp only [a0E,hq,Nat.reducePow];omega)
  .obtain rfl:n=m+5:=by omega
   have hk':q<10^5:=by simpa [hk] using hdm
   repeat' ((conv=>whnf);first|(refine a0j ⟨by (try simp (disch:=omega) only [a0A]);omega,h0S (n:=200) (by kernel_rfl) (by (try simp (disch:=omega) only [a0A]);omega)⟩ ?_)|(refine a0j ⟨by (try simp (disch:=omega) only [a0A]);omega,by (try simp (disch:=omega) only [a0A]);omega⟩ ?_)|(refine a0j (by (try simp (disch:=omega) only [a0A]);omega) ?_)|((refine g0e (fun h=> ?_) (fun h=> ?_))<;>try (exfalso;revert h;(try simp (disch:=omega) only [a0A]);omega))|refine a0a ?_|(apply bRx<;>intro h<;>try (exfalso;(try dsimp only at h);omega)))
   all_goals (conv=>whnf)
   refine a0y (l:= [0,1]) rfl rfl ⟨?_,trivial⟩ (a0b a0c);refine congrArg (fun z=>some (HB.one false (.cols N [.sc (.ints .u8 z)]))) ?_;rw [a0n (m:=m),a0n (m:=m+1),a0n (m:=m+2),a0n (m:=m+3),a0n (m:=m+4)];all_goals first|omega|((try simp (disch:=omega) only [a0A]);omega)|((try simp (disch:=omega) only [a0A]);rw [f0o (by kernel_rfl) (by omega) (by omega)];simp only [a0E,hq,Nat.reducePow];omega)|((try simp (disch:=omega) only [a0A]);rw [d0n (by kernel_rfl) (by omega) (by omega)];simp only [a0E,hq,Nat.reducePow];omega)|((try simp (disch:=omega) only [a0A]);simp only [a0E,hq,Nat.reducePow];omega)
  .obtain rfl:n=m+6:=by omega
   have hk':q<10^6:=by simpa [hk] using hdm
   repeat' ((conv=>whnf);first|(refine a0j ⟨by (try simp (disch:=omega) only [a0A]);omega,h0S (n:=200) (by kernel_rfl) (by (try simp (disch:=omega) only [a0A]);omega)⟩ ?_)|(refine a0j ⟨by (try simp (disch:=omega) only [a0A]);omega,by (try simp (disch:=omega) only [a0A]);omega⟩ ?_)|(refine a0j (by (try simp (disch:=omega) only [a0A]);omega) ?_)|((refine g0e (fun h=> ?_) (fun h=> ?_))<;>try (exfalso;revert h;(try simp (disch:=omega) only [a0A]);omega))|refine a0a ?_|(apply bRx<;>intro h<;>try (exfalso;(try dsimp only at h);omega)))
   all_goals (conv=>whnf)
   refine a0y (l:= [0,1]) rfl rfl ⟨?_,trivial⟩ (a0b a0c);refine congrArg (fun z=>some (HB.one false (.cols N [.sc (.ints .u8 z)]))) ?_;rw [a0n (m:=m),a0n (m:=m+1),a0n (m:=m+2),a0n (m:=m+3),a0n (m:=m+4),a0n (m:=m+5)];all_goals first|omega|((try simp (disch:=omega) only [a0A]);omega)|((try simp (disch:=omega) only [a0A]);rw [f0o (by kernel_rfl) (by omega) (by omega)];simp only [a0E,hq,Nat.reducePow];omega)|((try simp (disch:=omega) only [a0A]);rw [d0n (by kernel_rfl) (by omega) (by omega)];simp only [a0E,hq,Nat.reducePow];omega)|((try simp (disch:=omega) only [a0A]);simp only [a0E,hq,Nat.reducePow];omega)
  .obtain rfl:n=m+7:=by omega
   have hk':q<10^7:=by simpa [hk] using hdm
   repeat' ((conv=>whnf);first|(refine a0j ⟨by (try simp (disch:=omega) only [a0A]);omega,h0S (n:=200) (by kernel_rfl) (by (try simp (disch:=omega) only [a0A]);omega)⟩ ?_)|(refine a0j ⟨by (try simp (disch:=omega) only [a0A]);omega,by (try simp (disch:=omega) only [a0A]);omega⟩ ?_)|(refine a0j (by (try simp (disch:=omega) only [a0A]);omega) ?_)|((refine g0e (fun h=> ?_) (fun h=> ?_))<;>try (exfalso;revert h;(try simp (disch:=omega) only [a0A]);omega))|refine a0a ?_|(apply bRx<;>intro h<;>try (exfalso;(try dsimp only at h);omega)))
   all_goals (conv=>whnf)
   refine a0y (l:= [0,1]) rfl rfl ⟨?_,trivial⟩ (a0b a0c);refine congrArg (fun z=>some (HB.one false (.cols N [.sc (.ints .u8 z)]))) ?_;rw [a0n (m:=m),a0n (m:=m+1),a0n (m:=m+2),a0n (m:=m+3),a0n (m:=m+4),a0n (m:=m+5),a0n (m:=m+6)];all_goals first|omega|((try simp (disch:=omega) only [a0A]);omega)|((try simp (disch:=omega) only [a0A]);rw [f0o (by kernel_rfl) (by omega) (by omega)];simp only [a0E,hq,Nat.reducePow];omega)|((try simp (disch:=omega) only [a0A]);rw [d0n (by kernel_rfl) (by omega) (by omega)];simp only [a0E,hq,Nat.reducePow];omega)|((try simp (disch:=omega) only [a0A]);simp only [a0E,hq,Nat.reducePow];omega)
end
section
attribute [local irreducible] a0G a0H a0q b0H
theorem q0v {u:Nat} (h:u<18446744073709551616):b0Q u<=20:=by
 rcases m0k 20 (b0Q u) with h1|h1
 .have hu:1<=u:=by
   rcases o0B u with e|e
   .subst e;rw [b0Q,if_pos (by omega)] at h1;omega
   .exact e
  have a:=m0l u hu;have:10^20<=10^(b0Q u-1):=t0f (by omega) (by omega);omega
 .exact h1
theorem d0K (i:Int) (h1: -9223372036854775808<=i) (h2:i<=9223372036854775807):p0a Tryz.prog glT 79 [.int .i64 i,.int .i64 10] (.str (l0d i)):=by
 refine fEx Tryz.func79 ?_;by_cases hs:0<=i/\i<100
 .have c:=o0L i.toNat (by omega);rw [z0U hs.1] at c;repeat' ((conv=>whnf);first|refine cPx c ?_|refine a0a ?_|(apply bRx<;>intro h<;>try (exfalso;(try dsimp only at h);omega)))
  all_goals (conv=>whnf)
  all_goals refine a0d ?_
  unfold l0d;rw [if_neg (by omega)];rfl
 .by_cases hi:i<0
  .have e:IntKind.u64.wrap (0-IntKind.u64.wrap i)=(i.natAbs:Int):=by
    simp only [IntKind.wrap,IntKind.bits,IntKind.signed];simp;omega
   have hb:i.natAbs<18446744073709551616:=by omega
   have hn:=q0v hb;have hp:=g0w i.natAbs;have c2:=e0n i.natAbs (by omega) hb;rw [<-e] at c2;have en:(IntKind.i64.wrap (1+(b0Q i.natAbs:Int))).toNat=1+b0Q i.natAbs:=by (try simp (disch:=omega) only [a0A]);omega
   have en':(IntKind.i64.wrap (1+(b0Q i.natAbs:Int))).toNat-Int.toNat 1=b0Q i.natAbs:=by rw [en];simp
   have c3:=d0d (List.replicate 24 0) 24 (Int.toNat 1) ((IntKind.i64.wrap (1+(b0Q i.natAbs:Int))).toNat-Int.toNat 1) i.natAbs rfl (by rw [en'];show 1+_<=24;omega) (by omega) (by rw [en'];exact j0G _) hb;rw [<-e] at c3;repeat' ((conv=>whnf);first|refine cGx c2 ?_|refine cOx (l:= [0,1]) c3 ?_|(refine a0j ⟨by (try simp (disch:=omega) only [a0A]);omega,by (try simp (disch:=omega) only [a0A]);omega,by (try simp (disch:=omega) only [a0A]);omega⟩ ?_)|(refine a0j (by (try simp (disch:=omega) only [a0A]);omega) ?_)|refine a0a ?_|(apply bRx<;>intro h<;>try (exfalso;(try dsimp only at h);omega)))
   all_goals (conv=>whnf)
   all_goals refine a0d ?_
   unfold l0d;rw [if_pos hi];refine congrArg SV.str (congrArg a0u ?_);rw [en',en];refine Eq.trans (s0h (n:=b0Q i.natAbs) (by rw [h0B];omega)) ?_;rw [show Int.toNat 1=1 from rfl,j0I (by omega)]
  .have e:IntKind.u64.wrap i=(i.toNat:Int):=by (try simp (disch:=omega) only [a0A]);omega
   have hb:i.toNat<18446744073709551616:=by omega
   have hn:=q0v hb;have hp:=g0w i.toNat;have c2:=e0n i.toNat (by omega) hb;rw [<-e] at c2;have en:(IntKind.i64.wrap (1+(b0Q i.toNat:Int))).toNat=1+b0Q i.toNat:=by (try simp (disch:=omega) only [a0A]);omega
   have en':(IntKind.i64.wrap (1+(b0Q i.toNat:Int))).toNat-Int.toNat 1=b0Q i.toNat:=by rw [en];simp
   have c3:=d0d (List.replicate 24 0) 24 (Int.toNat 1) ((IntKind.i64.wrap (1+(b0Q i.toNat:Int))).toNat-Int.toNat 1) i.toNat rfl (by rw [en'];show 1+_<=24;omega) (by omega) (by rw [en'];exact j0G _) hb;rw [<-e] at c3;repeat' ((conv=>whnf);first|refine cGx c2 ?_|refine cOx (l:= [0,1]) c3 ?_|(refine a0j ⟨by (try simp (disch:=omega) only [a0A]);omega,by (try simp (disch:=omega) only [a0A]);omega,by (try simp (disch:=omega) only [a0A]);omega⟩ ?_)|(refine a0j (by (try simp (disch:=omega) only [a0A]);omega) ?_)|refine a0a ?_|(apply bRx<;>intro h<;>try (exfalso;(try dsimp only at h);omega)))
   all_goals (conv=>whnf)
   all_goals refine a0d ?_
   unfold l0d dec;rw [if_neg hi];refine congrArg SV.str (congrArg a0u ?_);rw [en',show Int.toNat 1=1 from rfl,j0I (by omega)]
theorem h0V (i:Int) (h1: -9223372036854775808<=i) (h2:i<=9223372036854775807):p0a Tryz.prog glT 54 [.int .i64 i,.int .i64 10] (.str (l0d i)):=by
 have c:=d0K i h1 h2;refine fEx Tryz.func54 ?_;repeat' ((conv=>whnf);first|refine cGx c ?_|refine a0a ?_|(apply bRx<;>intro h<;>try (exfalso;(try dsimp only at h);omega)))
 all_goals (conv=>whnf)
 all_goals exact a0d rfl
end
end Go.Proofs.YtedoefigabpmpaaGreatDoor
namespace Go.Sy
open Go.RowKit
theorem h0G {x:Nat} (h:x<18446744073709551616):m0I .u64 (x:Int) 4294967295=((x%4294967296:Nat):Int):=by
 have h1:(BitVec.ofInt 64 (x:Int)&&&BitVec.ofInt 64 4294967295).toNat=x%4294967296:=by
  rw [BitVec.toNat_and,BitVec.toNat_ofInt,BitVec.toNat_ofInt];rw [show ((x:Int)%((2^64:Nat):Int)).toNat=x by omega,show ((4294967295:Int)%((2^64:Nat):Int)).toNat=2^32-1 by decide,Nat.and_two_pow_sub_one_eq_mod]
 show IntKind.u64.wrap (((BitVec.ofInt 64 (x:Int)&&&BitVec.ofInt 64 4294967295).toNat:Nat):Int)=_;rw [h1];exact h0x (by omega) (by omega)
theorem l0o (x:Nat):IntKind.u64.wrap (x:Int)=((x%18446744073709551616:Nat):Int):=by
 simp only [IntKind.wrap,IntKind.bits,IntKind.signed];simp
theorem s0u {x s:Nat} (h:s<=64):l0F .u64 (x:Int) (s:Int)=((x/2^s:Nat):Int):=by
 rw [f0m (k:= .u64) s h];simp
theorem w0J {x y x0 x1 y0 y1:Nat} (hx:x=x1*4294967296+x0) (hy:y=y1*4294967296+y0):x*y=(x1*y1)*18446744073709551616+(x1*y0)*4294967296+(x0*y1)*4294967296+x0*y0:=by
 subst hx;subst hy;simp only [Nat.add_mul,Nat.mul_add];have e1:x1*4294967296*(y1*4294967296)=x1*y1*18446744073709551616:=by
  rw [z0J,Nat.mul_left_comm 4294967296 y1,<-z0J]
 have e2:x1*4294967296*y0=x1*y0*4294967296:=by rw [z0J,z0F 4294967296,<-z0J]
 have e3:x0*(y1*4294967296)=x0*y1*4294967296:=by rw [z0J]
 omega
theorem n0J {a b:Nat} (ha:a<4294967296) (hb:b<4294967296):a*b<=18446744065119617025:=by
 have:=Nat.mul_le_mul (show a<=4294967295 by omega) (show b<=4294967295 by omega);omega
structure KD (u32 u1 Y1 Y0 Q:Nat):Prop where
 b1:u1<4294967296
 b0:Y0<4294967296
 n1:2147483648<=Y1
 n2:Y1<4294967296
 lt:u32<Y1*4294967296+Y0
 q:Q=(u32*4294967296+u1)/(Y1*4294967296+Y0)
section
variable {u32 u1 Y1 Y0 Q:Nat} (k:KD u32 u1 Y1 Y0 Q)
include k
theorem KD.eq {q r:Nat} (hr:r+q*Y1=u32) (hq:Q<=q) (h:q*Y0<=4294967296*r+u1):q=Q:=by
 refine Nat.le_antisymm ?_ hq;rw [k.q,Nat.le_div_iff_mul_le (by have:=k.n1;omega),Nat.mul_add,<-z0J];subst hr;rw [Nat.add_mul];omega
end
end Go.Sy
namespace Go.Proofs.YtedoefigabpmpaaGreatDoor
open Go.RowKit Go.Sy
section
attribute [local irreducible] a0G a0H a0q b0H
theorem n0K {x:Nat}:l0F .u64 (x:Int) 32=((x/4294967296:Nat):Int):=s0u (s:=32) (by omega)
theorem x0Q {a b:Nat} (h:a*b<18446744073709551616):IntKind.u64.wrap ((a:Int)*(b:Int))=((a*b:Nat):Int):=by
 rw [<-Int.natCast_mul];exact h0x (by omega) (by omega)
theorem x0R {a b:Nat} (h:a+b<18446744073709551616):IntKind.u64.wrap ((a:Int)+(b:Int))=((a+b:Nat):Int):=by
 rw [<-Int.natCast_add];exact h0x (by omega) (by omega)
theorem y0Z {k j:IntKind} {a b c d:Int} (h:a=c) (h':b=d):SV.tup [.int k a,.int j b]=SV.tup [.int k c,.int j d]:=by rw [h,h']
theorem o0M (x y:Nat) (hx:x<18446744073709551616) (hy:y<18446744073709551616):b0C Tryz.prog 117 [.int .u64 x,.int .u64 y] (.tup [.int .u64 (x*y/18446744073709551616:Nat),.int .u64 (x*y%18446744073709551616:Nat)]):=by
 refine fEx Tryz.func117 ?_;repeat' ((conv=>whnf);first|refine a0a ?_|(apply bRx<;>intro h<;>try (exfalso;(try dsimp only at h);omega)))
 all_goals (conv=>whnf)
 refine a0d ?_;have e1:=h0G hx;have e3:=h0G hy;have k:=w0J (x:=x) (y:=y) (x0:=x%4294967296) (x1:=x/4294967296) (y0:=y%4294967296) (y1:=y/4294967296) (by omega) (by omega);have w:IntKind.u64.wrap ((x:Int)*(y:Int))=((x*y%18446744073709551616:Nat):Int):=by rw [<-Int.natCast_mul,l0o]
 have a0:x%4294967296<4294967296:=by omega
 have a1:x/4294967296<4294967296:=by omega
 have b0:y%4294967296<4294967296:=by omega
 have b1:y/4294967296<4294967296:=by omega
 simp only [c0X,e1,e3,n0K,w];generalize x%4294967296=x0 at*;generalize x/4294967296=x1 at*;generalize y%4294967296=y0 at*;generalize y/4294967296=y1 at*;have m00:=n0J a0 b0;have m10:=n0J a1 b0;have m01:=n0J a0 b1;have m11:=n0J a1 b1;rw [x0Q (a:=x0) (b:=y0) (by omega),x0Q (a:=x1) (b:=y0) (by omega),x0Q (a:=x0) (b:=y1) (by omega),x0Q (a:=x1) (b:=y1) (by omega),k];generalize x0*y0=S at*;generalize x1*y0=Q at*;generalize x0*y1=R at*;generalize x1*y1=T at*;rw [n0K,x0R (by omega),n0K,h0G (by omega),x0R (by omega),x0R (by omega),n0K,x0R (by omega)];refine y0Z ?_ rfl;omega
end
section
attribute [local irreducible] a0G a0H a0q b0H
theorem l0p {x y:ByteArray} (h:x.data.toList=y.data.toList):x=y:=by
 cases x;cases y;simp at h;congr
theorem s0v {n k w:Nat} (h:n<10^k) (hk:k<=w):h0y w n=List.replicate (w-k) 48++h0y k n:=by
 apply z0E;intro i;by_cases hi:i<w
 .rw [d0X _ _ _ hi];by_cases h2:i<w-k
  .rw [m0j (by simpa using h2),z0i,if_pos h2];have:n/10^(w-1-i)=0:=Nat.div_eq_of_lt (v0J h (t0f (by omega) (by omega)));rw [this];rfl
  .rw [m0f (by simpa using Nat.le_of_not_lt h2),z0t,d0X _ _ _ (by omega)];rw [show k-1-(i-(w-k))=w-1-i from by omega]
 .rw [h0t (by rw [a0l];omega),h0t (by simp [a0l];omega)]
theorem j0P {w n:Nat} {x:Int} (h:x∈h0y w n):48<=x/\x<=57:=by
 obtain ⟨i,hi,rfl⟩:=y0h h;rw [a0l] at hi;have:=d0X w n i hi;rw [f0N (by rw [a0l];exact hi)] at this;simp only [Option.some.injEq] at this;rw [this];omega
theorem a0P (l:List Int):(a0u l).size=l.length:=by simp [a0u,ByteArray.size]
theorem e0o {l:List Int} (h:∀x∈l,0<=x/\x<=255) (i:Nat) (hi:i<l.length):a0f (a0u l) (i:Int)=l.getD i 0:=by
 unfold a0f a0u;rw [s0b];have hm:=h _ (z0R hi);rw [List.getD,f0N (by simpa using hi),List.getD,f0N hi];simp;have:(UInt8.ofNat (l[i].toNat)).toNat=l[i].toNat:=by
  rw [UInt8.toNat_ofNat'];omega
 omega
theorem c0g (a b:List Int):a0u a++a0u b=a0u (a++b):=by
 apply l0p;simp [a0u,ByteArray.data_append]
theorem j0Q (n:Nat):l0d (n:Int)=a0u (h0y (b0Q n) n):=by
 unfold l0d dec;rw [if_neg (by omega),s0b]
theorem f0Q {n w:Nat} (h:n<10^w) (hw:1<=w):b0Q n<=w:=by
 rcases m0k w (b0Q n) with h1|h1
 .by_cases h0:n=0
  .subst h0;rw [b0Q] at h1;simp at h1;omega
  .have:=m0l n (by omega);have h2:=t0f (n:=10) (by omega) (show w<=b0Q n-1 by omega);omega
 .exact h1
theorem s0w (x y:Nat) (hx:x<18446744073709551616) (hy:y<18446744073709551616):b0C Tryz.prog 80 [.int .u64 x,.int .u64 y] (.tup [.int .u64 (x*y/18446744073709551616:Nat),.int .u64 (x*y%18446744073709551616:Nat)]):=by
 have c:=o0M x y hx hy;refine fEx Tryz.func80 ?_;repeat' ((conv=>whnf);first|refine cPx c ?_|refine a0a ?_|(apply bRx<;>intro h<;>try (exfalso;(try dsimp only at h);omega)))
 all_goals (conv=>whnf)
 all_goals exact a0d rfl
def y0r (s p:ByteArray):Bool:=decide (p.size<=s.size)&&seq (s.extract 0 p.size) p
theorem l0q (s p:ByteArray) (hs:s.size<=9223372036854775807):b0C Tryz.prog 118 [.str s,.str p] (.bool (y0r s p)):=by
 refine fEx Tryz.func118 ?_;repeat' ((conv=>whnf);first|refine a0a ?_|(apply bRx<;>intro h<;>try (exfalso;(try dsimp only at h);omega)))
 all_goals (conv=>whnf)
 all_goals refine a0d (congrArg SV.bool ?_)
 all_goals unfold y0r
 .rw [decide_eq_true (by omega)];rfl
 .rw [decide_eq_false (by omega)];rfl
theorem j0R (s p:ByteArray) (hs:s.size<=9223372036854775807):b0C Tryz.prog 81 [.str s,.str p] (.bool (y0r s p)):=by
 have c:=l0q s p hs;refine fEx Tryz.func81 ?_;repeat' ((conv=>whnf);first|refine cPx c ?_|refine a0a ?_|(apply bRx<;>intro h<;>try (exfalso;(try dsimp only at h);omega)))
 all_goals (conv=>whnf)
 all_goals exact a0d rfl
theorem m0w (c:Int) (N n:Nat) (h:n<=N):(a0u (List.replicate N c)).extract 0 n=a0u (List.replicate n c):=by
 apply l0p;simp only [a0u,w0j,z0Q,z0V,Nat.sub_zero,List.drop_zero,List.map_replicate,List.take_replicate];rw [Nat.min_eq_left h]
theorem h0H (n:Nat) (hn:n<=64):b0C Tryz.prog 55 [.str ⟨#[48]⟩,.int .i64 n] (.str (a0u (List.replicate n 48))):=by
 have m:=s0w 1 n (by omega) (by omega);rw [Nat.one_mul,Nat.div_eq_of_lt (by omega),z0G (by omega)] at m;have hp:=fun s hs=>j0R s ⟨#[48]⟩ hs
 have wn:IntKind.u64.wrap (n:Int)=(n:Int):=h0x (by omega) (by omega);rw [<-wn] at m;have wi:IntKind.i64.wrap (IntKind.u64.wrap (n:Int))=(n:Int):=by rw [wn];exact a0r (by omega) (by omega)
 have hle:IntKind.i64.wrap (IntKind.u64.wrap (n:Int))<=64:=by rw [wi];omega
 refine fEx Tryz.func55 ?_;by_cases h0:n=0
 .subst h0;repeat' ((conv=>whnf);first|refine a0a ?_|(apply bRx<;>intro h<;>try (exfalso;(try dsimp only at h);omega)))
  all_goals (conv=>whnf)
  all_goals exact a0d rfl
 .by_cases h1:n=1
  .subst h1;repeat' ((conv=>whnf);first|refine a0a ?_|(apply bRx<;>intro h<;>try (exfalso;(try dsimp only at h);omega)))
   all_goals (conv=>whnf)
   all_goals exact a0d rfl
  .repeat' ((conv=>whnf);first|refine cPx m ?_|refine cPx (hp _ (by decide)) ?_|(refine a0j (show (0:Int)<=0/\0<=IntKind.i64.wrap (IntKind.u64.wrap (n:Int))/\IntKind.i64.wrap (IntKind.u64.wrap (n:Int))<=((64:Nat):Int) from ?_) ?_;(rw [wi];omega))|refine a0a ?_|(apply bRx<;>intro h<;>try (exfalso;(try dsimp only at h);omega)))
   all_goals (conv=>whnf)
   .refine a0d (congrArg SV.str ?_);show (a0u (List.replicate 64 48)).extract 0 (IntKind.i64.wrap (IntKind.u64.wrap (n:Int))).toNat=_;rw [wi,s0b];exact m0w 48 64 n hn
   all_goals exact absurd hle (by assumption)
theorem t0t {U w:Nat} (h:U<10^w) (hw:1<=w):a0u (List.replicate (w-b0Q U) 48)++l0d (U:Int)=dgW w U:=by
 rw [j0Q,c0g];unfold dgW;rw [<-s0v (j0G U) (f0Q h hw)]
theorem b0g (w U:Nat):(dgW w U).size=w:=by unfold dgW;rw [a0P,a0l]
theorem q0w (i:Int) (h1: -9223372036854775808<=i) (h2:i<=9223372036854775807):p0a Tryz.prog glT 76 [.int .i64 i] (.str (l0d i)):=by
 have c:=d0K i h1 h2;have c2:p0a Tryz.prog glT 111 [.int .i64 i] (.str (l0d i)):=by
  refine fEx Tryz.func111 ?_;repeat' ((conv=>whnf);first|refine cGx c ?_|refine a0a ?_|(apply bRx<;>intro h<;>try (exfalso;(try dsimp only at h);omega)))
  all_goals (conv=>whnf)
  exact a0d rfl
 refine fEx Tryz.func76 ?_;repeat' ((conv=>whnf);first|refine cGx c2 ?_|refine a0a ?_|(apply bRx<;>intro h<;>try (exfalso;(try dsimp only at h);omega)))
 all_goals (conv=>whnf)
 exact a0d rfl
theorem q0x (U w:Nat) (h:U<10^w) (hw:1<=w) (hw2:w<=18):p0a Tryz.prog glT 51 [.int .i64 U,.int .i64 w] (.str (dgW w U)):=by
 have hU:U<10^18:=v0J h (t0f (by omega) hw2);have c0:=q0w (U:Int) (by omega) (by omega);have hd:=f0Q h hw;have hz:(l0d (U:Int)).size=b0Q U:=by rw [j0Q,a0P,a0l]
 have c1:=h0H (w-b0Q U) (by omega);have w1:IntKind.i64.wrap ((w:Int)-((l0d (U:Int)).size:Int))=((w-b0Q U:Nat):Int):=by rw [hz,a0r (by omega) (by omega)];omega
 have w2:max (0:Int) ((w-b0Q U:Nat):Int)=((w-b0Q U:Nat):Int):=by omega
 have hz2:(a0u (List.replicate (w-b0Q U) 48)).size=w-b0Q U:=by rw [a0P,z0t]
 rw [<-t0t h hw];generalize l0d (U:Int)=d at*;refine fEx Tryz.func51 ?_;repeat' ((conv=>whnf);first|refine cGx c0 ?_|(rw [w1])|(rw [w2])|refine cPx c1 ?_|refine a0a ?_|(apply bRx<;>intro h<;>try (exfalso;(try dsimp only at h);omega)))
 all_goals (conv=>whnf)
 all_goals exact a0d rfl
theorem lgz (x:UInt8):(ByteArray.mk #[x]).size=1:=rfl
def kyS (t:Int) (E:List El):ByteArray:=dgW 3 (t.toNat/10)++⟨#[47]⟩++geV E 37++⟨#[47]⟩++geV E 56
theorem t0u (t:Int) (E:List El) (n:Nat) (hn:E.length=n) (h6:n<=100000) (ht:t=100\/t=120\/t=420) (hk:geB E 37=true) (h1:(geV E 37).size<=255) (h2:(geV E 56).size<=255):FC Tryz.prog 2 24 [.agg [.int .i64 t,.sl 1 0 0 n]] [(0,some (GB glT)),(1,some (.one true (elK n E)))] (a0h (.str (kyS t E)) [] 2):=by
 have c1:=b0z E n t 37 hn h6;have c2:=b0z E n t 56 hn h6;rw [hk] at c1;have c3:=q0x (t.toNat/10) 3 (by rcases ht with rfl|rfl|rfl<;>decide) (by decide) (by decide);have w1:t.tdiv 10=((t.toNat/10:Nat):Int):=by rcases ht with rfl|rfl|rfl<;>decide
 have w2:IntKind.i64.wrap ((t.toNat/10:Nat):Int)=((t.toNat/10:Nat):Int):=a0r (by omega) (by rcases ht with rfl|rfl|rfl<;>decide);have w3:(((t.toNat/10:Nat):Int)).tmod 2=0:=by rcases ht with rfl|rfl|rfl<;>decide
 have hz:=b0g 3 (t.toNat/10);unfold kyS;generalize geV E 37=a at*;generalize geV E 56=b at*;generalize dgW 3 (t.toNat/10)=d at*;have ht2:1<=t/\t<=9999:=by omega
 generalize t.toNat/10=k at*;refine fEx Tryz.func24 ?_;repeat' ((conv=>whnf);first|refine cOx (l:= [0,1]) c1 ?_|refine cOx (l:= [0,1]) c2 ?_|refine cGx c3 ?_|(rw [w1])|(rw [w2])|(rw [w3])|(refine a0j ?_ ?_;(simp only [ByteArray.size_append,lgz];omega))|refine a0a ?_|(apply bRx<;>intro h<;>try (exfalso;(try dsimp only at h);omega)))
 all_goals (conv=>whnf)
 all_goals first
  |(exfalso;omega)
  |exact rOx [0,1] a0c
  |trace_state
end
section
attribute [local irreducible] a0G a0H a0q b0H
def wiE (E:List El) (n:Int) (v:ByteArray):List El:=inE (n,v) (E.filter (noE n))
theorem t0v (E:List El) (n:Int) (v:ByteArray):(wiE E n v).length=(E.filter (noE n)).length+1:=by
 unfold wiE inE;have:(E.filter (noE n)).findIdx (gtE n)<=(E.filter (noE n)).length:=List.findIdx_le_length;simp only [p0P,x0U,s0a,x0V];omega
theorem n0L (E:List El) (k:Nat) (t n:Int) (v:ByteArray) (hk:E.length=k) (h6:k<=100000) (hv:f0t n v):FC Tryz.prog 2 56 [.agg [.int .i64 t,.sl 1 0 0 k],.int .i64 n,.str v] [(0,some (GB glT)),(1,some (.one true (elK k E)))] (a0h (.tup [.agg [.int .i64 t,.sl 2 0 0 (wiE E n v).length],.int .i64 0]) [(2,some (.one false (elK (wiE E n v).length (wiE E n v))))] 3):=by
 have c0:=n0I n v hv;have c1:=m0s E k t n hk h6;have hle:(E.filter (noE n)).length<=k:=by rw [<-hk];exact z0s _ _
 have c2:=w0D (E.filter (noE n)) _ n v rfl (by omega);rw [t0v];unfold wiE;generalize inE (n,v) (E.filter (noE n))=W at*;generalize E.filter (noE n)=F at*;refine fEx Tryz.func56 ?_;repeat' ((conv=>whnf);first|refine cGx c0 ?_|refine cOx (l:= [0,1]) c1 ?_|refine cOx (l:= [0,5,3]) c2 ?_|refine a0a ?_|(apply bRx<;>intro h<;>try (exfalso;(try dsimp only at h);omega)))
 all_goals (conv=>whnf)
 exact rOx [0,1,7] (a0b a0c)
theorem l0r (t:Int) (ht:t=100\/t=120\/t=420):b0C Tryz.prog 77 [.int .i64 t] (.bool true):=by
 have w:(t.tmod 100=0\/t.tmod 100=20)/\IntKind.i64.wrap (t.tmod 100)=t.tmod 100:=by rcases ht with rfl|rfl|rfl<;>decide
 obtain ⟨w0,w1⟩:=w;rcases w0 with w0|w0
 all_goals refine fEx Tryz.func77 ?_
 all_goals repeat' ((conv=>whnf);first|(rw [w1])|refine a0a ?_|(apply bRx<;>intro h<;>try (exfalso;(try dsimp only at h);omega)))
 all_goals (conv=>whnf)
 all_goals first
  |(exfalso;omega)
  |exact a0d rfl
  |exact a0d (congrArg SV.bool (decide_eq_true w0))
  |trace_state
def rpN:List Int:= [2,4,7,11,32,37,39,41,42,49,56,70,100]
def rpS (E:List El) (code:ByteArray) (n:Int):List El:=if n=39 then [(n,code)] else if geB E n=true then [(n,geV E n)] else []
def rpT (E:List El) (code:ByteArray):Nat->List El
 |0=> []
 |j+1=>rpT E code j++rpS E code (rpN.getD j 0)
def rpE (E:List El) (code:ByteArray):List El:=rpT E code 13
theorem m0x (E:List El) (code:ByteArray):∀j,(rpT E code j).length<=j
 |0=>h0Z _
 |j+1=>by
  have:=m0x E code j;have h2:(rpS E code (rpN.getD j 0)).length<=1:=by
   unfold rpS;split
   .exact h0Z _
   .split
    .exact h0Z _
    .exact p0V _
  simp only [rpT,p0P];omega
theorem q0y (E:List El) (k:Nat) (t:Int) (code:ByteArray) (hk:E.length=k) (h6:k<=100000) (ht:t=100\/t=120\/t=420) (hc:mdB code=true) (hc2:code.size=2):FC Tryz.prog 2 53 [.agg [.int .i64 t,.sl 1 0 0 k],.str code] [(0,some (GB glT)),(1,some (.one true (elK k E)))] (a0h (.tup [.agg [.int .i64 (t+10),.sl 2 0 0 (rpE E code).length],.int .i64 0]) [(2,some (.one false (elK (rpE E code).length (rpE E code))))] 3):=by
 have c0:=l0r t ht;have c1:=f0r code (by omega);rw [hc] at c1;have w1:IntKind.i64.wrap (t+10)=t+10:=a0r (by omega) (by omega);refine fEx Tryz.func53 ?_;repeat' ((conv=>whnf);first|refine cPx c0 ?_|refine cPx c1 ?_|(rw [w1])|refine a0a ?_|(apply bRx<;>intro h<;>try (exfalso;(try dsimp only at h);omega)))
 all_goals (conv=>whnf)
 all_goals first
  |(exfalso;omega)
  |skip
 refine a0m (fun j:Nat=>⟨[(1,.str code),(2,.ptr 2 0 0 0),(4,.ptr 3 0 0 0),(6,.ptr 4 0 0 0),(29,.sl 6 0 0 13),(30,.int .i64 13),(31,.int .i64 j)],[(0,some (GB glT)),(1,some (.one true (elK k E))),(2,some (.one false (.cells [.int .i64 t,.sl 1 0 0 k]))),(3,some (.one false (.cells [.int .i64 0,.nsl]))),(4,some (.one false (.cells [.int .i64 (t+10),.sl 5 0 0 (rpT E code j).length]))),(5,some (.one false (elK (rpT E code j).length (rpT E code j)))),(6,some (.one false (.cols 13 [.sc (.ints .i64 rpN)])))],7⟩) (fun j=>j<=13) (fun j=>13-j) 0 [0,1,2,3,4,6,5] [.cell 4 1 [.sc (.ints .i64 []),.sc (.strs [])]] wHx (p0V _) ?_;intro j hj;have hl:=m0x E code j;by_cases hlt:j<13
 .have c2:=b0z E k t (rpN.getD j 0) hk h6;have hst:rpT E code (j+1)=rpT E code j++rpS E code (rpN.getD j 0):=rfl;have hz:=fun x=>t0p (E:=rpT E code j) (j:=(rpT E code j).length) (a:=rpN.getD j 0) (b:=x)
  by_cases h39:rpN.getD j 0=39
  .rw [show rpS E code (rpN.getD j 0)= [(rpN.getD j 0,code)] from if_pos h39] at hst;repeat' ((conv=>whnf);first|refine cOx (l:= [0,1]) c2 ?_|refine a0a ?_|(apply bRx<;>intro h<;>try (exfalso;(try dsimp only at h);omega)))
   all_goals (conv=>whnf)
   all_goals first
    |(exfalso;omega)
    |exact absurd h39 h
    |exact absurd h39 (by assumption)
    |skip
   refine ⟨j+1,[0,1,2,3,4,8,6],[],hlt,by omega,?_⟩;try dsimp only
   rw [hst,p0P,r0Y];exact ⟨rfl,⟨rfl,rfl,rfl,rfl,rfl,rfl,congrArg (fun z=>some (SV.int .i64 z)) (a0C (by omega)),trivial⟩,⟨gwk rfl,rfl,rfl,rfl,rfl,hz _,rfl,trivial⟩⟩
  .cases hb:geB E (rpN.getD j 0) with
   |true=>
    rw [show rpS E code (rpN.getD j 0)= [(rpN.getD j 0,geV E (rpN.getD j 0))] by unfold rpS;rw [if_neg h39,if_pos hb]] at hst;rw [hb] at c2;generalize geV E (rpN.getD j 0)=v at*;repeat' ((conv=>whnf);first|refine cOx (l:= [0,1]) c2 ?_|refine a0a ?_|(apply bRx<;>intro h<;>try (exfalso;(try dsimp only at h);omega)))
    all_goals (conv=>whnf)
    all_goals first
     |(exfalso;omega)
     |exact absurd h h39
     |skip
    refine ⟨j+1,[0,1,2,3,4,8,6],[],hlt,by omega,?_⟩;try dsimp only
    rw [hst,p0P,r0Y];exact ⟨rfl,⟨rfl,rfl,rfl,rfl,rfl,rfl,congrArg (fun z=>some (SV.int .i64 z)) (a0C (by omega)),trivial⟩,⟨gwk rfl,rfl,rfl,rfl,rfl,hz _,rfl,trivial⟩⟩
   |false=>
    rw [show rpS E code (rpN.getD j 0)= [] by unfold rpS;rw [if_neg h39,if_neg (by rw [hb];decide)],List.append_nil] at hst;rw [hb] at c2;generalize geV E (rpN.getD j 0)=v at*;repeat' ((conv=>whnf);first|refine cOx (l:= [0,1]) c2 ?_|refine a0a ?_|(apply bRx<;>intro h<;>try (exfalso;(try dsimp only at h);omega)))
    all_goals (conv=>whnf)
    all_goals first
     |(exfalso;omega)
     |exact absurd h h39
     |skip
    refine ⟨j+1,[0,1,2,3,4,5,6],[],hlt,by omega,?_⟩;try dsimp only
    rw [hst];exact ⟨rfl,⟨rfl,rfl,rfl,rfl,rfl,rfl,congrArg (fun z=>some (SV.int .i64 z)) (a0C (by omega)),trivial⟩,⟨gwk rfl,rfl,rfl,rfl,rfl,rfl,rfl,trivial⟩⟩
 .have e:j=13:=by omega
  subst e;repeat' ((conv=>whnf);first|refine a0a ?_|(apply bRx<;>intro h<;>try (exfalso;(try dsimp only at h);omega)))
  all_goals (conv=>whnf)
  all_goals first
   |(exfalso;omega)
   |exact rOx [0,1,5] (a0b a0c)
   |trace_state
end
section
attribute [local irreducible] a0G a0H a0q b0H
def reE (E:List El) (code:ByteArray) (U:Nat) (ap:ByteArray):List El:=if U=0 then rpE E code else wiE (wiE (rpE E code) 4 (dgW 12 U)) 38 ap
theorem t0w (E:List El) (code:ByteArray):(rpE E code).length<=13:=m0x E code 13
theorem u0U (E:List El) (n:Int) (v:ByteArray):(wiE E n v).length<=E.length+1:=by
 rw [t0v];have:=z0s (noE n) E;omega
theorem q0z (E:List El) (code:ByteArray) (U:Nat) (ap:ByteArray):(reE E code U ap).length<=15:=by
 unfold reE;have h0:=t0w E code;split
 .omega
 .have h1:=u0U (rpE E code) 4 (dgW 12 U);have h2:=u0U (wiE (rpE E code) 4 (dgW 12 U)) 38 ap;omega
theorem s0x (E:List El) (k:Nat) (t:Int) (code:ByteArray) (U:Nat) (ap:ByteArray) (hk:E.length=k) (h6:k<=100000) (ht:t=100\/t=120\/t=420) (hc:mdB code=true) (hc2:code.size=2) (hU:U<10^12) (h4:U≠0->f0t 4 (dgW 12 U)/\f0t 38 ap):FC Tryz.prog 2 26 [.agg [.int .i64 t,.sl 1 0 0 k],.agg [.str code,.int .i64 U,.str ap]] [(0,some (GB glT)),(1,some (.one true (elK k E)))] (a0h (.tup [.agg [.int .i64 (t+10),.sl 2 0 0 (reE E code U ap).length],.int .i64 0]) [(2,some (.one false (elK (reE E code U ap).length (reE E code U ap))))] 3):=by
 have c1:=q0y E k t code hk h6 ht hc hc2;have hl:=t0w E code;by_cases h0:U=0
 .subst h0;rw [show reE E code 0 ap=rpE E code from if_pos rfl];generalize rpE E code=R at*;refine fEx Tryz.func26 ?_;repeat' ((conv=>whnf);first|refine cOx (l:= [0,1]) c1 ?_|refine a0a ?_|(apply bRx<;>intro h<;>try (exfalso;(try dsimp only at h);omega)))
  all_goals (conv=>whnf)
  all_goals first
   |(exfalso;omega)
   |exact rOx [0,1,5] (a0b a0c)
   |trace_state
 .obtain ⟨h4,h38⟩:=h4 h0;rw [show reE E code U ap=wiE (wiE (rpE E code) 4 (dgW 12 U)) 38 ap from if_neg h0];have hl2:=u0U (rpE E code) 4 (dgW 12 U);have c2:=n0L (rpE E code) _ (t+10) 4 (dgW 12 U) rfl (by omega) h4;have c3:=n0L (wiE (rpE E code) 4 (dgW 12 U)) _ (t+10) 38 ap rfl (by omega) h38;have f:=h0V (U:Int) (by omega) (by omega);have hd:=f0Q hU (by decide);have hz:(l0d (U:Int)).size=b0Q U:=by rw [j0Q,a0P,a0l]
  have hz2:(a0u (List.replicate (12-b0Q U) 48)).size=12-b0Q U:=by rw [a0P,z0t]
  have r0:=h0H (12-b0Q U) (by omega);have w1:IntKind.i64.wrap (12-((l0d (U:Int)).size:Int))=((12-b0Q U:Nat):Int):=by rw [hz,a0r (by omega) (by omega)];omega
  have w2:max (0:Int) ((12-b0Q U:Nat):Int)=((12-b0Q U:Nat):Int):=by omega
  rw [<-t0t hU (by decide)] at c2 c3⊢;generalize l0d (U:Int)=d at*;generalize hW:a0u (List.replicate (12-b0Q U) 48)=z at*;generalize wiE (rpE E code) 4 (z++d)=R1 at*;generalize wiE R1 38 ap=R2 at*;generalize rpE E code=R at*;refine fEx Tryz.func26 ?_;repeat' ((conv=>whnf);first|refine cOx (l:= [0,1]) c1 ?_|refine cGx f ?_|(rw [w1])|(rw [w2])|refine cPx r0 ?_|refine cOx (l:= [0,5]) c2 ?_|refine cOx (l:= [0,7]) c3 ?_|refine a0a ?_|(apply bRx<;>intro h<;>try (exfalso;(try dsimp only at h);omega)))
  all_goals (conv=>whnf)
  exact rOx [0,1,8] (a0b a0c)
end
section
attribute [local irreducible] a0G a0H a0q b0H
structure Us where
 kn:Bool
 d:Int
 s:Int
 c:Int
abbrev Us.z (u:Us):Bool:=u.kn==false&&(decide (u.d=0)&&(decide (u.s=0)&&(decide (u.c=0)&&true)))
def us0:Us:=⟨false,0,0,0⟩
def c0I:ByteArray:=⟨#[52,48,48,48,48,48,48,48,48,48,48,48,48,48,48,50]⟩
abbrev cdB (st:Int) (u:Us):Blk:= .cells [.str c0I,.int .i64 90000,.int .i64 st,.int .i64 999999999999,.int .i64 1000,.bool u.kn,.int .i64 u.d,.int .i64 u.s,.int .i64 u.c]
theorem s0y (st:Int) (u:Us):FC Tryz.prog 2 126 [.ptr 1 0 0 0] [(1,some (.one true (cdB st u)))] (a0h (.int .i64 st) [] 2):=by
 refine fEx Tryz.func126 ?_;repeat' ((conv=>whnf);first|refine a0a ?_|(apply bRx<;>intro h<;>try (exfalso;(try dsimp only at h);omega)))
 all_goals (conv=>whnf)
 all_goals exact rOx [0,1] a0c
theorem q0A (st:Int) (u:Us):FC Tryz.prog 2 127 [.ptr 1 0 0 0] [(1,some (.one true (cdB st u)))] (a0h (.int .i64 90000) [] 2):=by
 refine fEx Tryz.func127 ?_;repeat' ((conv=>whnf);first|refine a0a ?_|(apply bRx<;>intro h<;>try (exfalso;(try dsimp only at h);omega)))
 all_goals (conv=>whnf)
 all_goals exact rOx [0,1] a0c
theorem u0V (st:Int) (u:Us) (date:Int):∃s c:Int,(u=us0->s=0/\c=0)/\FC Tryz.prog 2 130 [.ptr 1 0 0 0,.int .i64 date] [(1,some (.one true (cdB st u)))] (a0h (.tup [.int .i64 s,.int .i64 c]) [] 2):=by
 cases hz:u.z with
 |true=>
  refine ⟨0,0,fun _=>⟨rfl,rfl⟩,?_⟩;refine fEx Tryz.func130 ?_;repeat' ((conv=>whnf);first|refine a0a ?_|(apply bRx<;>intro h<;>try (exfalso;(try dsimp only at h);omega)))
  all_goals (conv=>whnf)
  all_goals first
   |(cases hz.symm.trans h;done)
   |exact rOx [0,1] a0c
   |(exfalso;rename_i h2;cases hz.symm.trans h2;done)
   |trace_state
 |false=>
  have hn:u≠us0:=by rintro rfl;cases hz
  by_cases hd:u.d=date
  .refine ⟨u.s,u.c,fun e=>absurd e hn,?_⟩;refine fEx Tryz.func130 ?_;repeat' ((conv=>whnf);first|refine a0a ?_|(apply bRx<;>intro h<;>try (exfalso;(try dsimp only at h);omega)))
   all_goals (conv=>whnf)
   all_goals first
    |(cases hz.symm.trans h;done)
    |exact absurd hd h
    |exact rOx [0,1] a0c
    |trace_state
  .refine ⟨0,0,fun e=>absurd e hn,?_⟩;refine fEx Tryz.func130 ?_;repeat' ((conv=>whnf);first|refine a0a ?_|(apply bRx<;>intro h<;>try (exfalso;(try dsimp only at h);omega)))
   all_goals (conv=>whnf)
   all_goals first
    |(cases hz.symm.trans h;done)
    |exact absurd h hd
    |exact rOx [0,1] a0c
    |trace_state
theorem e0F (n:Int) (h:0<=n/\n<=999999999999):b0C Tryz.prog 68 [.int .i64 n] (.bool true):=by
 obtain ⟨h1,h2⟩:=h;refine fEx Tryz.func68 ?_;repeat' ((conv=>whnf);first|refine a0a ?_|(apply bRx<;>intro h<;>try (exfalso;(try dsimp only at h);omega)))
 all_goals (conv=>whnf)
 all_goals first
  |(exfalso;omega)
  |exact a0d (congrArg SV.bool (decide_eq_true h2))
  |trace_state
theorem l0s (n:Int) (h:0<=n/\n<=99999):b0C Tryz.prog 67 [.int .i64 n] (.bool true):=by
 obtain ⟨h1,h2⟩:=h;refine fEx Tryz.func67 ?_;repeat' ((conv=>whnf);first|refine a0a ?_|(apply bRx<;>intro h<;>try (exfalso;(try dsimp only at h);omega)))
 all_goals (conv=>whnf)
 all_goals first
  |(exfalso;omega)
  |exact a0d (congrArg SV.bool (decide_eq_true h2))
  |trace_state
theorem q0B (u:Us) (date:Int) (h:0<=date/\date<=90000):FC Tryz.prog 2 162 [.ptr 1 0 0 0,.int .i64 date] [(1,some (.one true (cdB 2 u)))] (a0h (.int .i64 0) [] 2):=by
 have c0:=l0s date (by omega);refine fEx Tryz.func162 ?_;repeat' ((conv=>whnf);first|refine cPx c0 ?_|refine a0a ?_|(apply bRx<;>intro h<;>try (exfalso;(try dsimp only at h);omega)))
 all_goals (conv=>whnf)
 all_goals first
  |(exfalso;omega)
  |exact rOx [0,1] a0c
  |trace_state
theorem w0K (u:Us) (date amt:Int) (hd:0<=date/\date<=90000) (ha:0<=amt/\amt<=999999999999):∃(e:Int) (u':Us),FC Tryz.prog 2 134 [.ptr 1 0 0 0,.int .i64 date,.int .i64 amt] [(1,some (.one false (cdB 2 u)))] (a0h (.int .i64 e) [(1,some (.one false (cdB 2 u')))] 2):=by
 have c0:=q0B u date hd;have c1:=e0F amt ha;cases hz:(u.kn==false&&(decide (u.d=0)&&(decide (u.s=0)&&(decide (u.c=0)&&true)))) with
 |true=>
  by_cases k2:999999999999<IntKind.i64.wrap (0+amt)
  .refine ⟨10,u,?_⟩;refine fEx Tryz.func134 ?_;repeat' ((conv=>whnf);first|refine cOx (l:= [0,1]) c0 ?_|refine cPx c1 ?_|(rw [hz])|refine a0a ?_|(apply bRx<;>intro h<;>try (exfalso;(try dsimp only at h);omega)))
   all_goals (conv=>whnf)
   all_goals first
    |(exfalso;omega)
    |exact rOx [0,1] (a0b a0c)
    |trace_state
  .refine ⟨0,⟨true,date,IntKind.i64.wrap (0+amt),IntKind.i64.wrap (0+1)⟩,?_⟩;refine fEx Tryz.func134 ?_;repeat' ((conv=>whnf);first|refine cOx (l:= [0,1]) c0 ?_|refine cPx c1 ?_|(rw [hz])|refine a0a ?_|(apply bRx<;>intro h<;>try (exfalso;(try dsimp only at h);omega)))
   all_goals (conv=>whnf)
   all_goals first
    |(exfalso;omega)
    |exact rOx [0,1] (a0b a0c)
    |trace_state
 |false=>
  by_cases k0:u.d<date
  .by_cases k2:999999999999<IntKind.i64.wrap (0+amt)
   .refine ⟨10,u,?_⟩;refine fEx Tryz.func134 ?_;repeat' ((conv=>whnf);first|refine cOx (l:= [0,1]) c0 ?_|refine cPx c1 ?_|(rw [hz])|refine a0a ?_|(apply bRx<;>intro h<;>try (exfalso;(try dsimp only at h);omega)))
    all_goals (conv=>whnf)
    all_goals first
     |(exfalso;omega)
     |exact rOx [0,1] (a0b a0c)
     |trace_state
   .refine ⟨0,⟨true,date,IntKind.i64.wrap (0+amt),IntKind.i64.wrap (0+1)⟩,?_⟩;refine fEx Tryz.func134 ?_;repeat' ((conv=>whnf);first|refine cOx (l:= [0,1]) c0 ?_|refine cPx c1 ?_|(rw [hz])|refine a0a ?_|(apply bRx<;>intro h<;>try (exfalso;(try dsimp only at h);omega)))
    all_goals (conv=>whnf)
    all_goals first
     |(exfalso;omega)
     |exact rOx [0,1] (a0b a0c)
     |trace_state
  .by_cases k1:date<u.d
   .refine ⟨14,u,?_⟩;refine fEx Tryz.func134 ?_;repeat' ((conv=>whnf);first|refine cOx (l:= [0,1]) c0 ?_|refine cPx c1 ?_|(rw [hz])|refine a0a ?_|(apply bRx<;>intro h<;>try (exfalso;(try dsimp only at h);omega)))
    all_goals (conv=>whnf)
    all_goals first
     |(exfalso;omega)
     |exact rOx [0,1] (a0b a0c)
     |trace_state
   .by_cases k2:999999999999<IntKind.i64.wrap (u.s+amt)\/1000<IntKind.i64.wrap (u.c+1)
    .refine ⟨10,u,?_⟩;refine fEx Tryz.func134 ?_;repeat' ((conv=>whnf);first|refine cOx (l:= [0,1]) c0 ?_|refine cPx c1 ?_|(rw [hz])|refine a0a ?_|(apply bRx<;>intro h<;>try (exfalso;(try dsimp only at h);omega)))
     all_goals (conv=>whnf)
     all_goals first
      |(exfalso;omega)
      |exact rOx [0,1] (a0b a0c)
      |trace_state
    .refine ⟨0,⟨u.kn,u.d,IntKind.i64.wrap (u.s+amt),IntKind.i64.wrap (u.c+1)⟩,?_⟩;refine fEx Tryz.func134 ?_;repeat' ((conv=>whnf);first|refine cOx (l:= [0,1]) c0 ?_|refine cPx c1 ?_|(rw [hz])|refine a0a ?_|(apply bRx<;>intro h<;>try (exfalso;(try dsimp only at h);omega)))
     all_goals (conv=>whnf)
     all_goals first
      |(exfalso;omega)
      |exact rOx [0,1] (a0b a0c)
      |trace_state
theorem u0W (u:Us) (date amt:Int) (ha:0<=amt/\amt<=999999999999):∃(e:Int) (u':Us),FC Tryz.prog 2 101 [.ptr 1 0 0 0,.int .i64 date,.int .i64 amt] [(1,some (.one false (cdB 2 u)))] (a0h (.int .i64 e) [(1,some (.one false (cdB 2 u')))] 2):=by
 have c1:=e0F amt ha;cases hz:(u.kn==false&&(decide (u.d=0)&&(decide (u.s=0)&&(decide (u.c=0)&&true)))) with
 |true=>
  refine ⟨6,u,?_⟩;refine fEx Tryz.func101 ?_;repeat' ((conv=>whnf);first|refine cPx c1 ?_|(rw [hz])|refine a0a ?_|(apply bRx<;>intro h<;>try (exfalso;(try dsimp only at h);omega)))
  all_goals (conv=>whnf)
  all_goals first
   |(exfalso;omega)
   |exact rOx [0,1] (a0b a0c)
   |trace_state
 |false=>
  by_cases k0:date<u.d
  .refine ⟨14,u,?_⟩;refine fEx Tryz.func101 ?_;repeat' ((conv=>whnf);first|refine cPx c1 ?_|(rw [hz])|refine a0a ?_|(apply bRx<;>intro h<;>try (exfalso;(try dsimp only at h);omega)))
   all_goals (conv=>whnf)
   all_goals first
    |(exfalso;omega)
    |exact rOx [0,1] (a0b a0c)
    |trace_state
  .by_cases k1:date>u.d\/u.c=0\/u.s<amt
   .refine ⟨6,u,?_⟩;refine fEx Tryz.func101 ?_;repeat' ((conv=>whnf);first|refine cPx c1 ?_|(rw [hz])|refine a0a ?_|(apply bRx<;>intro h<;>try (exfalso;(try dsimp only at h);omega)))
    all_goals (conv=>whnf)
    all_goals first
     |(exfalso;omega)
     |exact rOx [0,1] (a0b a0c)
     |trace_state
   .refine ⟨0,⟨u.kn,u.d,IntKind.i64.wrap (u.s-amt),IntKind.i64.wrap (u.c-1)⟩,?_⟩;refine fEx Tryz.func101 ?_;repeat' ((conv=>whnf);first|refine cPx c1 ?_|(rw [hz])|refine a0a ?_|(apply bRx<;>intro h<;>try (exfalso;(try dsimp only at h);omega)))
    all_goals (conv=>whnf)
    all_goals first
     |(exfalso;omega)
     |exact rOx [0,1] (a0b a0c)
     |trace_state
end
section
attribute [local irreducible] a0G a0H a0q b0H
def mkB (c:Int):Bool:=decide (0<=Lib.indexByte [40,41,123,125,44,59,58,61,60,62,43,45,42,37,46] c.toNat.toUInt8)
theorem q0C (c:Int) (h0:0<=c) (h1:c<128):b0C Tryz.prog 102 [.str ⟨#[40,41,123,125,44,59,58,61,60,62,43,45,42,37,46]⟩,.int .i32 c] (.bool (mkB c)):=by
 refine j0w (vals:= [.string ⟨#[40,41,123,125,44,59,58,61,60,62,43,45,42,37,46]⟩,.int .i32 c]) (v:= .bool (mkB c)) (o0C Tryz.func102 (by kernel_rfl) (by kernel_rfl)) ?_ ?_ ?_
 .intro g vs h;simpa [Rvs,Rv] using h
 .intro g;simp [Rv]
 .intro w;have h:=Tryz.strings_ContainsRune_ascii ⟨#[40,41,123,125,44,59,58,61,60,62,43,45,42,37,46]⟩ c w h0 h1;refine h.mono ?_;rintro e w' ⟨rfl,rfl⟩;exact ⟨rfl,Below.refl _ _⟩
def ltP (c:Int):Prop:=(97<=c/\c<=122)\/(65<=c/\c<=90)
instance (c:Int):Decidable (ltP c):=by unfold ltP;infer_instance
def wdP (c:Int):Prop:=ltP c\/(48<=c/\c<=57)\/c=95
instance (c:Int):Decidable (wdP c):=by unfold wdP;infer_instance
def h0W (c:Int):Int:=if c=32\/c=9\/c=10 then 1 else if ltP c then 2 else if 48<=c/\c<=57 then 3 else if c=95 then 4 else if c=34 then 5 else if c=35 then 6 else if c<=126/\mkB c=true then 7 else 0
theorem i32_in {c:Int} (h0:0<=c) (h1:c<=255):IntKind.i32.wrap c=c:=IntWalk.i32_in _ ⟨by omega,by omega⟩
theorem j0S {c:Int}:h0W c=2↔ltP c:=by
 unfold h0W;by_cases h:ltP c
 .have:¬(c=32\/c=9\/c=10):=by unfold ltP at h;omega
  rw [if_neg this,if_pos h];simp [h]
 .simp only [if_neg h]
  (repeat' split)<;>simp [h]
theorem u0X {c:Int}:(h0W c=2\/h0W c=3\/h0W c=4)↔wdP c:=by
 have e:∀x,h0W c=x->(h0W c=2\/h0W c=3\/h0W c=4↔x=2\/x=3\/x=4):=fun x e=>by rw [e]
 refine (e _ rfl).trans ?_;unfold wdP;by_cases h2:ltP c
 .have:=j0S.2 h2;simp [this,h2]
 .have h2':=h2;unfold ltP at h2';have n2:h0W c≠2:=fun h=>h2 (j0S.1 h)
  have e3:h0W c=3↔(48<=c/\c<=57):=by
   unfold h0W;rw [if_neg h2];(repeat' split)<;>omega
  have e4:h0W c=4↔c=95:=by
   unfold h0W;rw [if_neg h2];(repeat' split)<;>omega
  rw [e3,e4];simp [n2,h2]
theorem h0I (c:Int) (h0:0<=c) (h1:c<=255):b0C Tryz.prog 64 [.int .i32 c] (.int .i64 (h0W c)):=by
 by_cases h126:c<=126
 .have cm:=q0C c h0 (by omega);cases hm:mkB c with
  |true=>
   rw [hm] at cm;unfold h0W ltP;rw [hm];refine fEx Tryz.func64 ?_;repeat' ((conv=>whnf);first|refine cPx cm ?_|refine a0a ?_|(apply bRx<;>intro h<;>try (exfalso;(try dsimp only at h);omega)))
   all_goals (conv=>whnf)
   all_goals (refine a0d (congrArg (SV.int .i64) ?_))
   all_goals first
    |((try simp only [and_true,y0I,and_false,if_false]);(repeat' split)<;>omega)
  |false=>
   rw [hm] at cm;unfold h0W ltP;rw [hm];refine fEx Tryz.func64 ?_;repeat' ((conv=>whnf);first|refine cPx cm ?_|refine a0a ?_|(apply bRx<;>intro h<;>try (exfalso;(try dsimp only at h);omega)))
   all_goals (conv=>whnf)
   all_goals (refine a0d (congrArg (SV.int .i64) ?_))
   all_goals first
    |((try simp only [and_true,y0I,and_false,if_false]);(repeat' split)<;>omega)
 .unfold h0W ltP;refine fEx Tryz.func64 ?_;repeat' ((conv=>whnf);first|refine a0a ?_|(apply bRx<;>intro h<;>try (exfalso;(try dsimp only at h);omega)))
  all_goals (conv=>whnf)
  all_goals (refine a0d (congrArg (SV.int .i64) ?_))
  all_goals first
   |((repeat' split)<;>omega)
theorem h0X (c:Int) (h0:0<=c) (h1:c<=255):b0C Tryz.prog 103 [.int .u8 c] (.bool (decide (wdP c))):=by
 have c1:=h0I c h0 h1;have hw:=u0X (c:=c);rw [show (SV.int .i32 c)=SV.int .i32 (IntKind.i32.wrap c) by rw [i32_in h0 h1]] at c1;generalize h0W c=x at c1 hw;refine fEx Tryz.func103 ?_;repeat' ((conv=>whnf);first|refine cPx c1 ?_|refine a0a ?_|(apply bRx<;>intro h<;>try (exfalso;(try dsimp only at h);omega)))
 all_goals (conv=>whnf)
 all_goals first
  |exact a0d (congrArg SV.bool (decide_eq_true (hw.1 (by omega))).symm)
  |exact a0d (congrArg SV.bool (decide_eq_decide.2 ⟨fun hh=>hw.1 (Or.inr (Or.inr hh)),fun hh=>(hw.2 hh).resolve_left (by omega)|>.resolve_left (by omega)⟩))
def n0M (s:ByteArray):Nat->Bool
 |0=>true
 |k+1=>n0M s k&&decide (wdP (a0f s (k:Int)))
theorem q0D {s:ByteArray} {k:Nat} (h:n0M s k=true) (h1:wdP (a0f s (k:Int))):n0M s (k+1)=true:=by
 simp only [n0M,h,y0g,decide_eq_true_eq];exact h1
theorem o0N {s:ByteArray} {k n:Nat} (h:k<n) (hc:¬wdP (a0f s (k:Int))):n0M s n=false:=by
 induction n with
 |zero=>omega
 |succ n ih=>
  simp only [n0M];by_cases e:k=n
  .subst e;simp [hc]
  .rw [ih (by omega)];rfl
theorem u0Y {s:ByteArray} {k n:Nat} (h:k<n) (hd:n0M s n=true):wdP (a0f s (k:Int)):=by
 by_cases hc:wdP (a0f s (k:Int))
 .exact hc
 .rw [o0N h hc] at hd;cases hd
theorem i0L {s:ByteArray}:∀n,n0M s n=false->∃k,k<n/\n0M s k=true/\¬wdP (a0f s (k:Int))
 |0,h=>by simp [n0M] at h
 |n+1,h=>by
  cases hn:n0M s n with
  |false=>obtain ⟨k,h1,h2⟩:=i0L n hn;exact ⟨k,by omega,h2⟩
  |true=>
   refine ⟨n,by omega,hn,fun hw=> ?_⟩;rw [q0D hn hw] at h;cases h
theorem i0M (s:ByteArray) (e:Nat) (he:e<=s.size) (ht:n0M s e=true) (hx:e=s.size\/¬wdP (a0f s (e:Int))) (hs:s.size<=1000000):b0C Tryz.prog 65 [.str s,.int .i64 0] (.str (s.extract 0 e)):=by
 refine fEx Tryz.func65 ?_
 (conv=>whnf)
 refine a0m (fun k:Nat=>⟨[(0,.str s),(1,.int .i64 0),(5,.int .i64 k)],[],1⟩) (fun k=>k<=e) (fun k=>e-k) 0 [0] [] wHx (by omega) ?_;intro k hk;have bd:=d0H s (k:Int);have c:=h0X (a0f s (k:Int)) bd.1 bd.2;by_cases hk2:k<e
 .rw [decide_eq_true (u0Y hk2 ht)] at c;repeat' ((conv=>whnf);first|refine cPx c ?_|refine a0a ?_|(apply bRx<;>intro h<;>try (exfalso;(try dsimp only at h);omega)))
  all_goals (conv=>whnf)
  all_goals first
   |exact ⟨k+1,[0],[],by omega,by omega,⟨rfl,⟨rfl,rfl,congrArg (fun z=>some (SV.int .i64 z)) (a0C (by omega)),trivial⟩,trivial⟩⟩
   |(exfalso;omega)
 .have e1:k=e:=by omega
  subst e1;by_cases hsz:k<s.size
  .rw [decide_eq_false (hx.resolve_left (by omega))] at c;repeat' ((conv=>whnf);first|refine cPx c ?_|refine a0a ?_|(apply bRx<;>intro h<;>try (exfalso;(try dsimp only at h);omega)))
   all_goals (conv=>whnf)
   all_goals first
    |exact a0d rfl
    |(exfalso;omega)
  .repeat' ((conv=>whnf);first|refine a0a ?_|(apply bRx<;>intro h<;>try (exfalso;(try dsimp only at h);omega)))
   all_goals (conv=>whnf)
   all_goals first
    |exact a0d rfl
    |(exfalso;omega)
def nmB (s:ByteArray):Bool:=decide (1<=s.size)&&decide (s.size<=16)&&decide (ltP (a0f s 0))&&n0M s s.size
theorem w0L {s:ByteArray} (h:¬s=⟨#[]⟩):1<=s.size:=by
 rcases o0B s.size with h0|h0
 .exfalso;apply h;cases s with|mk d=>
  have:d= #[]:=t0i h0;rw [this]
 .exact h0
theorem m0y (s:ByteArray):s.extract 0 s.size=s:=by
 apply ByteArray.ext;simp
theorem o0O (s:ByteArray):b0C Tryz.prog 40 [.str s] (.bool (nmB s)):=by
 unfold nmB;by_cases h0:s=⟨#[]⟩
 .subst h0;refine fEx Tryz.func40 ?_;repeat' ((conv=>whnf);first|refine a0a ?_|(apply bRx<;>intro h<;>try (exfalso;(try dsimp only at h);omega)))
  all_goals (conv=>whnf)
  all_goals first
   |exact a0d rfl
   |(exfalso;exact h rfl)
 .have hz:=w0L h0;by_cases h16:s.size<=16
  .have bd:=d0H s 0;have c1:=h0I (a0f s 0) bd.1 bd.2;rw [show (SV.int .i32 (a0f s 0))=SV.int .i32 (IntKind.i32.wrap (a0f s 0)) by rw [i32_in bd.1 bd.2]] at c1;by_cases hl:ltP (a0f s 0)
   .rw [j0S.2 hl] at c1;cases hw:n0M s s.size with
    |true=>
     have c2:=i0M s s.size (h0Z _) hw (.inl rfl) (by omega);rw [m0y] at c2;rw [decide_eq_true hz,decide_eq_true h16,decide_eq_true hl];refine fEx Tryz.func40 ?_;repeat' ((conv=>whnf);first|refine cPx c1 ?_|refine cPx c2 ?_|refine a0a ?_|(apply bRx<;>intro h<;>try (exfalso;(try dsimp only at h);omega)))
     all_goals (conv=>whnf)
     all_goals first
      |exact a0d rfl
      |(exfalso;exact h0 (by assumption))
      |(exfalso;omega)
      |exact a0d (congrArg SV.bool (decide_eq_true rfl))
    |false=>
     obtain ⟨k,k1,k2,k3⟩:=i0L _ hw;have c2:=i0M s k (by omega) k2 (.inr k3) (by omega);have hsz:(s.extract 0 k).size=k:=by rw [ByteArray.size_extract];omega
     rw [decide_eq_true hz,decide_eq_true h16,decide_eq_true hl];refine fEx Tryz.func40 ?_;repeat' ((conv=>whnf);first|refine cPx c1 ?_|refine cPx c2 ?_|refine a0a ?_|(apply bRx<;>intro h<;>try (exfalso;(try dsimp only at h);omega)))
     all_goals (conv=>whnf)
     all_goals first
      |exact a0d rfl
      |(exfalso;exact h0 (by assumption))
      |(exfalso;omega)
      |exact a0d (congrArg SV.bool (decide_eq_false (by rw [hsz];omega)))
   .have hne:h0W (a0f s 0)≠2:=fun h=>hl (j0S.1 h)
    rw [decide_eq_false hl];generalize h0W (a0f s 0)=x at c1 hne;refine fEx Tryz.func40 ?_;repeat' ((conv=>whnf);first|refine cPx c1 ?_|refine a0a ?_|(apply bRx<;>intro h<;>try (exfalso;(try dsimp only at h);omega)))
    all_goals (conv=>whnf)
    all_goals first
     |(exfalso;exact h0 (by assumption))
     |(exfalso;omega)
     |exact a0d (by rw [Bool.and_false];rfl)
  .rw [decide_eq_false h16];refine fEx Tryz.func40 ?_;repeat' ((conv=>whnf);first|refine a0a ?_|(apply bRx<;>intro h<;>try (exfalso;(try dsimp only at h);omega)))
   all_goals (conv=>whnf)
   all_goals first
    |(exfalso;exact h0 (by assumption))
    |(exfalso;omega)
    |exact a0d (by rw [Bool.and_false];rfl)
end
section
def auC (c:Int):Bool:=decide ((97<=c/\c<=122)\/(65<=c/\c<=90)\/(48<=c/\c<=57)\/c=95\/c=45)
def auI (s:ByteArray):Bool:=decide (1<=s.size/\s.size<=16)&&(List.range s.size).all (fun i=>auC (a0f s (i:Int)))
theorem n0N {s:ByteArray} (h:s.size<1\/16<s.size):auI s=false:=by
 unfold auI;rw [decide_eq_false (by omega),Bool.false_and]
theorem w0M {s:ByteArray} {k:Nat} (hk:k<s.size) (hc:¬((97<=a0f s (k:Int)/\a0f s (k:Int)<=122)\/(65<=a0f s (k:Int)/\a0f s (k:Int)<=90)\/(48<=a0f s (k:Int)/\a0f s (k:Int)<=57)\/a0f s (k:Int)=95\/a0f s (k:Int)=45)):auI s=false:=by
 unfold auI;rw [Bool.and_eq_false_iff];refine .inr ?_;cases e:(List.range s.size).all (fun i=>auC (a0f s (i:Int))) with
 |false=>rfl
 |true=>
  rw [y0j] at e;exact absurd (of_decide_eq_true (e k (by simpa using hk))) hc
def x0S (s:ByteArray) (k:Nat):Prop:=∀i,i<k->auC (a0f s (i:Int))=true
theorem q0E {s:ByteArray} {k:Nat} (h:x0S s k) (hc:(97<=a0f s (k:Int)/\a0f s (k:Int)<=122)\/(65<=a0f s (k:Int)/\a0f s (k:Int)<=90)\/(48<=a0f s (k:Int)/\a0f s (k:Int)<=57)\/a0f s (k:Int)=95\/a0f s (k:Int)=45):x0S s (k+1):=by
 intro i hi;by_cases e:i=k
 .subst e;unfold auC;exact decide_eq_true hc
 .exact h i (by omega)
theorem q0F {s:ByteArray} (h1:1<=s.size) (h2:s.size<=16) (h:x0S s s.size):auI s=true:=by
 unfold auI;rw [decide_eq_true ⟨h1,h2⟩,y0g,y0j];exact fun i hi=>h i (by simpa using hi)
attribute [irreducible] auI
structure Au where
 id:ByteArray
 cur:ByteArray
 app:Int
 rev:Int
 cle:Int
 exp:Int
 st:Int
 att:Int
 unt:Int
 pa:Int
abbrev Au.s (a:Au):SV:= .agg [.str a.id,.str a.cur,.int .i64 a.app,.int .i64 a.rev,.int .i64 a.cle,.int .i64 a.exp,.int .i64 a.st,.int .i64 a.att,.int .i64 a.unt,.int .i64 a.pa]
theorem Au.eta (a:Au):Au.mk a.id a.cur a.app a.rev a.cle a.exp a.st a.att a.unt a.pa=a:=rfl
def Au.zero:Au:=⟨⟨#[]⟩,⟨#[]⟩,0,0,0,0,0,0,0,0⟩
@[irreducible] def a0e (a:Au):Int:=IntKind.i64.wrap (IntKind.i64.wrap (IntKind.i64.wrap (a.app-a.rev)-a.cle)-a.exp)
@[irreducible] def a0z (a:Au):Int:=if 0<a0e a then 1 else if 0<a.exp then 4 else if 0<a.cle then 2 else 3
def f0v (n:Int):Bool:=decide (0<=n/\n<=999999999999)
@[irreducible] def a0D (a:Au):Int:=
 if auI a.id=false then 5 else if g0o a.cur=false then 11
 else if¬(1<=a.app/\a.app<=999999999999/\0<=a.rev/\a.rev<=999999999999/\0<=a.cle/\a.cle<=999999999999/\0<=a.exp/\a.exp<=999999999999) then 4
 else if a0e a<0 then 26
 else if¬(0<=a.att/\a.att<=1099511627776/\a.att<a.unt/\a.unt<=1099511627776) then 14
 else if¬(0<=a.pa/\a.pa<=8/\a.pa<=a.cle/\(a.pa=0↔a.cle=0)) then 4
 else if a.st≠a0z a\/(a.st=1/\a.exp≠0) then 8 else 0
theorem c0G (a:Au) (h1:0<=a.app) (h2:a.app<=999999999999) (h3:0<=a.rev) (h4:a.rev<=999999999999) (h5:0<=a.cle) (h6:a.cle<=999999999999) (h7:0<=a.exp) (h8:a.exp<=999999999999):a0e a=a.app-a.rev-a.cle-a.exp:=by
 unfold a0e;rw [a0r (n:=a.app-a.rev) (by omega) (by omega),a0r (n:=a.app-a.rev-a.cle) (by omega) (by omega),a0r (by omega) (by omega)]
@[irreducible] def g0q (a:Au):Int:=if a0D a=0 then a0e a else 0
@[irreducible] def c0m (a:Au):Int:=if a0D a=0 then (if a.st=1 then 0 else 8) else a0D a
structure Facts (a:Au):Prop where
 id:auI a.id=true
 cur:g0o a.cur=true
 app:1<=a.app/\a.app<=999999999999
 rev:0<=a.rev/\a.rev<=999999999999
 cle:0<=a.cle/\a.cle<=999999999999
 exp:0<=a.exp/\a.exp<=999999999999
 funds:a0e a=a.app-a.rev-a.cle-a.exp
 nneg:0<=a0e a
 time:0<=a.att/\a.att<=1099511627776/\a.att<a.unt/\a.unt<=1099511627776
 pa:0<=a.pa/\a.pa<=8/\a.pa<=a.cle/\(a.pa=0↔a.cle=0)
 st:a.st=a0z a
 op:a.st=1->a.exp=0
theorem f0w {a:Au} (h:a0D a=0):Facts a:=by
 unfold a0D at h;split at h;·simp at h
 split at h;·simp at h
 split at h;·simp at h
 split at h;·simp at h
 split at h;·simp at h
 split at h;·simp at h
 split at h;·simp at h
 rename_i h1 h2 h3 h4 h5 h6 h7;have e:=c0G a (by omega) (by omega) (by omega) (by omega) (by omega) (by omega) (by omega) (by omega);have h7':a.st=a0z a/\(a.st=1->a.exp=0):=by
  constructor
  .apply Classical.byContradiction;intro x;exact h7 (.inl x)
  .intro x;apply Classical.byContradiction;intro y;exact h7 (.inr ⟨x,y⟩)
 exact ⟨by simpa using h1,by simpa using h2,by omega,by omega,by omega,by omega,e,by omega,by omega,by omega,h7'.1,h7'.2⟩
theorem g0y {a:Au} (f:Facts a):a0D a=0:=by
 have f1:=f.id;have f2:=f.cur;have f3:=f.app;have f4:=f.rev;have f5:=f.cle;have f6:=f.exp;have f7:=f.nneg;have f8:=f.time;have f9:=f.pa;have f10:=f.st;have f11:=f.op;unfold a0D;rw [if_neg (by simp [f1]),if_neg (by simp [f2]),if_neg (by omega),if_neg (by omega),if_neg (by omega),if_neg (by omega),if_neg];rintro (h|⟨h1,h2⟩)
 .exact h f10
 .exact h2 (f11 h1)
theorem b0K {a:Au} (h:c0m a=0):Facts a/\a.st=1/\0<a0e a/\g0q a=a0e a/\a0D a=0/\a.exp=0:=by
 unfold c0m at h;split at h
 .rename_i hc;split at h
  .rename_i hs;have f:=f0w hc;refine ⟨f,hs,?_,by unfold g0q;rw [if_pos hc],hc,f.op hs⟩;have:=f.st;rw [hs] at this;unfold a0z at this;split at this
   .assumption
   .split at this
    .simp at this
    .split at this<;>simp at this
  .simp at h
 .rename_i hc;exact absurd h hc
theorem h0J {a:Au} (h:a0D a=0) (hs:a.st=1):c0m a=0:=by unfold c0m;rw [if_pos h,if_pos hs]
@[irreducible] def t0x (id cur:ByteArray) (n at_ un:Int):Au×Int:=
 let a:Au:=⟨id,cur,n,0,0,0,1,at_,un,0⟩
 if a0D a=0 then (a,0) else (Au.zero,a0D a)
@[irreducible] def d0L (a:Au) (n u:Int):Au×Int:=
 if c0m a≠0 then (Au.zero,c0m a) else if¬(1<=n/\n<=999999999999-a.app) then (Au.zero,4)
 else if u<a.unt\/1099511627776<u then (Au.zero,14) else ({ a with app:=a.app+n,unt:=u},0)
@[irreducible] def d0Z (a:Au) (n:Int):Au×Int×Int:=
 if c0m a≠0 then (Au.zero,0,c0m a) else if¬(0<=n/\n<=a0e a) then (Au.zero,0,4)
 else ({ a with rev:=a.rev+(if n=0 then a0e a else n),st:=a0z { a with rev:=a.rev+(if n=0 then a0e a else n)}},(if n=0 then a0e a else n),0)
@[irreducible] def d0p (a:Au) (t:Int):Au×Int×Int:=
 if c0m a≠0 then (Au.zero,0,c0m a) else if t<a.unt then (Au.zero,0,14)
 else ({ a with exp:=a.exp+a0e a,st:=a0z { a with exp:=a.exp+a0e a}},a0e a,0)
abbrev t2 (r:Au×Int):SV:= .tup [r.1.s,.int .i64 r.2]
abbrev t3 (r:Au×Int×Int):SV:= .tup [r.1.s,.int .i64 r.2.1,.int .i64 r.2.2]
theorem i0N (a:Au) (x:Int):a0z { a with st:=x}=a0z a:=by unfold a0z a0e;rfl
theorem q0G (id cur:ByteArray) (n at_ un:Int):a0D ⟨id,cur,n,0,0,0,a0z ⟨id,cur,n,0,0,0,0,at_,un,0⟩,at_,un,0⟩=a0D ⟨id,cur,n,0,0,0,1,at_,un,0⟩/\
  (a0D ⟨id,cur,n,0,0,0,1,at_,un,0⟩=0->a0z ⟨id,cur,n,0,0,0,0,at_,un,0⟩=1):=by
 by_cases hn:1<=n/\n<=999999999999
 .have e:a0z ⟨id,cur,n,0,0,0,0,at_,un,0⟩=1:=by
   unfold a0z;rw [c0G _ (by simp;omega) (by simp;omega) (by simp) (by simp) (by simp) (by simp) (by simp) (by simp)];simp;omega
  rw [e];exact ⟨rfl,fun _=>rfl⟩
 .constructor
  .unfold a0D;simp only;split;·rfl
   split;·rfl
   rw [if_pos (by omega),if_pos (by omega)]
  .intro h;have:=(f0w h).app;simp at this;omega
end
section
attribute [local irreducible] a0G a0H a0q b0H
theorem e0a (a:Au):b0C Tryz.prog 36 [a.s] (.int .i64 (a0e a)):=by
 refine fEx Tryz.func36 ?_;repeat' ((conv=>whnf);first|refine a0a ?_|(apply bRx<;>intro h<;>try (exfalso;(try dsimp only at h);omega)))
 all_goals (conv=>whnf)
 exact a0d (by unfold a0e;rfl)
theorem m0z (n:Int):b0C Tryz.prog 35 [.int .i64 n] (.bool (f0v n)):=by
 refine fEx Tryz.func35 ?_;repeat' ((conv=>whnf);first|refine a0a ?_|(apply bRx<;>intro h<;>try (exfalso;(try dsimp only at h);omega)))
 all_goals (conv=>whnf)
 all_goals refine a0d ?_
 .have h':0<=n:=by assumption
  by_cases g:n<=999999999999
  .rw [show f0v n=true from decide_eq_true ⟨h',g⟩,show decide (n<=999999999999)=true from decide_eq_true g];rfl
  .rw [show f0v n=false from decide_eq_false (fun q=>g q.2),show decide (n<=999999999999)=false from decide_eq_false g];rfl
 .rw [show f0v n=false from decide_eq_false (fun q=>h q.1)];rfl
set_option maxHeartbeats 2000000 in
theorem g0g (a:Au):b0C Tryz.prog 37 [a.s] ({a with st:=a0z a}:Au).s:=by
 have c:=e0a a;have e:a0z a=if 0<a0e a then 1 else if 0<a.exp then 4 else if 0<a.cle then 2 else 3:=by unfold a0z;rfl
 generalize a0e a=F at*;generalize a0z a=st at*;obtain ⟨id,cur,app,rev,cle,exp,st0,att,unt,pa⟩:=a;dsimp only at*;by_cases h1:0<F
 .rw [if_pos h1] at e;subst e;refine fEx Tryz.func37 ?_;repeat' ((conv=>whnf);first|refine cPx c ?_|refine a0a ?_|(apply bRx<;>intro h<;>try (exfalso;(try dsimp only at h);omega)))
  all_goals (conv=>whnf)
  all_goals first
   |exact a0d rfl
   |(exfalso;omega)
 rw [if_neg h1] at e;by_cases h2:0<exp
 .rw [if_pos h2] at e;subst e;refine fEx Tryz.func37 ?_;repeat' ((conv=>whnf);first|refine cPx c ?_|refine a0a ?_|(apply bRx<;>intro h<;>try (exfalso;(try dsimp only at h);omega)))
  all_goals (conv=>whnf)
  all_goals first
   |exact a0d rfl
   |(exfalso;omega)
 rw [if_neg h2] at e;by_cases h3:0<cle
 .rw [if_pos h3] at e;subst e;refine fEx Tryz.func37 ?_;repeat' ((conv=>whnf);first|refine cPx c ?_|refine a0a ?_|(apply bRx<;>intro h<;>try (exfalso;(try dsimp only at h);omega)))
  all_goals (conv=>whnf)
  all_goals first
   |exact a0d rfl
   |(exfalso;omega)
 rw [if_neg h3] at e;subst e;refine fEx Tryz.func37 ?_;repeat' ((conv=>whnf);first|refine cPx c ?_|refine a0a ?_|(apply bRx<;>intro h<;>try (exfalso;(try dsimp only at h);omega)))
 all_goals (conv=>whnf)
 all_goals first
  |exact a0d rfl
  |(exfalso;omega)
theorem q0H (s:ByteArray):b0C Tryz.prog 33 [.str s] (.bool (auI s)):=by
 by_cases h:s.size<1\/16<s.size
 .rw [n0N h];refine fEx Tryz.func33 ?_;repeat' ((conv=>whnf);first|refine a0a ?_|(apply bRx<;>intro h<;>try (exfalso;(try dsimp only at h);omega)))
  all_goals (conv=>whnf)
  all_goals first
   |exact a0d rfl
   |(exfalso;omega)
 refine fEx Tryz.func33 ?_;repeat' ((conv=>whnf);first|refine a0a ?_|(apply bRx<;>intro h<;>try (exfalso;(try dsimp only at h);omega)))
 all_goals (conv=>whnf)
 all_goals first
  |(exfalso;omega)
  |skip
 refine a0m (fun k:Nat=>⟨[(0,.str s),(16,.int .i64 s.size),(17,.int .i64 k)],[],1⟩) (fun k=>k<=s.size/\x0S s k) (fun k=>s.size-k) 0 [0] [] wHx ⟨by omega,fun i hi=>by omega⟩ ?_;rintro k ⟨hk,hc⟩;repeat' ((conv=>whnf);first|refine a0a ?_|(apply bRx<;>intro h<;>try (exfalso;(try dsimp only at h);omega)))
 all_goals (conv=>whnf)
 all_goals first
  |exact a0d (by rw [w0M (k:=k) (by omega) (by omega)];rfl)
  |exact ⟨k+1,[0],[],⟨by omega,q0E hc (by omega)⟩,by omega,⟨rfl,⟨rfl,rfl,congrArg (fun z=>some (SV.int .i64 z)) (a0C (by omega)),trivial⟩,trivial⟩⟩
  |skip
 have e:k=s.size:=by omega
 subst e;exact a0d (by rw [q0F (by omega) (by omega) hc];rfl)
theorem o0P (s:ByteArray):b0C Tryz.prog 34 [.str s] (.bool (g0o s)):=by
 refine fEx Tryz.func34 ?_;repeat' ((conv=>whnf);first|refine a0a ?_|(apply bRx<;>intro h<;>try (exfalso;(try dsimp only at h);omega)))
 all_goals (conv=>whnf)
 .exact a0d (by rw [h0C (by omega)];rfl)
 .refine a0m (fun k:Nat=>⟨[(0,.str s),(8,.int .i64 s.size),(9,.int .i64 k)],[],1⟩) (fun k=>k<=s.size/\e0l s k=true) (fun k=>s.size-k) 0 [0] [] wHx ⟨by omega,rfl⟩ ?_;rintro k ⟨hk,hc⟩;repeat' ((conv=>whnf);first|refine a0a ?_|(apply bRx<;>intro h<;>try (exfalso;(try dsimp only at h);omega)))
  all_goals (conv=>whnf)
  .exact a0d (by rw [c0s (k:=k) (by omega) (by omega)];rfl)
  .exact a0d (by rw [c0s (k:=k) (by omega) (by omega)];rfl)
  .exact ⟨k+1,[0],[],⟨by omega,e0E hc (by omega) (by omega)⟩,by omega,⟨rfl,⟨rfl,rfl,congrArg (fun z=>some (SV.int .i64 z)) (a0C (by omega)),trivial⟩,trivial⟩⟩
  .have e:k=s.size:=by omega
   subst e;refine a0d ?_;have:g0o s=true:=by unfold g0o;rw [hc];simp;omega
   rw [this];rfl
end
section
attribute [local irreducible] a0G a0H a0q b0H
set_option maxHeartbeats 2000000 in
theorem e0b (a:Au):b0C Tryz.prog 14 [a.s] (.int .i64 (a0D a)):=by
 refine fEx Tryz.func14 ?_;repeat' ((conv=>whnf);first|refine cPx (q0H _) ?_|refine cPx (o0P _) ?_|refine cPx (m0z _) ?_|refine cPx (e0a a) ?_|refine cPx (g0g a) ?_|refine a0a ?_|(apply bRx<;>intro h<;>try (exfalso;(try dsimp only at h);omega)))
 all_goals (conv=>whnf)
 all_goals refine a0d ?_
 all_goals simp only [c0X,cv,SV.int.injEq,true_and]
 all_goals (try simp only [f0v,decide_eq_true_eq,decide_eq_false_iff_not] at*)
 all_goals (try simp [seq] at*)
 all_goals (unfold a0D;(repeat' split)<;>first|rfl|(exfalso;omega)|(exfalso;simp_all;done))
theorem e0G (a:Au):b0C Tryz.prog 47 [a.s] (.int .i64 (c0m a)):=by
 refine fEx Tryz.func47 ?_;repeat' ((conv=>whnf);first|refine cPx (e0b a) ?_|refine a0a ?_|(apply bRx<;>intro h<;>try (exfalso;(try dsimp only at h);omega)))
 all_goals (conv=>whnf)
 all_goals refine a0d ?_
 all_goals simp [c0X,cv,c0m, *]
theorem c0r (id cur:ByteArray) (app rev cle exp st att unt pa:Int):b0C Tryz.prog 37 [.agg [.str id,.str cur,.int .i64 app,.int .i64 rev,.int .i64 cle,.int .i64 exp,.int .i64 st,.int .i64 att,.int .i64 unt,.int .i64 pa]]
  (.agg [.str id,.str cur,.int .i64 app,.int .i64 rev,.int .i64 cle,.int .i64 exp,.int .i64 (a0z ⟨id,cur,app,rev,cle,exp,st,att,unt,pa⟩),.int .i64 att,.int .i64 unt,.int .i64 pa]):=g0g ⟨id,cur,app,rev,cle,exp,st,att,unt,pa⟩
theorem e0H (id cur:ByteArray) (app rev cle exp st att unt pa:Int):b0C Tryz.prog 36 [.agg [.str id,.str cur,.int .i64 app,.int .i64 rev,.int .i64 cle,.int .i64 exp,.int .i64 st,.int .i64 att,.int .i64 unt,.int .i64 pa]] (.int .i64 (a0e ⟨id,cur,app,rev,cle,exp,st,att,unt,pa⟩)):=e0a ⟨id,cur,app,rev,cle,exp,st,att,unt,pa⟩
theorem m0A (id cur:ByteArray) (app rev cle exp st att unt pa:Int):b0C Tryz.prog 14 [.agg [.str id,.str cur,.int .i64 app,.int .i64 rev,.int .i64 cle,.int .i64 exp,.int .i64 st,.int .i64 att,.int .i64 unt,.int .i64 pa]] (.int .i64 (a0D ⟨id,cur,app,rev,cle,exp,st,att,unt,pa⟩)):=e0b ⟨id,cur,app,rev,cle,exp,st,att,unt,pa⟩
theorem j0T (id cur:ByteArray) (n at_ un:Int):b0C Tryz.prog 95 [.str id,.str cur,.int .i64 n,.int .i64 at_,.int .i64 un] (t2 (t0x id cur n at_ un)):=by
 refine fEx Tryz.func95 ?_;repeat' ((conv=>whnf);first|refine cPx (m0A _ _ _ _ _ _ _ _ _ _) ?_|refine cPx (c0r _ _ _ _ _ _ _ _ _ _) ?_|refine a0a ?_|(apply bRx<;>intro h<;>try (exfalso;(try dsimp only at h);omega)))
 all_goals (conv=>whnf)
 all_goals refine a0d ?_
 all_goals simp only [c0X,cv] at*
 all_goals
  have e:=q0G id cur n at_ un;rw [e.1] at h;unfold t0x
 .rw [e.1];simp [h,Au.zero]
 .simp [h,e.2 h]
theorem o0Q (a:Au) (n u:Int):b0C Tryz.prog 89 [a.s,.int .i64 n,.int .i64 u] (t2 (d0L a n u)):=by
 refine fEx Tryz.func89 ?_;repeat' ((conv=>whnf);first|refine cPx (e0G a) ?_|refine cPx (e0H _ _ _ _ _ _ _ _ _ _) ?_|refine cPx (c0r _ _ _ _ _ _ _ _ _ _) ?_|refine a0a ?_|(apply bRx<;>intro h<;>try (exfalso;(try dsimp only at h);omega)))
 all_goals (conv=>whnf)
 all_goals refine a0d ?_
 all_goals simp only [c0X,cv,Au.eta] at*
 .simp [d0L,Au.zero, *]
 all_goals
  obtain ⟨f,hs,hp,ho,hc,hx⟩:=b0K (by assumption);have f1:=f.app;have f2:=f.rev;have f3:=f.cle;have f4:=f.exp;have f5:=f.funds;have ew:IntKind.i64.wrap (999999999999-a.app)=999999999999-a.app:=a0r (by omega) (by omega);unfold d0L
 .rw [if_neg (by simp [*]),if_pos (by omega)];simp [Au.zero]
 .rw [if_neg (by simp [*]),if_pos (by omega)];simp [Au.zero]
 .rw [if_neg (by simp [*]),if_neg (by omega),if_pos (by omega)];simp [Au.zero]
 .rw [if_neg (by simp [*]),if_neg (by omega),if_pos (by omega)];simp [Au.zero]
 .rw [if_neg (by simp [*]),if_neg (by omega),if_neg (by omega)];have e1:IntKind.i64.wrap (a.app+n)=a.app+n:=a0r (by omega) (by omega);rw [e1];have e2:a0z ⟨a.id,a.cur,a.app+n,a.rev,a.cle,a.exp,a.st,a.att,u,a.pa⟩=1:=by
   unfold a0z;rw [c0G _ (by simp;omega) (by simp;omega) (by simp;omega) (by simp;omega) (by simp;omega) (by simp;omega) (by simp;omega) (by simp;omega)];simp;omega
  rw [e2];simp [hs]
theorem l0t (a:Au) (n:Int):b0C Tryz.prog 100 [a.s,.int .i64 n] (t3 (d0Z a n)):=by
 refine fEx Tryz.func100 ?_;repeat' ((conv=>whnf);first|refine cPx (e0G a) ?_|refine cPx (e0H _ _ _ _ _ _ _ _ _ _) ?_|refine cPx (c0r _ _ _ _ _ _ _ _ _ _) ?_|refine a0a ?_|(apply bRx<;>intro h<;>try (exfalso;(try dsimp only at h);omega)))
 all_goals (conv=>whnf)
 all_goals refine a0d ?_
 all_goals simp only [c0X,cv,Au.eta] at*
 .simp [d0Z,Au.zero, *]
 all_goals
  obtain ⟨f,hs,hp,ho,hc,hx⟩:=b0K (by assumption);have f1:=f.app;have f2:=f.rev;have f3:=f.cle;have f4:=f.exp;have f5:=f.funds;have f6:=f.pa;unfold d0Z
 .rw [if_neg (by simp [*]),if_pos (by omega)];simp [Au.zero]
 .rw [if_neg (by simp [*]),if_pos (by omega)];simp [Au.zero]
 .rw [if_neg (by simp [*]),if_neg (by omega)];have e1:IntKind.i64.wrap (a.rev+a0e a)=a.rev+a0e a:=a0r (by omega) (by omega);rw [e1];simp [h]
 .rw [if_neg (by simp [*]),if_neg (by omega)];have e1:IntKind.i64.wrap (a.rev+n)=a.rev+n:=a0r (by omega) (by omega);rw [e1];simp [h]
theorem m0B (a:Au) (n:Int):b0C Tryz.prog 21 [a.s,.int .i64 n] (t3 (d0p a n)):=by
 refine fEx Tryz.func21 ?_;repeat' ((conv=>whnf);first|refine cPx (e0G a) ?_|refine cPx (e0H _ _ _ _ _ _ _ _ _ _) ?_|refine cPx (c0r _ _ _ _ _ _ _ _ _ _) ?_|refine a0a ?_|(apply bRx<;>intro h<;>try (exfalso;(try dsimp only at h);omega)))
 all_goals (conv=>whnf)
 all_goals refine a0d ?_
 all_goals simp only [c0X,cv,Au.eta] at*
 .simp [d0p,Au.zero, *]
 all_goals
  obtain ⟨f,hs,hp,ho,hc,hx⟩:=b0K (by assumption);have f1:=f.app;have f2:=f.rev;have f3:=f.cle;have f4:=f.exp;have f5:=f.funds;have f6:=f.pa;unfold d0p
 .rw [if_neg (by simp [*]),if_pos (by omega)];simp [Au.zero]
 .rw [if_neg (by simp [*]),if_neg (by omega)];have e1:IntKind.i64.wrap (a.exp+a0e a)=a.exp+a0e a:=a0r (by omega) (by omega);rw [e1]
end
section
attribute [local irreducible] a0G a0H a0q b0H
def isD (d:Int):Bool:=decide (0<=d)&&decide (d<=99999)
theorem o0R (d:Int):b0C Tryz.prog 71 [.int .i64 d] (.bool (isD d)):=by
 unfold isD;by_cases h1:0<=d<;>by_cases h2:d<=99999;all_goals simp only [h1,h2,decide_true,decide_false,Bool.and_true,Bool.and_false,y0g,Bool.false_and]
 all_goals refine fEx Tryz.func71 ?_
 all_goals repeat' ((conv=>whnf);first|refine a0a ?_|(apply bRx<;>intro h<;>try (exfalso;(try dsimp only at h);omega)))
 all_goals (conv=>whnf)
 all_goals first
  |exact a0d rfl
  |exact a0d (congrArg SV.bool (by simp;omega))
  |(exfalso;omega)
  |trace_state
theorem s0z {a b:Int} (h:0<=a):a.tmod b=a%b:=by rw [v0u h]
theorem s0A {a b:Int} (h:0<=a):a.tdiv b=a/b:=by rw [z0D h]
def okT (t:Int):Bool:=decide (0<=t)&&(decide (t<=1099511627776)&&isD (t/86400))
def v0N (t:Int):Int:=if okT t=true then t/86400 else-1
def y0s (t:Int):Int:=if okT t=true then t%86400 else-1
theorem h0K {t:Int}:okT t=true↔0<=t/\t<=1099511627776/\isD (t/86400)=true:=by unfold okT;simp
theorem q0I (t:Int):b0C Tryz.prog 46 [.int .i64 t] (.tup [.int .i64 (v0N t),.int .i64 (y0s t)]):=by
 have c:=o0R (t/86400);unfold v0N y0s;by_cases h1:0<=t
 .by_cases h2:t<=1099511627776
  .have e1:IntKind.i64.wrap (t.tdiv 86400)=t/86400:=by rw [s0A h1,a0r (by omega) (by omega)]
   have e2:t.tmod 86400=t%86400:=s0z h1;cases h3:isD (t/86400) with
   |true=>
    have hk:okT t=true:=h0K.2 ⟨h1,h2,h3⟩;rw [h3] at c;rw [if_pos hk,if_pos hk];refine fEx Tryz.func46 ?_;repeat' ((conv=>whnf);first|(simp only [e1])|refine cPx c ?_|refine a0a ?_|(apply bRx<;>intro h<;>try (exfalso;(try dsimp only at h);omega)))
    all_goals (conv=>whnf)
    all_goals (try simp only [e2])
    all_goals first
     |exact a0d rfl
     |(exfalso;omega)
     |trace_state
   |false=>
    have hk:¬okT t=true:=fun q=>by have:=(h0K.1 q).2.2;rw [h3] at this;cases this
    rw [h3] at c;rw [if_neg hk,if_neg hk];refine fEx Tryz.func46 ?_;repeat' ((conv=>whnf);first|(simp only [e1])|refine cPx c ?_|refine a0a ?_|(apply bRx<;>intro h<;>try (exfalso;(try dsimp only at h);omega)))
    all_goals (conv=>whnf)
    all_goals first
     |exact a0d rfl
     |(exfalso;omega)
     |trace_state
  .have hk:¬okT t=true:=fun q=>h2 (h0K.1 q).2.1
   rw [if_neg hk,if_neg hk];refine fEx Tryz.func46 ?_;repeat' ((conv=>whnf);first|refine a0a ?_|(apply bRx<;>intro h<;>try (exfalso;(try dsimp only at h);omega)))
   all_goals (conv=>whnf)
   all_goals first
    |exact a0d rfl
    |(exfalso;omega)
    |trace_state
 .have hk:¬okT t=true:=fun q=>h1 (h0K.1 q).1
  rw [if_neg hk,if_neg hk];refine fEx Tryz.func46 ?_;repeat' ((conv=>whnf);first|refine a0a ?_|(apply bRx<;>intro h<;>try (exfalso;(try dsimp only at h);omega)))
  all_goals (conv=>whnf)
  all_goals first
   |exact a0d rfl
   |(exfalso;omega)
   |trace_state
def j0U:ByteArray:=⟨#[104,111,109,101,98,97,110,107]⟩
def b0v:ByteArray:=⟨#[69,85,82]⟩
structure Hs where
 now:Int
 km:Bool
 gm:Bool
 rm:Bool
 nr:Nat
 rk:List ByteArray
 rt:List Int
 rE:List (List El)
 us:Us
 ac:Acc
 ng:Nat
 gs:List Au
 nv:Nat
 rv:List ByteArray
abbrev mS (b:Bool) (h:Nat):SV:=bif b then .map h 0 else .nmap
abbrev sS (b:Bool) (h n:Nat):SV:=bif b then .sl h 0 0 n else .nsl
abbrev hcB (now:Int) (rp gs gm rm:SV):Blk:= .cells [rp,.str j0U,.str b0v,.int .i64 1,.int .i64 now,.map 4 0,.nptr,gs,gm,rm,.nmap]
abbrev hsB (now:Int) (km gm rm:Bool) (ng:Nat):Blk:=hcB now (mS km 2) (sS gm 9 ng) (mS gm 11) (mS rm 12)
abbrev rpM (nr:Nat) (rk:List ByteArray) (rt:List Int) (rE:List (List El)):Blk:= .obj (.map false true nr [.strs rk] [.sc (.ints .i64 rt),.own 3 (rE.map List.length)] (List.range nr) nr)
abbrev hoM:Blk:= .obj (.map false false 1 [.strs [c0I]] [.ptrs 5 1] [0] 1)
abbrev hoB:Blk:= .cells [.ptr 6 0 0 0,.ptr 7 0 0 0,.int .i64 999999999999,.int .i64 1000]
abbrev acB (a:Acc):Blk:= .cells [.int .i64 a.bal,.int .i64 a.lim,.map 8 0]
abbrev acM (a:Acc):Blk:= .obj (.map false false a.n [.strs a.ks] [.sc (.ints .i64 a.vs)] a.bs a.ck)
abbrev grB (a:Au):Blk:= .cells [.str a.id,.str a.cur,.int .i64 a.app,.int .i64 a.rev,.int .i64 a.cle,.int .i64 a.exp,.int .i64 a.st,.int .i64 a.att,.int .i64 a.unt,.int .i64 a.pa,.ptr 5 0 0 0,.str c0I]
abbrev grS (ng:Nat):Blk:= .cols ng [.ptrs 10 ng]
abbrev grM (ng:Nat) (gs:List Au):Blk:= .obj (.map false false ng [.strs (gs.map Au.id)] [.ptrs 10 ng] (List.range ng) ng)
abbrev rvM (nv:Nat) (rv:List ByteArray):Blk:= .obj (.map false false nv [.strs rv] [.sc (.bools (List.replicate nv true))] (List.range nv) nv)
theorem j0V (s:ByteArray):b0C Tryz.prog 41 [.str s] (.bool (g0o s)):=by
 refine fEx Tryz.func41 ?_;repeat' ((conv=>whnf);first|refine a0a ?_|(apply bRx<;>intro h<;>try (exfalso;(try dsimp only at h);omega)))
 all_goals (conv=>whnf)
 .exact a0d (by rw [h0C (by omega)];rfl)
 .refine a0m (fun k:Nat=>⟨[(0,.str s),(8,.int .i64 s.size),(9,.int .i64 k)],[],1⟩) (fun k=>k<=s.size/\e0l s k=true) (fun k=>s.size-k) 0 [0] [] wHx ⟨by omega,rfl⟩ ?_;rintro k ⟨hk,hc⟩;repeat' ((conv=>whnf);first|refine a0a ?_|(apply bRx<;>intro h<;>try (exfalso;(try dsimp only at h);omega)))
  all_goals (conv=>whnf)
  .exact a0d (by rw [c0s (k:=k) (by omega) (by omega)];rfl)
  .exact a0d (by rw [c0s (k:=k) (by omega) (by omega)];rfl)
  .exact ⟨k+1,[0],[],⟨by omega,e0E hc (by omega) (by omega)⟩,by omega,⟨rfl,⟨rfl,rfl,congrArg (fun z=>some (SV.int .i64 z)) (a0C (by omega)),trivial⟩,trivial⟩⟩
  .have e:k=s.size:=by omega
   subst e;refine a0d ?_;have:g0o s=true:=by unfold g0o;rw [hc];simp;omega
   rw [this];rfl
theorem e0c (c:ByteArray):b0C Tryz.prog 57 [.str c] (.agg [.str c,.int .i64 0,.str ⟨#[]⟩]):=by
 refine fEx Tryz.func57 ?_;repeat' ((conv=>whnf);first|refine a0a ?_|(apply bRx<;>intro h<;>try (exfalso;(try dsimp only at h);omega)))
 all_goals (conv=>whnf)
 all_goals exact a0d rfl
def apS (s:ByteArray):ByteArray:=s.extract 6 12
theorem g0h (c r:ByteArray) (n:Int) (hr:r.size=12):b0C Tryz.prog 92 [.str c,.int .i64 n,.str r] (.agg [.str c,.int .i64 n,.str (apS r)]):=by
 have w1:IntKind.i64.wrap ((r.size:Int)-6)=6:=by rw [hr];rfl
 have w2:max (0:Int) 6=6:=rfl;have e:r.extract (Int.toNat 6) r.size=apS r:=by rw [hr];rfl
 refine fEx Tryz.func92 ?_;repeat' ((conv=>whnf);first|(rw [w1])|(rw [w2])|(refine a0j ?_ ?_;(rw [hr];decide))|refine a0a ?_|(apply bRx<;>intro h<;>try (exfalso;(try dsimp only at h);omega)))
 all_goals (conv=>whnf)
 all_goals first
  |exact a0d (by rw [<-e];rfl)
  |trace_state
theorem u0Z:nmB j0U=true:=by unfold nmB;decide
theorem t0y:g0o b0v=true:=by unfold g0o;decide
abbrev hs0:Blk:= .cells [.nmap,.str j0U,.str b0v,.int .i64 1,.int .i64 0,.nmap,.nptr,.nsl,.nmap,.nmap,.nmap]
theorem w0N:FC Tryz.prog 1 18 [.str j0U,.str b0v,.int .i64 1] [] (a0h (.tup [.ptr 1 0 0 0,.int .i64 0]) [(1,some (.one false hs0))] 2):=by
 have c0:=o0O j0U;have c1:=j0V b0v;rw [u0Z] at c0;rw [t0y] at c1;unfold hs0;generalize j0U=a at*;generalize b0v=b at*;refine fEx Tryz.func18 ?_;repeat' ((conv=>whnf);first|refine cPx c0 ?_|refine cPx c1 ?_|refine a0a ?_|(apply bRx<;>intro h<;>try (exfalso;(try dsimp only at h);omega)))
 all_goals (conv=>whnf)
 all_goals exact rOx [0,1] (a0b a0c)
theorem v0a:y0m c0I=0:=by decide
end
section
attribute [local irreducible] a0G a0H a0q b0H
theorem w0O:FC Tryz.prog 1 42 [.str c0I,.int .i64 90000,.int .i64 999999999999,.int .i64 1000] [] (a0h (.tup [.ptr 1 0 0 0,.int .i64 0]) [(1,some (.one false (cdB 1 us0)))] 2):=by
 have c0:=q0m c0I;rw [v0a] at c0;have c1:=l0s 90000 (by decide);have c2:=e0F 999999999999 (by decide);refine fEx Tryz.func42 ?_;repeat' ((conv=>whnf);first|refine cPx c0 ?_|refine cPx c1 ?_|refine cPx c2 ?_|refine a0a ?_|(apply bRx<;>intro h<;>try (exfalso;(try dsimp only at h);omega)))
 all_goals (conv=>whnf)
 all_goals exact rOx [0,1] (a0b a0c)
theorem v0b:b0C Tryz.prog 70 [.int .i64 1,.int .i64 1] (.tup [.int .i64 2,.int .i64 0]):=by
 refine fEx Tryz.func70 ?_;repeat' ((conv=>whnf);first|refine a0a ?_|(apply bRx<;>intro h<;>try (exfalso;(try dsimp only at h);omega)))
 all_goals (conv=>whnf)
 all_goals exact a0d rfl
theorem y0t (u:Us):FC Tryz.prog 2 44 [.ptr 1 0 0 0,.int .i64 1] [(1,some (.one false (cdB 1 u)))] (a0h (.int .i64 0) [(1,some (.one false (cdB 2 u)))] 2):=by
 have c0:=v0b;refine fEx Tryz.func44 ?_;repeat' ((conv=>whnf);first|refine cPx c0 ?_|refine a0a ?_|(apply bRx<;>intro h<;>try (exfalso;(try dsimp only at h);omega)))
 all_goals (conv=>whnf)
 all_goals exact rOx [0,1] (a0b a0c)
theorem o0S:FC Tryz.prog 3 45 [.ptr 1 0 0 5,.str c0I,.ptr 2 0 0 0] [(1,some (.one false hs0))] (a0h (.tup []) [(1,some (.one false (.cells [.nmap,.str j0U,.str b0v,.int .i64 1,.int .i64 0,.map 3 0,.nptr,.nsl,.nmap,.nmap,.nmap]))),(3,some (.one false (.obj (.map false false 1 [.strs [c0I]] [.ptrs 2 1] [0] 1))))] 4):=by
 refine fEx Tryz.func45 ?_;repeat' ((conv=>whnf);first|refine a0a ?_|(apply bRx<;>intro h<;>try (exfalso;(try dsimp only at h);omega)))
 all_goals (conv=>whnf)
 refine k0Y (l:= [0,1,2,3]) [.relab (fun _ _=>none) (fun _=>0) [(3,some (.one false (.obj (.map false false 1 [.strs [c0I]] [.ptrs 2 1] [0] 1))))] [] 0] ⟨q0c (n:=4) (th:=3) (tb0:= .obj (.map false false 1 [.strs [c0I]] [.svs [.ptr 2 0 0 0]] [0] 1)) (by decide) rfl (n0t rfl ?_),rfl,rfl,⟨rfl,rfl,trivial⟩⟩ (a0b (a0b a0c));intro i hi;have:i=0:=by omega
 subst this;exact j0z _
theorem s0B (b:Int) (hb:0<=b/\b<=999999999999):FC Tryz.prog 2 19 [.ptr 1 0 0 0,.str c0I,.int .i64 90000,.int .i64 b,.int .i64 0,.int .i64 999999999999,.int .i64 1000] [(0,some (GB glT)),(1,some (.one false hs0))]
  (a0h (.int .i64 0) [(1,some (.one false (.cells [.nmap,.str j0U,.str b0v,.int .i64 1,.int .i64 0,.map 2 0,.nptr,.nsl,.nmap,.nmap,.nmap]))),(2,some (.one false (.obj (.map false false 1 [.strs [c0I]] [.ptrs 3 1] [0] 1)))),(3,some (.one false (.cells [.ptr 4 0 0 0,.ptr 5 0 0 0,.int .i64 999999999999,.int .i64 1000]))),(4,some (.one false (cdB 2 us0))),(5,some (.one false (.cells [.int .i64 b,.int .i64 0,.map 6 0]))),(6,some (.one false (acM (Acc.mk0 b 0))))] 7):=by
 have c0:=w0O;have c1:=o0G b0v b 0 (w0x (by omega));have c2:=y0t us0;have c3:=o0S;refine fEx Tryz.func19 ?_;repeat' ((conv=>whnf);first|refine cOx (l:= [0]) c0 ?_|refine cOx (l:= [0]) c1 ?_|refine cOx (l:= [0,2]) c2 ?_|refine cOx (l:= [0,1,5]) c3 ?_|refine a0a ?_|(apply bRx<;>intro h<;>try (exfalso;(try dsimp only at h);omega)))
 all_goals (conv=>whnf)
 all_goals exact rOx [0,1,6,5,2,3,4] (a0b (a0b (a0b (a0b (a0b (a0b a0c))))))
theorem n0O (b:Int) (hb:0<=b/\b<=999999999999):FC Tryz.prog 1 5 [.int .i64 b] [(0,some (GB glT))]
  (a0h (.tup [.ptr 1 0 0 0,.bool true]) [(1,some (.one false (.cells [.nmap,.str j0U,.str b0v,.int .i64 1,.int .i64 0,.map 2 0,.nptr,.nsl,.nmap,.nmap,.nmap]))),(2,some (.one false (.obj (.map false false 1 [.strs [c0I]] [.ptrs 3 1] [0] 1)))),(3,some (.one false (.cells [.ptr 4 0 0 0,.ptr 5 0 0 0,.int .i64 999999999999,.int .i64 1000]))),(4,some (.one false (cdB 2 us0))),(5,some (.one false (.cells [.int .i64 b,.int .i64 0,.map 6 0]))),(6,some (.one false (acM (Acc.mk0 b 0))))] 7):=by
 have c0:=w0N;have c1:=s0B b hb;refine fEx Tryz.func5 ?_;repeat' ((conv=>whnf);first|refine cOx (l:= [0]) c0 ?_|refine cOx (l:= [0,1]) c1 ?_|refine a0a ?_|(apply bRx<;>intro h<;>try (exfalso;(try dsimp only at h);omega)))
 all_goals (conv=>whnf)
 all_goals exact rOx [0,1,2,3,4,5,6] (a0b (a0b (a0b (a0b (a0b (a0b a0c))))))
end
section
attribute [local irreducible] a0G a0H a0q b0H
abbrev i13:List Nat:= [0,1,2,3,4,5,6,7,8,9,10,11,12]
theorem f0x (now:Int) (km gm rm:Bool) (ng:Nat) (a:Acc) (ha:a.vs.length=a.n):FC Tryz.prog 13 11 [.ptr 1 0 0 0,.str c0I] [(1,some (.one true (hsB now km gm rm ng))),(4,some (.one true hoM)),(5,some (.one true hoB)),(7,some (.one true (acB a))),(8,some (.one true (acM a)))] (a0h (.tup [.int .i64 a.bal,.int .i64 a.held,.bool true]) [] 13):=by
 have c0:=m0r a;have c1:=n0D a ha;generalize a.held=H at*;cases km<;>cases gm<;>cases rm;all_goals refine fEx Tryz.func11 ?_
 all_goals repeat' ((conv=>whnf);first|refine cOx (l:= [0,7,8]) c0 ?_|refine cOx (l:= [0,7,8]) c1 ?_|refine a0a ?_|(apply bRx<;>intro h<;>try (exfalso;(try dsimp only at h);omega)))
 all_goals (conv=>whnf)
 all_goals first
  |exact a0y (l:=i13) rfl rfl trivial a0c
  |trace_state
theorem v0c (now:Int) (km gm rm:Bool) (ng:Nat) (t:Int) (ht:0<=t/\t<=1000000000):FC Tryz.prog 13 90 [.ptr 1 0 0 0,.int .i64 t] [(1,some (.one true (hsB now km gm rm ng)))] (a0h (.int .i64 (t+86400)) [] 13):=by
 have w1:IntKind.i64.wrap (1*86400)=86400:=rfl;have w2:IntKind.i64.wrap (t+86400)=t+86400:=a0r (by omega) (by omega);cases km<;>cases gm<;>cases rm;all_goals refine fEx Tryz.func90 ?_
 all_goals repeat' ((conv=>whnf);first|(rw [w1])|(rw [w2])|refine a0a ?_|(apply bRx<;>intro h<;>try (exfalso;(try dsimp only at h);omega)))
 all_goals (conv=>whnf)
 all_goals first
  |exact a0y (l:=i13) rfl rfl trivial a0c
  |trace_state
theorem n0P (now:Int) (km gm rm:Bool) (ng:Nat) (t:Int) (ht:0<=t/\t<=1000000000) (hn:now<=t):FC Tryz.prog 13 20 [.ptr 1 0 0 0,.int .i64 t] [(1,some (.one true (hsB now km gm rm ng)))] (a0h (.tup [.int .i64 (t/86400),.bool true]) [] 13):=by
 have c0:=q0I t;have hd:okT t=true:=by rw [h0K];refine ⟨ht.1,by omega,?_⟩;unfold isD;simp;omega
 rw [show v0N t=t/86400 by unfold v0N;rw [if_pos hd]] at c0;generalize hq:t/86400=q at*;have hq0:0<=q:=by omega
 cases km<;>cases gm<;>cases rm;all_goals refine fEx Tryz.func20 ?_
 all_goals repeat' ((conv=>whnf);first|refine cPx c0 ?_|refine a0a ?_|(apply bRx<;>intro h<;>try (exfalso;(try dsimp only at h);omega)))
 all_goals (conv=>whnf)
 all_goals first
  |(exfalso;omega)
  |exact a0y (l:=i13) rfl rfl trivial a0c
  |exact a0y (l:=i13) rfl (by rw [decide_eq_true hq0];rfl) trivial a0c
  |trace_state
end
end Go.Proofs.YtedoefigabpmpaaGreatDoor
