/- Several texts in one: Bp1. -/
import Derived.Test.YtpkaeknigknbgaaGreatDoorP4
import Derived.WalkKit
import Derived.Lib.Builder
import Derived.Lib.AppendStr
import Derived.Lib.UnsafeStr
import Derived.Lib.Strings
import Derived.Lib.Slices
import Derived.Lib.Walk
import Derived.Shelf.RegionOpenPlain
import Derived.Sort.Walk0
set_option linter.unusedVariables false
set_option linter.unusedSimpArgs false
set_option maxRecDepth 100000
namespace Go.Sy
abbrev b1U:=@ByteArray.size_append
abbrev e1e:=@List.take_length
abbrev f1T:=@List.map_append
abbrev h1C:=@List.getElem?_set_self
abbrev h1J:=@List.getElem?_set_ne
abbrev h1N:=@List.length_set
abbrev h1X:=@List.pairwise_cons
abbrev h1u:=@List.pairwise_iff_getElem
abbrev h1w:=@Lib.cell_of_heap
abbrev h1y:=@Nat.pow_le_pow_right
abbrev h1z:=@Bool.false_and
abbrev i1I:=@List.mem_append_left
abbrev i1O:=@Bool.and_false
abbrev i1Q:=@List.range_succ
abbrev i1R:=@Lib.strCells_eq
abbrev i1T:=@Int.tmod_eq_emod_of_nonneg
abbrev i1U:=@Int.tdiv_eq_ediv_of_nonneg
abbrev i1Z:=@Int.add_zero
abbrev i1a:=@List.take_succ_eq_append_getElem
abbrev i1e:=@List.pairwise_singleton
abbrev i1f:=@List.getElem?_replicate
abbrev i1l:=@Classical.not_not
abbrev i1w:=@List.getD_cons_succ
abbrev j1M:=@ByteArray.data_append
abbrev j1S:=@Nat.min_eq_left
abbrev j1d:=@List.drop_zero
end Go.Sy
namespace Go.Sy
open Go.RowKit
theorem b1W {n:Int} (h:0<=n) (h':n<=4294967295):IntKind.u32.wrap n=n:=IntWalk.u32_in n ⟨h,h'⟩
theorem b1X {n:Int} (h:0<=n) (h':n<=18446744073709551615):IntKind.u64.wrap n=n:=IntWalk.u64_in n ⟨h,h'⟩
theorem e1o {n:Int} (h:0<=n) (h':n<=255):IntKind.u8.wrap n=n:=IntWalk.u8_in n ⟨h,h'⟩
theorem i0E {k:IntKind} {x:Int} (n:Nat) (h:n<=k.bits):u0c k x (n:Int)=x/2^n:=by
 unfold u0c;rw [y0u,j1S h,Int.fdiv_eq_ediv_of_nonneg];exact Int.pow_nonneg (by omega)
theorem g0N {x:Int}:u0c .u64 x 8=x/256:=i0E (k:= .u64) 8 (by decide)
theorem f0x {x:Int}:u0c .u64 x 16=x/65536:=i0E (k:= .u64) 16 (by decide)
theorem f0y {x:Int}:u0c .u64 x 32=x/4294967296:=i0E (k:= .u64) 32 (by decide)
theorem f0z {x:Int}:u0c .i64 x 18=x/262144:=i0E (k:= .i64) 18 (by decide)
abbrev a0D:=And.intro @a0m (And.intro @b1W (And.intro @b1X (And.intro @e1o (And.intro @g0N (And.intro @f0x (And.intro @f0y (And.intro @f0z (And.intro @i1T (And.intro @i1U (And.intro @y0u @e1f))))))))))
theorem k0I {s:ByteArray} {x:Int} {n:Nat} (h:s.size=n) (k:x<(n:Int)):x<(s.size:Int):=by rw [h];exact k
theorem e1p {s:ByteArray} {x:Int} {n:Nat} (h:s.size=n) (k:x<=(n:Int)):x<=(s.size:Int):=by rw [h];exact k
def p0i:Nat->Nat->List Int
 |0,_=> []
 |n+1,u=>p0i n (u/10)++ [((48+u%10:Nat):Int)]
theorem b0L:∀n u,(p0i n u).length=n
 |0,_=>rfl
 |n+1,u=>by simp [p0i,b0L n]
theorem r0G:∀(n u i:Nat),i<n->(p0i n u)[i]? =some ((48+u/10^(n-1-i)%10:Nat):Int)
 |0,_,i,h=>by omega
 |n+1,u,i,h=>by
  simp only [p0i];by_cases e:i<n
  .rw [v0f (by rw [b0L];exact e),r0G n (u/10) i e,Nat.div_div_eq_div_mul,show 10*10^(n-1-i)=10^(n+1-1-i) from by rw [<-Nat.pow_succ'];congr 1;omega]
  .have e':i=n:=by omega
   subst e';rw [v0k (by rw [b0L];exact m0D _),b0L];simp
def d0i (u:Nat):Nat:=if u<10 then 1 else d0i (u/10)+1
termination_by u
decreasing_by omega
theorem g0O (u:Nat):0<d0i u:=by rw [d0i];split<;>omega
theorem p0O (u:Nat):u<10^d0i u:=by
 induction u using Nat.strongRecOn with
 |_ u ih=>
  rw [d0i];split
  .simpa using ‹u<10›
  .have:=ih (u/10) (by omega);rw [Nat.pow_succ];omega
theorem v0n (u:Nat) (h:1<=u):10^(d0i u-1)<=u:=by
 induction u using Nat.strongRecOn with
 |_ u ih=>
  rw [d0i];split
  .simpa using h
  .have:=ih (u/10) (by omega) (by omega);have hp:=g0O (u/10);rw [show d0i (u/10)+1-1=(d0i (u/10)-1)+1 from by omega,Nat.pow_succ];omega
theorem j0L {u k:Nat} (h1:10^k<=u) (h2:u<10^(k+1)):d0i u=k+1:=by
 have hu:1<=u:=f1X (Nat.one_le_pow _ _ (by omega)) h1;have a:=p0O u;have b:=v0n u hu;have hp:=g0O u;rcases h1q (d0i u) (k+1) with h|h|h
 .have:10^d0i u<=10^k:=h1y (by omega) (by omega);omega
 .exact h
 .have:10^(k+1)<=10^(d0i u-1):=h1y (by omega) (by omega);omega
def dec (u:Nat):ByteArray:=a0C (p0i (d0i u) u)
def b0S (n:Int):ByteArray:=if n<0 then a0C (45::p0i (d0i n.natAbs) n.natAbs) else dec n.toNat
def d0j (u:Nat):Nat:=if u=0 then 0 else u.log2+1
theorem p0P (u:Nat):u<2^d0j u:=by
 unfold d0j;split
 .omega
 .exact Nat.lt_log2_self
theorem j0M (u:Nat) (h:1<=u):2^(d0j u-1)<=u:=by
 unfold d0j;rw [if_neg (by omega),Nat.add_sub_cancel];exact Nat.log2_self_le (by omega)
theorem p0Q {u k:Nat} (h1:2^k<=u) (h2:u<2^(k+1)):d0j u=k+1:=by
 have hu:1<=u:=f1X (Nat.one_le_pow _ _ (by omega)) h1;have a:=p0P u;have b:=j0M u hu;have hp:0<d0j u:=by unfold d0j;rw [if_neg (by omega)];omega
 rcases h1q (d0j u) (k+1) with h|h|h
 .have:2^d0j u<=2^k:=h1y (by omega) (by omega);omega
 .exact h
 .have:2^(k+1)<=2^(d0j u-1):=h1y (by omega) (by omega);omega
theorem o0j {u:Nat} (h:u<2^64):d0j u<=64:=by
 rcases a1K 64 (d0j u) with h1|h1
 .have hu:1<=u:=by
   rcases c1s u with e|e
   .subst e;simp [d0j] at h1
   .exact e
  have a:=j0M u hu;have:2^64<=2^(d0j u-1):=h1y (by omega) (by omega);omega
 .exact h1
theorem t0o (u k:Nat) (h:2^k<=u):d0j u=k+d0j (u/2^k):=by
 have h1:1<=u/2^k:=(Nat.one_le_div_iff (Nat.two_pow_pos k)).2 h;have a:=p0P (u/2^k);have b:=j0M (u/2^k) h1;have hp:0<d0j (u/2^k):=by unfold d0j;rw [if_neg (by omega)];omega
 have:d0j u=(k+d0j (u/2^k)-1)+1:=by
  refine p0Q ?_ ?_
  .rw [show k+d0j (u/2^k)-1=(d0j (u/2^k)-1)+k from by omega,Nat.pow_add];exact (Nat.le_div_iff_mul_le (Nat.two_pow_pos k)).1 b
  .rw [show k+d0j (u/2^k)-1+1=d0j (u/2^k)+k from by omega,Nat.pow_add];exact (i1F (Nat.two_pow_pos k)).1 a
 omega
theorem o0k:∀L,L<=64->1<=L->10^(L*78913/2^18)<=2^L/\2^L<=10^(L*78913/2^18+1)/\(L*78913/2^18=0\/10^(L*78913/2^18-1)<=2^(L-1)):=by
 decide+kernel
theorem y0H {u:Nat} (h1:1<=u) (h2:u<2^64):d0i u=d0j u*78913/2^18+(if 10^(d0j u*78913/2^18)<=u then 1 else 0):=by
 have hp:1<=d0j u:=by unfold d0j;rw [if_neg (by omega)];omega
 obtain ⟨a,b,c⟩:=o0k (d0j u) (o0j h2) hp;have d:=p0P u;have e:=j0M u h1;generalize d0j u*78913/2^18=k at*;split
 .exact j0L ‹_› (h1v d b)
 .rcases c with c|c
  .subst c;rename_i h;simp at h;omega
  .have hk:k≠0:=by intro h;subst h;rename_i h;simp at h;omega
   have:=j0L (u:=u) (k:=k-1) (f1X c e) (by rw [show k-1+1=k from by omega];omega);omega
def e1q (s:ByteArray) (n:Nat) (f:Nat->Nat):Bool:=decide (s.size=n)&&(List.range n).all (fun i=>Nat.beq (s.data.toList.getD i 0).toNat (f i))
theorem m0I {s:ByteArray} {n:Nat} {f:Nat->Nat} (h:e1q s n f=true) {i:Nat} (hi:i<n):a0e s (i:Int)=(f i:Int):=by
 unfold e1q at h;simp only [k0P,h1D,i1E] at h;unfold a0e;rw [y0u,j0J (h.2 i hi)]
def smF (i:Nat):Nat:=if i%2=0 then 48+i/20 else 48+i/2%10
theorem g0P {s:ByteArray} (h:e1q s 200 smF=true) {y:Int} (h0:0<=y) (h1:y<100):a0e s (y*2+1)=48+y%10:=by
 have e:y*2+1=((y.toNat*2+1:Nat):Int):=by omega
 rw [e,m0I h (by omega)];unfold smF;rw [if_neg (by omega)];omega
theorem e0k {s:ByteArray} (h:e1q s 200 smF=true) {y:Int} (h0:0<=y) (h1:y<100):a0e s (y*2)=48+y/10:=by
 have e:y*2=((y.toNat*2:Nat):Int):=by omega
 rw [e,m0I h (by omega)];unfold smF;rw [if_pos (by omega)];omega
def t0p (l:List Int) (N o n U m:Nat):List Int:=(List.range N).map (fun x=>if o+n-m<=x/\x<o+n then ((48+U/10^(o+n-1-x)%10:Nat):Int) else l.getD x 0)
theorem j0N (l:List Int) (N o n U m:Nat):(t0p l N o n U m).length=N:=by simp [t0p]
theorem v0o {l:List Int} {N o n U:Nat} (h:l.length=N):t0p l N o n U 0=l:=by
 apply h1s;intro i;simp only [t0p,v0g];by_cases hi:i<N
 .rw [h1Q hi];simp only [a1R];rw [if_neg (by omega),List.getD,j0I (by omega)];rfl
 .rw [p0J (by simp;omega),p0J (by omega)];rfl
theorem a0v {l:List Int} {N o n U m i:Nat} {v:Int} (hm:m<n) (hN:o+n<=N) (hi:i=o+n-m-1) (hv:v=((48+U/10^m%10:Nat):Int)):(t0p l N o n U m).set i v=t0p l N o n U (m+1):=by
 subst hi;apply h1s;intro x;rw [h1r,j0N];by_cases e:o+n-m-1=x
 .subst e;rw [if_pos rfl,if_pos (by omega)];simp only [t0p,v0g];rw [h1Q (by omega)];simp only [a1R];rw [if_pos (by omega),hv,show o+n-1-(o+n-m-1)=m from by omega]
 .rw [if_neg e];simp only [t0p,v0g];by_cases hx:x<N
  .rw [h1Q hx];simp only [a1R];by_cases h2:o+n-m<=x/\x<o+n
   .rw [if_pos h2,if_pos (by omega)]
   .rw [if_neg h2,if_neg (by omega)]
  .rw [p0J (by simp;omega)];rfl
theorem r0H {l:List Int} {N o n U:Nat} (hN:o+n<=N):seg o n (t0p l N o n U n)=p0i n U:=by
 apply h1s;intro i;unfold seg;by_cases hi:i<n
 .rw [h1F,if_pos hi,i1G,r0G _ _ _ hi];simp only [t0p,v0g];rw [h1Q (by omega)];simp only [a1R];rw [if_pos (by omega),show o+n-1-(o+i)=n-1-i from by omega]
 .rw [h1F,if_neg hi,p0J (by rw [b0L];omega)]
theorem a0J (U m j:Nat):U/10^(m+j)=U/10^m/10^j:=by rw [Nat.pow_add,Nat.div_div_eq_div_mul]
attribute [irreducible] t0p dec b0S
theorem y0I {L:List Int} {n:Nat} {v:Int} (h:0<L.length):seg 0 (1+n) (L.set 0 v)=v::seg 1 n L:=by
 cases L with
 |nil=>simp at h
 |cons x l=>simp [seg,Nat.add_comm 1 n]
end Go.Sy
namespace Go.Proofs.YtpkaeknigknbgaaGreatDoor
open Go.RowKit Go.Sy
section
attribute [local irreducible] a0q a0r a0j a0R
theorem a0i {k:Nat} (h:k<9223372036854775806):IntKind.i64.wrap ((k:Int)+1)=((k+1:Nat):Int):=by rw [a0m (by omega) (by omega)];rfl
def v0p (s:ByteArray) (i:Nat):Bool:=decide (65<=a0e s (i:Int))&&decide (a0e s (i:Int)<=90)
def e0A (s:ByteArray):Nat->Bool
 |0=>true
 |k+1=>e0A s k&&v0p s k
def d0k (s:ByteArray):Bool:=decide (s.size=3)&&e0A s s.size
theorem o0l {s:ByteArray} {k n:Nat} (h:k<n) (hc:v0p s k=false):e0A s n=false:=by
 induction n with
 |zero=>omega
 |succ n ih=>
  simp only [e0A];by_cases e:k=n
  .subst e;simp [hc]
  .rw [ih (by omega)];rfl
theorem b0m {s:ByteArray} {k:Nat} (h:k<s.size) (hc:a0e s (k:Int)<65\/90<a0e s (k:Int)):d0k s=false:=by
 have:v0p s k=false:=by unfold v0p;simp;omega
 unfold d0k;rw [o0l h this];simp
theorem d0T {s:ByteArray} (h:s.size≠3):d0k s=false:=by unfold d0k;simp [h]
theorem b0Z {s:ByteArray} {k:Nat} (h:e0A s k=true) (h1:¬a0e s (k:Int)<65) (h2:¬90<a0e s (k:Int)):e0A s (k+1)=true:=by
 simp only [e0A,h,v0p];simp;omega
attribute [irreducible] d0k
theorem i0w (s:ByteArray):a0V Tryz.prog 251 [.str s] (.bool (d0k s)):=by
 refine fEx Tryz.func251 ?_;repeat' ((conv=>whnf);first|refine a0a ?_|(apply bRx<;>intro h<;>try (exfalso;(try dsimp only at h);omega)))
 all_goals (conv=>whnf)
 .exact a0d (by rw [d0T (by omega)];rfl)
 .refine a0o (fun k:Nat=>⟨[(0,.str s),(8,.int .i64 s.size),(9,.int .i64 k)],[],1⟩) (fun k=>k<=s.size/\e0A s k=true) (fun k=>s.size-k) 0 [0] [] wHx ⟨by omega,rfl⟩ ?_;rintro k ⟨hk,hc⟩;repeat' ((conv=>whnf);first|refine a0a ?_|(apply bRx<;>intro h<;>try (exfalso;(try dsimp only at h);omega)))
  all_goals (conv=>whnf)
  .exact a0d (by rw [b0m (k:=k) (by omega) (by omega)];rfl)
  .exact a0d (by rw [b0m (k:=k) (by omega) (by omega)];rfl)
  .exact ⟨k+1,[0],[],⟨by omega,b0Z hc (by omega) (by omega)⟩,by omega,⟨rfl,⟨rfl,rfl,congrArg (fun z=>some (SV.int .i64 z)) (a0i (by omega)),trivial⟩,trivial⟩⟩
  .have e:k=s.size:=by omega
   subst e;refine a0d ?_;have:d0k s=true:=by unfold d0k;rw [hc];simp;omega
   rw [this];rfl
theorem i0x (s:ByteArray):a0V Tryz.prog 178 [.str s] (.bool (d0k s)):=by
 refine fEx Tryz.func178 ?_
 (conv=>whnf)
 refine a0o (fun k:Nat=>⟨[(0,.str s),(3,.int .i64 k)],[],1⟩) (fun k=>k<=s.size/\k<=3/\e0A s k=true) (fun k=>3-k) 0 [0] [] wHx ⟨by omega,by omega,rfl⟩ ?_;rintro k ⟨hk,h3,hc⟩;repeat' ((conv=>whnf);first|refine a0a ?_|(apply bRx<;>intro h<;>try (exfalso;(try dsimp only at h);omega)))
 all_goals (conv=>whnf)
 .exact a0d (by rw [b0m (k:=k) (by omega) (by omega)];rfl)
 .exact a0d (by rw [b0m (k:=k) (by omega) (by omega)];rfl)
 .exact ⟨k+1,[0],[],⟨by omega,by omega,b0Z hc (by omega) (by omega)⟩,by omega,⟨rfl,⟨rfl,congrArg (fun z=>some (SV.int .i64 z)) (a0i (by omega)),trivial⟩,trivial⟩⟩
 all_goals refine a0d ?_
 all_goals by_cases e:s.size=3
 all_goals first
  |(have e':k=s.size:=by omega
    subst e';have:d0k s=true:=by unfold d0k;rw [hc];simp;omega
    rw [this];simp [e,c0d];done)
  |(rw [d0T e];simp [c0d];omega)
end
section
def auC (c:Int):Bool:=decide ((97<=c/\c<=122)\/(65<=c/\c<=90)\/(48<=c/\c<=57)\/c=95\/c=45)
def auI (s:ByteArray):Bool:=decide (1<=s.size/\s.size<=16)&&(List.range s.size).all (fun i=>auC (a0e s (i:Int)))
theorem m0J {s:ByteArray} (h:s.size<1\/16<s.size):auI s=false:=by
 unfold auI;rw [decide_eq_false (by omega),h1z]
theorem v0q {s:ByteArray} {k:Nat} (hk:k<s.size) (hc:¬((97<=a0e s (k:Int)/\a0e s (k:Int)<=122)\/(65<=a0e s (k:Int)/\a0e s (k:Int)<=90)\/(48<=a0e s (k:Int)/\a0e s (k:Int)<=57)\/a0e s (k:Int)=95\/a0e s (k:Int)=45)):auI s=false:=by
 unfold auI;rw [Bool.and_eq_false_iff];refine .inr ?_;cases e:(List.range s.size).all (fun i=>auC (a0e s (i:Int))) with
 |false=>rfl
 |true=>
  rw [h1D] at e;exact absurd (of_decide_eq_true (e k (by simpa using hk))) hc
def d1K (s:ByteArray) (k:Nat):Prop:=∀i,i<k->auC (a0e s (i:Int))=true
theorem j0O {s:ByteArray} {k:Nat} (h:d1K s k) (hc:(97<=a0e s (k:Int)/\a0e s (k:Int)<=122)\/(65<=a0e s (k:Int)/\a0e s (k:Int)<=90)\/(48<=a0e s (k:Int)/\a0e s (k:Int)<=57)\/a0e s (k:Int)=95\/a0e s (k:Int)=45):d1K s (k+1):=by
 intro i hi;by_cases e:i=k
 .subst e;unfold auC;exact decide_eq_true hc
 .exact h i (by omega)
theorem p0R {s:ByteArray} (h1:1<=s.size) (h2:s.size<=16) (h:d1K s s.size):auI s=true:=by
 unfold auI;rw [decide_eq_true ⟨h1,h2⟩,h1i,h1D];exact fun i hi=>h i (by simpa using hi)
attribute [irreducible] auI
structure Au where
 id:ByteArray
 cur:ByteArray
 app:Int
 rev:Int
 cle:Int
 exp:Int
 st:Int
 att:Int
 unt:Int
 pa:Int
abbrev Au.s (a:Au):SV:= .agg [.str a.id,.str a.cur,.int .i64 a.app,.int .i64 a.rev,.int .i64 a.cle,.int .i64 a.exp,.int .i64 a.st,.int .i64 a.att,.int .i64 a.unt,.int .i64 a.pa]
theorem Au.eta (a:Au):Au.mk a.id a.cur a.app a.rev a.cle a.exp a.st a.att a.unt a.pa=a:=rfl
def Au.zero:Au:=⟨⟨#[]⟩,⟨#[]⟩,0,0,0,0,0,0,0,0⟩
@[irreducible] def a0p (a:Au):Int:=IntKind.i64.wrap (IntKind.i64.wrap (IntKind.i64.wrap (a.app-a.rev)-a.cle)-a.exp)
@[irreducible] def b0i (a:Au):Int:=if 0<a0p a then 1 else if 0<a.exp then 4 else if 0<a.cle then 2 else 3
def g0Q (n:Int):Bool:=decide (0<=n/\n<=999999999999)
@[irreducible] def b0p (a:Au):Int:=
 if auI a.id=false then 5 else if d0k a.cur=false then 11
 else if¬(1<=a.app/\a.app<=999999999999/\0<=a.rev/\a.rev<=999999999999/\0<=a.cle/\a.cle<=999999999999/\0<=a.exp/\a.exp<=999999999999) then 4
 else if a0p a<0 then 26
 else if¬(0<=a.att/\a.att<=1099511627776/\a.att<a.unt/\a.unt<=1099511627776) then 14
 else if¬(0<=a.pa/\a.pa<=8/\a.pa<=a.cle/\(a.pa=0↔a.cle=0)) then 4
 else if a.st≠b0i a\/(a.st=1/\a.exp≠0) then 8 else 0
theorem e0T (a:Au) (h1:0<=a.app) (h2:a.app<=999999999999) (h3:0<=a.rev) (h4:a.rev<=999999999999) (h5:0<=a.cle) (h6:a.cle<=999999999999) (h7:0<=a.exp) (h8:a.exp<=999999999999):a0p a=a.app-a.rev-a.cle-a.exp:=by
 unfold a0p;rw [a0m (n:=a.app-a.rev) (by omega) (by omega),a0m (n:=a.app-a.rev-a.cle) (by omega) (by omega),a0m (by omega) (by omega)]
@[irreducible] def v0r (a:Au):Int:=if b0p a=0 then a0p a else 0
@[irreducible] def c0l (a:Au):Int:=if b0p a=0 then (if a.st=1 then 0 else 8) else b0p a
structure Facts (a:Au):Prop where
 id:auI a.id=true
 cur:d0k a.cur=true
 app:1<=a.app/\a.app<=999999999999
 rev:0<=a.rev/\a.rev<=999999999999
 cle:0<=a.cle/\a.cle<=999999999999
 exp:0<=a.exp/\a.exp<=999999999999
 funds:a0p a=a.app-a.rev-a.cle-a.exp
 nneg:0<=a0p a
 time:0<=a.att/\a.att<=1099511627776/\a.att<a.unt/\a.unt<=1099511627776
 pa:0<=a.pa/\a.pa<=8/\a.pa<=a.cle/\(a.pa=0↔a.cle=0)
 st:a.st=b0i a
 op:a.st=1->a.exp=0
theorem g0R {a:Au} (h:b0p a=0):Facts a:=by
 unfold b0p at h;split at h;·simp at h
 split at h;·simp at h
 split at h;·simp at h
 split at h;·simp at h
 split at h;·simp at h
 split at h;·simp at h
 split at h;·simp at h
 rename_i h1 h2 h3 h4 h5 h6 h7;have e:=e0T a (by omega) (by omega) (by omega) (by omega) (by omega) (by omega) (by omega) (by omega);have h7':a.st=b0i a/\(a.st=1->a.exp=0):=by
  constructor
  .apply Classical.byContradiction;intro x;exact h7 (.inl x)
  .intro x;apply Classical.byContradiction;intro y;exact h7 (.inr ⟨x,y⟩)
 exact ⟨by simpa using h1,by simpa using h2,by omega,by omega,by omega,by omega,e,by omega,by omega,by omega,h7'.1,h7'.2⟩
theorem b0q {a:Au} (h:c0l a=0):Facts a/\a.st=1/\0<a0p a/\v0r a=a0p a/\b0p a=0/\a.exp=0:=by
 unfold c0l at h;split at h
 .rename_i hc;split at h
  .rename_i hs;have f:=g0R hc;refine ⟨f,hs,?_,by unfold v0r;rw [if_pos hc],hc,f.op hs⟩;have:=f.st;rw [hs] at this;unfold b0i at this;split at this
   .assumption
   .split at this
    .simp at this
    .split at this<;>simp at this
  .simp at h
 .rename_i hc;exact absurd h hc
@[irreducible] def v0s (id cur:ByteArray) (n at_ un:Int):Au×Int:=
 let a:Au:=⟨id,cur,n,0,0,0,1,at_,un,0⟩
 if b0p a=0 then (a,0) else (Au.zero,b0p a)
@[irreducible] def d0r (a:Au) (n u:Int):Au×Int:=
 if c0l a≠0 then (Au.zero,c0l a) else if¬(1<=n/\n<=999999999999-a.app) then (Au.zero,4)
 else if u<a.unt\/1099511627776<u then (Au.zero,14) else ({ a with app:=a.app+n,unt:=u},0)
@[irreducible] def b0g (a:Au) (n:Int):Au×Int×Int:=
 if c0l a≠0 then (Au.zero,0,c0l a) else if¬(0<=n/\n<=a0p a) then (Au.zero,0,4)
 else ({ a with rev:=a.rev+(if n=0 then a0p a else n),st:=b0i { a with rev:=a.rev+(if n=0 then a0p a else n)}},(if n=0 then a0p a else n),0)
@[irreducible] def e0U (a:Au) (n:Int) (f:Bool):Au×Int×Int×Int:=
 if c0l a≠0 then (Au.zero,0,0,c0l a) else if¬(1<=n/\n<=999999999999) then (Au.zero,0,0,4) else if 8<=a.pa then (Au.zero,0,0,10)
 else ({ a with cle:=a.cle+min n (a0p a),rev:=a.rev+(if f=true then a0p a-min n (a0p a) else 0),pa:=a.pa+1,
                st:=b0i { a with cle:=a.cle+min n (a0p a),rev:=a.rev+(if f=true then a0p a-min n (a0p a) else 0),pa:=a.pa+1}},
       min n (a0p a),(if f=true then a0p a-min n (a0p a) else 0),0)
@[irreducible] def b0M (a:Au) (t:Int):Au×Int×Int:=
 if c0l a≠0 then (Au.zero,0,c0l a) else if t<a.unt then (Au.zero,0,14)
 else ({ a with exp:=a.exp+a0p a,st:=b0i { a with exp:=a.exp+a0p a}},a0p a,0)
theorem b1Y (id cur:ByteArray) (n at_ un:Int) (h:(v0s id cur n at_ un).2=0):(v0s id cur n at_ un).1.id=id:=by
 unfold v0s at h⊢;dsimp only at h⊢;split
 .rfl
 .rename_i hc;rw [if_neg hc] at h;exact absurd h hc
abbrev t2 (r:Au×Int):SV:= .tup [r.1.s,.int .i64 r.2]
abbrev t3 (r:Au×Int×Int):SV:= .tup [r.1.s,.int .i64 r.2.1,.int .i64 r.2.2]
abbrev t4 (r:Au×Int×Int×Int):SV:= .tup [r.1.s,.int .i64 r.2.1,.int .i64 r.2.2.1,.int .i64 r.2.2.2]
theorem v0t (id cur:ByteArray) (n at_ un:Int):b0p ⟨id,cur,n,0,0,0,b0i ⟨id,cur,n,0,0,0,0,at_,un,0⟩,at_,un,0⟩=b0p ⟨id,cur,n,0,0,0,1,at_,un,0⟩/\
  (b0p ⟨id,cur,n,0,0,0,1,at_,un,0⟩=0->b0i ⟨id,cur,n,0,0,0,0,at_,un,0⟩=1):=by
 by_cases hn:1<=n/\n<=999999999999
 .have e:b0i ⟨id,cur,n,0,0,0,0,at_,un,0⟩=1:=by
   unfold b0i;rw [e0T _ (by simp;omega) (by simp;omega) (by simp) (by simp) (by simp) (by simp) (by simp) (by simp)];simp;omega
  rw [e];exact ⟨rfl,fun _=>rfl⟩
 .constructor
  .unfold b0p;simp only;split;·rfl
   split;·rfl
   rw [if_pos (by omega),if_pos (by omega)]
  .intro h;have:=(g0R h).app;simp at this;omega
end
section
attribute [local irreducible] a0q a0r a0j a0R
def g1B (s:ByteArray) (i:Nat):Prop:=48<=a0e s (i:Int)/\a0e s (i:Int)<=57
instance (s:ByteArray) (i:Nat):Decidable (g1B s i):=by unfold g1B;infer_instance
end
section
attribute [local irreducible] a0q a0r a0j a0R
def mkB (c:Int):Bool:=decide (0<=Lib.indexByte [40,41,123,125,44,59,58,61,60,62,43,45,42,37,46] c.toNat.toUInt8)
theorem v0u (c:Int) (h0:0<=c) (h1:c<128):a0V Tryz.prog 129 [.str ⟨#[40,41,123,125,44,59,58,61,60,62,43,45,42,37,46]⟩,.int .i32 c] (.bool (mkB c)):=by
 refine m0B (vals:= [.string ⟨#[40,41,123,125,44,59,58,61,60,62,43,45,42,37,46]⟩,.int .i32 c]) (v:= .bool (mkB c)) (f0t Tryz.func129 (by kernel_rfl) (by kernel_rfl)) ?_ ?_ ?_
 .intro g vs h;simpa [Rvs,Rv] using h
 .intro g;simp [Rv]
 .intro w;have h:=Tryz.strings_ContainsRune_ascii ⟨#[40,41,123,125,44,59,58,61,60,62,43,45,42,37,46]⟩ c w h0 h1;refine h.mono ?_;rintro e w' ⟨rfl,rfl⟩;exact ⟨rfl,Below.refl _ _⟩
def ltP (c:Int):Prop:=(97<=c/\c<=122)\/(65<=c/\c<=90)
instance (c:Int):Decidable (ltP c):=by unfold ltP;infer_instance
def wdP (c:Int):Prop:=ltP c\/(48<=c/\c<=57)\/c=95
instance (c:Int):Decidable (wdP c):=by unfold wdP;infer_instance
def k0J (c:Int):Int:=if c=32\/c=9\/c=10 then 1 else if ltP c then 2 else if 48<=c/\c<=57 then 3 else if c=95 then 4 else if c=34 then 5 else if c=35 then 6 else if c<=126/\mkB c=true then 7 else 0
theorem i32_in {c:Int} (h0:0<=c) (h1:c<=255):IntKind.i32.wrap c=c:=IntWalk.i32_in _ ⟨by omega,by omega⟩
theorem m0K {c:Int}:k0J c=2↔ltP c:=by
 unfold k0J;by_cases h:ltP c
 .have:¬(c=32\/c=9\/c=10):=by unfold ltP at h;omega
  rw [if_neg this,if_pos h];simp [h]
 .simp only [if_neg h]
  (repeat' split)<;>simp [h]
theorem b1Z {c:Int}:(k0J c=2\/k0J c=3\/k0J c=4)↔wdP c:=by
 have e:∀x,k0J c=x->(k0J c=2\/k0J c=3\/k0J c=4↔x=2\/x=3\/x=4):=fun x e=>by rw [e]
 refine (e _ rfl).trans ?_;unfold wdP;by_cases h2:ltP c
 .have:=m0K.2 h2;simp [this,h2]
 .have h2':=h2;unfold ltP at h2';have n2:k0J c≠2:=fun h=>h2 (m0K.1 h)
  have e3:k0J c=3↔(48<=c/\c<=57):=by
   unfold k0J;rw [if_neg h2];(repeat' split)<;>omega
  have e4:k0J c=4↔c=95:=by
   unfold k0J;rw [if_neg h2];(repeat' split)<;>omega
  rw [e3,e4];simp [n2,h2]
theorem j0P (c:Int) (h0:0<=c) (h1:c<=255):a0V Tryz.prog 92 [.int .i32 c] (.int .i64 (k0J c)):=by
 by_cases h126:c<=126
 .have cm:=v0u c h0 (by omega);cases hm:mkB c with
  |true=>
   rw [hm] at cm;unfold k0J ltP;rw [hm];refine fEx Tryz.func92 ?_;repeat' ((conv=>whnf);first|refine cPx cm ?_|refine a0a ?_|(apply bRx<;>intro h<;>try (exfalso;(try dsimp only at h);omega)))
   all_goals (conv=>whnf)
   all_goals (refine a0d (congrArg (SV.int .i64) ?_))
   all_goals first
    |((try simp only [and_true,h1K,and_false,if_false]);(repeat' split)<;>omega)
  |false=>
   rw [hm] at cm;unfold k0J ltP;rw [hm];refine fEx Tryz.func92 ?_;repeat' ((conv=>whnf);first|refine cPx cm ?_|refine a0a ?_|(apply bRx<;>intro h<;>try (exfalso;(try dsimp only at h);omega)))
   all_goals (conv=>whnf)
   all_goals (refine a0d (congrArg (SV.int .i64) ?_))
   all_goals first
    |((try simp only [and_true,h1K,and_false,if_false]);(repeat' split)<;>omega)
 .unfold k0J ltP;refine fEx Tryz.func92 ?_;repeat' ((conv=>whnf);first|refine a0a ?_|(apply bRx<;>intro h<;>try (exfalso;(try dsimp only at h);omega)))
  all_goals (conv=>whnf)
  all_goals (refine a0d (congrArg (SV.int .i64) ?_))
  all_goals first
   |((repeat' split)<;>omega)
theorem k0K (c:Int) (h0:0<=c) (h1:c<=255):a0V Tryz.prog 130 [.int .u8 c] (.bool (decide (wdP c))):=by
 have c1:=j0P c h0 h1;have hw:=b1Z (c:=c);rw [show (SV.int .i32 c)=SV.int .i32 (IntKind.i32.wrap c) by rw [i32_in h0 h1]] at c1;generalize k0J c=x at c1 hw;refine fEx Tryz.func130 ?_;repeat' ((conv=>whnf);first|refine cPx c1 ?_|refine a0a ?_|(apply bRx<;>intro h<;>try (exfalso;(try dsimp only at h);omega)))
 all_goals (conv=>whnf)
 all_goals first
  |exact a0d (congrArg SV.bool (decide_eq_true (hw.1 (by omega))).symm)
  |exact a0d (congrArg SV.bool (decide_eq_decide.2 ⟨fun hh=>hw.1 (Or.inr (Or.inr hh)),fun hh=>(hw.2 hh).resolve_left (by omega)|>.resolve_left (by omega)⟩))
def l0y (s:ByteArray):Nat->Bool
 |0=>true
 |k+1=>l0y s k&&decide (wdP (a0e s (k:Int)))
theorem v0v {s:ByteArray} {k:Nat} (h:l0y s k=true) (h1:wdP (a0e s (k:Int))):l0y s (k+1)=true:=by
 simp only [l0y,h,h1i,decide_eq_true_eq];exact h1
theorem t0q {s:ByteArray} {k n:Nat} (h:k<n) (hc:¬wdP (a0e s (k:Int))):l0y s n=false:=by
 induction n with
 |zero=>omega
 |succ n ih=>
  simp only [l0y];by_cases e:k=n
  .subst e;simp [hc]
  .rw [ih (by omega)];rfl
theorem p0S {s:ByteArray} {k n:Nat} (h:k<n) (hd:l0y s n=true):wdP (a0e s (k:Int)):=by
 by_cases hc:wdP (a0e s (k:Int))
 .exact hc
 .rw [t0q h hc] at hd;cases hd
theorem f0A {s:ByteArray}:∀n,l0y s n=false->∃k,k<n/\l0y s k=true/\¬wdP (a0e s (k:Int))
 |0,h=>by simp [l0y] at h
 |n+1,h=>by
  cases hn:l0y s n with
  |false=>obtain ⟨k,h1,h2⟩:=f0A n hn;exact ⟨k,by omega,h2⟩
  |true=>
   refine ⟨n,by omega,hn,fun hw=> ?_⟩;rw [v0v hn hw] at h;cases h
theorem l0z (s:ByteArray) (e:Nat) (he:e<=s.size) (ht:l0y s e=true) (hx:e=s.size\/¬wdP (a0e s (e:Int))) (hs:s.size<=1000000):a0V Tryz.prog 93 [.str s,.int .i64 0] (.str (s.extract 0 e)):=by
 refine fEx Tryz.func93 ?_
 (conv=>whnf)
 refine a0o (fun k:Nat=>⟨[(0,.str s),(1,.int .i64 0),(5,.int .i64 k)],[],1⟩) (fun k=>k<=e) (fun k=>e-k) 0 [0] [] wHx (by omega) ?_;intro k hk;have bd:=g0K s (k:Int);have c:=k0K (a0e s (k:Int)) bd.1 bd.2;by_cases hk2:k<e
 .rw [decide_eq_true (p0S hk2 ht)] at c;repeat' ((conv=>whnf);first|refine cPx c ?_|refine a0a ?_|(apply bRx<;>intro h<;>try (exfalso;(try dsimp only at h);omega)))
  all_goals (conv=>whnf)
  all_goals first
   |exact ⟨k+1,[0],[],by omega,by omega,⟨rfl,⟨rfl,rfl,congrArg (fun z=>some (SV.int .i64 z)) (a0i (by omega)),trivial⟩,trivial⟩⟩
   |(exfalso;omega)
 .have e1:k=e:=by omega
  subst e1;by_cases hsz:k<s.size
  .rw [decide_eq_false (hx.resolve_left (by omega))] at c;repeat' ((conv=>whnf);first|refine cPx c ?_|refine a0a ?_|(apply bRx<;>intro h<;>try (exfalso;(try dsimp only at h);omega)))
   all_goals (conv=>whnf)
   all_goals first
    |exact a0d rfl
    |(exfalso;omega)
  .repeat' ((conv=>whnf);first|refine a0a ?_|(apply bRx<;>intro h<;>try (exfalso;(try dsimp only at h);omega)))
   all_goals (conv=>whnf)
   all_goals first
    |exact a0d rfl
    |(exfalso;omega)
def nmB (s:ByteArray):Bool:=decide (1<=s.size)&&decide (s.size<=16)&&decide (ltP (a0e s 0))&&l0y s s.size
theorem a1L {s:ByteArray} (h:¬s=⟨#[]⟩):1<=s.size:=by
 rcases c1s s.size with h0|h0
 .exfalso;apply h;cases s with|mk d=>
  have:d= #[]:=h1V h0;rw [this]
 .exact h0
theorem p0T (s:ByteArray):s.extract 0 s.size=s:=by
 apply ByteArray.ext;simp
theorem l0A (s:ByteArray):a0V Tryz.prog 60 [.str s] (.bool (nmB s)):=by
 unfold nmB;by_cases h0:s=⟨#[]⟩
 .subst h0;refine fEx Tryz.func60 ?_;repeat' ((conv=>whnf);first|refine a0a ?_|(apply bRx<;>intro h<;>try (exfalso;(try dsimp only at h);omega)))
  all_goals (conv=>whnf)
  all_goals first
   |exact a0d rfl
   |(exfalso;exact h rfl)
 .have hz:=a1L h0;by_cases h16:s.size<=16
  .have bd:=g0K s 0;have c1:=j0P (a0e s 0) bd.1 bd.2;rw [show (SV.int .i32 (a0e s 0))=SV.int .i32 (IntKind.i32.wrap (a0e s 0)) by rw [i32_in bd.1 bd.2]] at c1;by_cases hl:ltP (a0e s 0)
   .rw [m0K.2 hl] at c1;cases hw:l0y s s.size with
    |true=>
     have c2:=l0z s s.size (m0D _) hw (.inl rfl) (by omega);rw [p0T] at c2;rw [decide_eq_true hz,decide_eq_true h16,decide_eq_true hl];refine fEx Tryz.func60 ?_;repeat' ((conv=>whnf);first|refine cPx c1 ?_|refine cPx c2 ?_|refine a0a ?_|(apply bRx<;>intro h<;>try (exfalso;(try dsimp only at h);omega)))
     all_goals (conv=>whnf)
     all_goals first
      |exact a0d rfl
      |(exfalso;exact h0 (by assumption))
      |(exfalso;omega)
      |exact a0d (congrArg SV.bool (decide_eq_true rfl))
    |false=>
     obtain ⟨k,k1,k2,k3⟩:=f0A _ hw;have c2:=l0z s k (by omega) k2 (.inr k3) (by omega);have hsz:(s.extract 0 k).size=k:=by rw [ByteArray.size_extract];omega
     rw [decide_eq_true hz,decide_eq_true h16,decide_eq_true hl];refine fEx Tryz.func60 ?_;repeat' ((conv=>whnf);first|refine cPx c1 ?_|refine cPx c2 ?_|refine a0a ?_|(apply bRx<;>intro h<;>try (exfalso;(try dsimp only at h);omega)))
     all_goals (conv=>whnf)
     all_goals first
      |exact a0d rfl
      |(exfalso;exact h0 (by assumption))
      |(exfalso;omega)
      |exact a0d (congrArg SV.bool (decide_eq_false (by rw [hsz];omega)))
   .have hne:k0J (a0e s 0)≠2:=fun h=>hl (m0K.1 h)
    rw [decide_eq_false hl];generalize k0J (a0e s 0)=x at c1 hne;refine fEx Tryz.func60 ?_;repeat' ((conv=>whnf);first|refine cPx c1 ?_|refine a0a ?_|(apply bRx<;>intro h<;>try (exfalso;(try dsimp only at h);omega)))
    all_goals (conv=>whnf)
    all_goals first
     |(exfalso;exact h0 (by assumption))
     |(exfalso;omega)
     |exact a0d (by rw [i1O];rfl)
  .rw [decide_eq_false h16];refine fEx Tryz.func60 ?_;repeat' ((conv=>whnf);first|refine a0a ?_|(apply bRx<;>intro h<;>try (exfalso;(try dsimp only at h);omega)))
   all_goals (conv=>whnf)
   all_goals first
    |(exfalso;exact h0 (by assumption))
    |(exfalso;omega)
    |exact a0d (by rw [i1O];rfl)
end
section
structure Bop where
 k:Int
 t:Int
 id:ByteArray
 au:ByteArray
 is:ByteArray
 ac:ByteArray
 am:Int
 fe:Int
 fi:Bool
abbrev Bop.s (o:Bop):SV:= .agg [.int .i64 o.k,.int .i64 o.t,.str o.id,.str o.au,.str o.is,.str o.ac,.int .i64 o.am,.int .i64 o.fe,.bool o.fi]
def fiB (s:ByteArray) (u:Bool) (p:ByteArray->Bool):Bool:=match u with|true=>p s|false=>seq s ⟨#[]⟩
def f0B (k:Int):Bool:=decide (k=4\/k=5\/k=6)
def v0w (k:Int):Bool:=decide (k=1\/k=2\/k=3\/k=4\/k=7)
def pmB (k a:Int):Bool:=
 if k=3 then decide (0<=a/\a<=999999999999) else if k=6 then decide (-999999999999<=a/\a<=999999999999/\a≠0)
 else if k=8 then decide (0<=a/\a<=99999) else if k=7 then decide (a=0) else decide (1<=a/\a<=999999999999)
def bkN (o:Bop):Bool:=fiB o.id (f0B o.k) auI&&(fiB o.au (v0w o.k) auI&&(fiB o.is (f0B o.k) nmB&&fiB o.ac (f0B o.k) nmB))
def ckE (o:Bop):Int:=
 if o.k<1\/8<o.k then 4 else if o.t<0\/1099511627776<o.t then 14 else if bkN o=false then 5 else if pmB o.k o.am=false then 4
 else if o.fe<0\/(if o.k=4\/o.k=5 then o.am else 0)<o.fe then 4 else if o.fi=true/\o.k≠4 then 2 else if f0B o.k=true/\o.is=o.ac then 7 else 0
theorem e0l {k:Int} (h:¬(k<1\/8<k)):k=1\/k=2\/k=3\/k=4\/k=5\/k=6\/k=7\/k=8:=by omega
structure CkOk (o:Bop):Prop where
 k:1<=o.k/\o.k<=8
 t:0<=o.t/\o.t<=1099511627776
 n:bkN o=true
 a:pmB o.k o.am=true
 f:0<=o.fe/\o.fe<=(if o.k=4\/o.k=5 then o.am else 0)
 fi:o.fi=true->o.k=4
 d:f0B o.k=true->o.is≠o.ac
theorem y0J {o:Bop} (h:ckE o=0):CkOk o:=by
 unfold ckE at h;by_cases h1:o.k<1\/8<o.k
 .rw [if_pos h1] at h;cases h
 rw [if_neg h1] at h;by_cases h2:o.t<0\/1099511627776<o.t
 .rw [if_pos h2] at h;cases h
 rw [if_neg h2] at h;by_cases h3:bkN o=false
 .rw [if_pos h3] at h;cases h
 rw [if_neg h3] at h;by_cases h4:pmB o.k o.am=false
 .rw [if_pos h4] at h;cases h
 rw [if_neg h4] at h;by_cases h5:o.fe<0\/(if o.k=4\/o.k=5 then o.am else 0)<o.fe
 .rw [if_pos h5] at h;cases h
 rw [if_neg h5] at h;by_cases h6:o.fi=true/\o.k≠4
 .rw [if_pos h6] at h;cases h
 rw [if_neg h6] at h;by_cases h7:f0B o.k=true/\o.is=o.ac
 .rw [if_pos h7] at h;cases h
 exact ⟨by omega,by omega,by simpa using h3,by simpa using h4,by omega,fun e=>Classical.byContradiction fun q=>h6 ⟨e,q⟩,fun e q=>h7 ⟨e,q⟩⟩
end
section
attribute [local irreducible] a0q a0r a0j a0R
theorem c1a (s:ByteArray):a0V Tryz.prog 59 [.str s] (.bool (auI s)):=by
 by_cases h:s.size<1\/16<s.size
 .rw [m0J h];refine fEx Tryz.func59 ?_;repeat' ((conv=>whnf);first|refine a0a ?_|(apply bRx<;>intro h<;>try (exfalso;(try dsimp only at h);omega)))
  all_goals (conv=>whnf)
  all_goals first
   |exact a0d rfl
   |(exfalso;omega)
 refine fEx Tryz.func59 ?_;repeat' ((conv=>whnf);first|refine a0a ?_|(apply bRx<;>intro h<;>try (exfalso;(try dsimp only at h);omega)))
 all_goals (conv=>whnf)
 all_goals first
  |(exfalso;omega)
  |skip
 refine a0o (fun k:Nat=>⟨[(0,.str s),(3,.int .i64 k)],[],1⟩) (fun k=>k<=s.size/\d1K s k) (fun k=>s.size-k) 0 [0] [] wHx ⟨by omega,fun i hi=>by omega⟩ ?_;rintro k ⟨hk,hc⟩;repeat' ((conv=>whnf);first|refine a0a ?_|(apply bRx<;>intro h<;>try (exfalso;(try dsimp only at h);omega)))
 all_goals (conv=>whnf)
 all_goals first
  |exact a0d (by rw [v0q (k:=k) (by omega) (by omega)];rfl)
  |exact ⟨k+1,[0],[],⟨by omega,j0O hc (by omega)⟩,by omega,⟨rfl,⟨rfl,congrArg (fun z=>some (SV.int .i64 z)) (a0i (by omega)),trivial⟩,trivial⟩⟩
  |skip
 have e:k=s.size:=by omega
 subst e;exact a0d (by rw [p0R (by omega) (by omega) hc];rfl)
theorem r0I (s:ByteArray):a0V Tryz.prog 18 [.str s] (.bool (d0k s)):=by
 refine fEx Tryz.func18 ?_;repeat' ((conv=>whnf);first|refine a0a ?_|(apply bRx<;>intro h<;>try (exfalso;(try dsimp only at h);omega)))
 all_goals (conv=>whnf)
 .exact a0d (by rw [d0T (by omega)];rfl)
 .refine a0o (fun k:Nat=>⟨[(0,.str s),(3,.int .i64 k)],[],1⟩) (fun k=>k<=s.size/\e0A s k=true) (fun k=>s.size-k) 0 [0] [] wHx ⟨by omega,rfl⟩ ?_;rintro k ⟨hk,hc⟩;repeat' ((conv=>whnf);first|refine a0a ?_|(apply bRx<;>intro h<;>try (exfalso;(try dsimp only at h);omega)))
  all_goals (conv=>whnf)
  .exact a0d (by rw [b0m (k:=k) (by omega) (by omega)];rfl)
  .exact a0d (by rw [b0m (k:=k) (by omega) (by omega)];rfl)
  .exact ⟨k+1,[0],[],⟨by omega,b0Z hc (by omega) (by omega)⟩,by omega,⟨rfl,⟨rfl,congrArg (fun z=>some (SV.int .i64 z)) (a0i (by omega)),trivial⟩,trivial⟩⟩
  .have e:k=s.size:=by omega
   subst e;refine a0d ?_;have:d0k s=true:=by unfold d0k;rw [hc];simp;omega
   rw [this];rfl
theorem r0J (s:ByteArray) (u:Bool):a0V Tryz.prog 58 [.str s,.bool u,.fn 59 []] (.bool (fiB s u auI)):=by
 have c:=c1a s;cases u<;>unfold fiB<;>dsimp only;all_goals
  refine fEx Tryz.func58 ?_;repeat' ((conv=>whnf);first|refine cPx c ?_|refine a0a ?_|(apply bRx<;>intro h<;>try (exfalso;(try dsimp only at h);omega)))
  all_goals (conv=>whnf)
  all_goals exact a0d rfl
theorem r0K (s:ByteArray) (u:Bool):a0V Tryz.prog 58 [.str s,.bool u,.fn 60 []] (.bool (fiB s u nmB)):=by
 have c:=l0A s;cases u<;>unfold fiB<;>dsimp only;all_goals
  refine fEx Tryz.func58 ?_;repeat' ((conv=>whnf);first|refine cPx c ?_|refine a0a ?_|(apply bRx<;>intro h<;>try (exfalso;(try dsimp only at h);omega)))
  all_goals (conv=>whnf)
  all_goals exact a0d rfl
theorem c1b (k a:Int) (hk:¬(k<1\/8<k)):a0V Tryz.prog 61 [.int .i64 k,.int .i64 a] (.bool (pmB k a)):=by
 rcases e0l hk with rfl|rfl|rfl|rfl|rfl|rfl|rfl|rfl
 all_goals
  unfold pmB;simp only [Int.reduceEq,if_true,if_false];refine fEx Tryz.func61 ?_;repeat' ((conv=>whnf);first|refine a0a ?_|(apply bRx<;>intro h<;>try (exfalso;(try dsimp only at h);omega)))
  all_goals (conv=>whnf)
  all_goals refine a0d ?_
  all_goals
   show SV.bool _=SV.bool _;first
    |rfl
    |congr 1
   all_goals first
    |exact decide_eq_decide.2 (by omega)
    |exact (decide_eq_false (by omega)).symm
    |(rw [<-decide_not];exact decide_eq_decide.2 (by omega))
set_option maxHeartbeats 4000000 in
theorem v0x (k t:Int) (id au is ac:ByteArray) (am fe:Int) (fi:Bool):a0V Tryz.prog 29 [.agg [.int .i64 k,.int .i64 t,.str id,.str au,.str is,.str ac,.int .i64 am,.int .i64 fe,.bool fi]] (.int .i64 (ckE ⟨k,t,id,au,is,ac,am,fe,fi⟩)):=by
 by_cases h1:k<1\/8<k
 .have e:ckE ⟨k,t,id,au,is,ac,am,fe,fi⟩=4:=by unfold ckE;rw [if_pos h1]
  rw [e];refine fEx Tryz.func29 ?_;repeat' ((conv=>whnf);first|refine a0a ?_|(apply bRx<;>intro h<;>try (exfalso;(try dsimp only at h);omega)))
  all_goals (conv=>whnf)
  all_goals first
   |exact a0d rfl
   |(exfalso;omega)
 by_cases h2:t<0\/1099511627776<t
 .have e:ckE ⟨k,t,id,au,is,ac,am,fe,fi⟩=14:=by unfold ckE;rw [if_neg h1,if_pos h2]
  rw [e];refine fEx Tryz.func29 ?_;repeat' ((conv=>whnf);first|refine a0a ?_|(apply bRx<;>intro h<;>try (exfalso;(try dsimp only at h);omega)))
  all_goals (conv=>whnf)
  all_goals first
   |exact a0d rfl
   |(exfalso;omega)
 have c1:=r0J id (f0B k);have c2:=r0J au (v0w k);have c3:=r0K is (f0B k);have c4:=r0K ac (f0B k);have c5:=c1b k am h1;have e:ckE ⟨k,t,id,au,is,ac,am,fe,fi⟩=if (fiB id (f0B k) auI&&(fiB au (v0w k) auI&&(fiB is (f0B k) nmB&&fiB ac (f0B k) nmB)))=false then 5 else if pmB k am=false then 4 else if fe<0\/(if k=4\/k=5 then am else 0)<fe then 4 else if fi=true/\k≠4 then 2 else if f0B k=true/\is=ac then 7 else 0:=by
  unfold ckE bkN;rw [if_neg h1,if_neg h2]
 generalize ckE ⟨k,t,id,au,is,ac,am,fe,fi⟩=E at*;generalize fiB id (f0B k) auI=b1 at*;generalize fiB au (v0w k) auI=b2 at*;generalize fiB is (f0B k) nmB=b3 at*;generalize fiB ac (f0B k) nmB=b4 at*;generalize pmB k am=b5 at*;rcases e0l h1 with rfl|rfl|rfl|rfl|rfl|rfl|rfl|rfl
 all_goals
  simp only [Int.reduceEq,f0B,v0w,or_true,true_or,or_false,false_or,if_true,if_false,decide_true,decide_false,true_and,false_and,h1K,ne_eq,not_true_eq_false,not_false_eq_true,and_true,and_false] at*;refine fEx Tryz.func29 ?_;repeat' ((conv=>whnf);first|refine cPx c1 ?_|refine cPx c2 ?_|refine cPx c3 ?_|refine cPx c4 ?_|refine cPx c5 ?_|refine a0a ?_|(apply bRx<;>intro h<;>try (exfalso;(try dsimp only at h);omega)))
  all_goals (conv=>whnf)
  all_goals first
   |(exfalso;omega)
   |(refine a0d (congrArg (SV.int .i64) (a₁:=_) ?_)
     rw [e]
     (repeat' split)<;>first|rfl|(exfalso;omega)|(exfalso;simp_all;done))
theorem e0m (o:Bop):a0V Tryz.prog 29 [o.s] (.int .i64 (ckE o)):=v0x o.k o.t o.id o.au o.is o.ac o.am o.fe o.fi
end
section
attribute [local irreducible] a0q a0r a0j a0R
theorem l0B (b:Int):a0V Tryz.prog 94 [.int .u8 b] (.bool (decide (97<=b/\b<=122\/65<=b/\b<=90))):=by
 refine fEx Tryz.func94 ?_;repeat' ((conv=>whnf);first|refine a0a ?_|(apply bRx<;>intro h<;>try (exfalso;(try dsimp only at h);omega)))
 all_goals (conv=>whnf)
 all_goals first
  |exact a0d (congrArg SV.bool (by rw [decide_eq_decide];omega))
  |exact a0d (congrArg SV.bool (by rw [decide_eq_true (by omega)]))
  |exact a0d (congrArg SV.bool (by rw [decide_eq_false (by omega)]))
theorem v0y (b:Int):a0V Tryz.prog 131 [.int .u8 b] (.bool (decide (48<=b/\b<=57))):=by
 refine fEx Tryz.func131 ?_;repeat' ((conv=>whnf);first|refine a0a ?_|(apply bRx<;>intro h<;>try (exfalso;(try dsimp only at h);omega)))
 all_goals (conv=>whnf)
 all_goals first
  |exact a0d (congrArg SV.bool (by rw [decide_eq_decide];omega))
  |exact a0d (congrArg SV.bool (by rw [decide_eq_true (by omega)]))
  |exact a0d (congrArg SV.bool (by rw [decide_eq_false (by omega)]))
theorem r0L (s:ByteArray) (e:Nat) (he:e<=s.size) (ht:l0y s e=true) (hx:e=s.size\/¬wdP (a0e s (e:Int))) (hs:s.size<=1000000):a0V Tryz.prog 95 [.str s,.int .i64 0] (.int .i64 e):=by
 refine fEx Tryz.func95 ?_;repeat' ((conv=>whnf);first|refine a0a ?_|(apply bRx<;>intro h<;>try (exfalso;(try dsimp only at h);omega)))
 all_goals (conv=>whnf)
 refine a0o (fun k:Nat=>⟨[(0,.str s),(1,.int .i64 k)],[],1⟩) (fun k=>k<=e) (fun k=>e-k) 0 [0] [] wHx (by omega) ?_;intro k hk;have c1:=l0B (a0e s (k:Int));have c2:=v0y (a0e s (k:Int));by_cases hk2:k<e
 .have hw:=p0S hk2 ht;unfold wdP ltP at hw;repeat' ((conv=>whnf);first|refine cPx c1 ?_|refine cPx c2 ?_|refine a0a ?_|(apply bRx<;>intro h<;>try (exfalso;(try dsimp only at h);omega)))
  all_goals (conv=>whnf)
  all_goals first
   |exact ⟨k+1,[0],[],by omega,by omega,⟨rfl,⟨rfl,congrArg (fun z=>some (SV.int .i64 z)) (a0i (by omega)),trivial⟩,trivial⟩⟩
   |(exfalso;omega)
   |trace_state
 .have e1:k=e:=by omega
  subst e1;by_cases hsz:k<s.size
  .have hw:=hx.resolve_left (by omega);unfold wdP ltP at hw;repeat' ((conv=>whnf);first|refine cPx c1 ?_|refine cPx c2 ?_|refine a0a ?_|(apply bRx<;>intro h<;>try (exfalso;(try dsimp only at h);omega)))
   all_goals (conv=>whnf)
   all_goals first
    |exact a0d rfl
    |(exfalso;omega)
    |trace_state
  .repeat' ((conv=>whnf);first|refine cPx c1 ?_|refine cPx c2 ?_|refine a0a ?_|(apply bRx<;>intro h<;>try (exfalso;(try dsimp only at h);omega)))
   all_goals (conv=>whnf)
   all_goals first
    |exact a0d rfl
    |(exfalso;omega)
    |trace_state
theorem l0C (s:ByteArray):a0V Tryz.prog 65 [.str s] (.bool (nmB s)):=by
 have c1:=l0B (a0e s 0);unfold nmB;by_cases h0:s=⟨#[]⟩
 .subst h0;refine fEx Tryz.func65 ?_;repeat' ((conv=>whnf);first|refine a0a ?_|(apply bRx<;>intro h<;>try (exfalso;(try dsimp only at h);omega)))
  all_goals (conv=>whnf)
  all_goals first
   |exact a0d rfl
   |(exfalso;exact h rfl)
 have hz:=a1L h0;by_cases h16:s.size<=16
 case neg=>
  rw [decide_eq_false h16];refine fEx Tryz.func65 ?_;repeat' ((conv=>whnf);first|refine a0a ?_|(apply bRx<;>intro h<;>try (exfalso;(try dsimp only at h);omega)))
  all_goals (conv=>whnf)
  all_goals first
   |(exfalso;exact h0 (by assumption))
   |(exfalso;omega)
   |exact a0d (by rw [i1O];rfl)
 by_cases hl:ltP (a0e s 0)
 case neg=>
  rw [decide_eq_false hl];rw [decide_eq_false (show¬(97<=a0e s 0/\a0e s 0<=122\/65<=a0e s 0/\a0e s 0<=90) from hl)] at c1;refine fEx Tryz.func65 ?_;repeat' ((conv=>whnf);first|refine cPx c1 ?_|refine a0a ?_|(apply bRx<;>intro h<;>try (exfalso;(try dsimp only at h);omega)))
  all_goals (conv=>whnf)
  all_goals first
   |(exfalso;exact h0 (by assumption))
   |(exfalso;omega)
   |exact a0d (by rw [i1O];rfl)
 rw [decide_eq_true (show (97<=a0e s 0/\a0e s 0<=122\/65<=a0e s 0/\a0e s 0<=90) from hl)] at c1;rw [decide_eq_true hz,decide_eq_true h16,decide_eq_true hl];cases hw:l0y s s.size with
 |true=>
  have c2:=r0L s s.size (m0D _) hw (.inl rfl) (by omega);refine fEx Tryz.func65 ?_;repeat' ((conv=>whnf);first|refine cPx c1 ?_|refine cPx c2 ?_|refine a0a ?_|(apply bRx<;>intro h<;>try (exfalso;(try dsimp only at h);omega)))
  all_goals (conv=>whnf)
  all_goals first
   |(exfalso;exact h0 (by assumption))
   |(exfalso;omega)
   |exact a0d (congrArg SV.bool (decide_eq_true rfl))
   |trace_state
 |false=>
  obtain ⟨k,k1,k2,k3⟩:=f0A _ hw;have c2:=r0L s k (by omega) k2 (.inr k3) (by omega);refine fEx Tryz.func65 ?_;repeat' ((conv=>whnf);first|refine cPx c1 ?_|refine cPx c2 ?_|refine a0a ?_|(apply bRx<;>intro h<;>try (exfalso;(try dsimp only at h);omega)))
  all_goals (conv=>whnf)
  all_goals first
   |(exfalso;exact h0 (by assumption))
   |(exfalso;omega)
   |exact a0d (congrArg SV.bool (decide_eq_false (by omega)))
   |trace_state
end
section
attribute [local irreducible] a0q a0r a0j a0R
theorem h0N (a:Au):a0V Tryz.prog 115 [a.s] (.int .i64 (a0p a)):=by
 refine fEx Tryz.func115 ?_;repeat' ((conv=>whnf);first|refine a0a ?_|(apply bRx<;>intro h<;>try (exfalso;(try dsimp only at h);omega)))
 all_goals (conv=>whnf)
 exact a0d (by unfold a0p;rfl)
theorem p0U (n:Int):a0V Tryz.prog 114 [.int .i64 n] (.bool (g0Q n)):=by
 refine fEx Tryz.func114 ?_;repeat' ((conv=>whnf);first|refine a0a ?_|(apply bRx<;>intro h<;>try (exfalso;(try dsimp only at h);omega)))
 all_goals (conv=>whnf)
 all_goals refine a0d ?_
 .have h':0<=n:=by assumption
  by_cases g:n<=999999999999
  .rw [show g0Q n=true from decide_eq_true ⟨h',g⟩,show decide (n<=999999999999)=true from decide_eq_true g];rfl
  .rw [show g0Q n=false from decide_eq_false (fun q=>g q.2),show decide (n<=999999999999)=false from decide_eq_false g];rfl
 .rw [show g0Q n=false from decide_eq_false (fun q=>h q.1)];rfl
set_option maxHeartbeats 2000000 in
theorem i0o (a:Au):a0V Tryz.prog 116 [a.s] ({a with st:=b0i a}:Au).s:=by
 have c:=h0N a;have e:b0i a=if 0<a0p a then 1 else if 0<a.exp then 4 else if 0<a.cle then 2 else 3:=by unfold b0i;rfl
 generalize a0p a=F at*;generalize b0i a=st at*;obtain ⟨id,cur,app,rev,cle,exp,st0,att,unt,pa⟩:=a;dsimp only at*;by_cases h1:0<F
 .rw [if_pos h1] at e;subst e;refine fEx Tryz.func116 ?_;repeat' ((conv=>whnf);first|refine cPx c ?_|refine a0a ?_|(apply bRx<;>intro h<;>try (exfalso;(try dsimp only at h);omega)))
  all_goals (conv=>whnf)
  all_goals first
   |exact a0d rfl
   |(exfalso;omega)
 rw [if_neg h1] at e;by_cases h2:0<exp
 .rw [if_pos h2] at e;subst e;refine fEx Tryz.func116 ?_;repeat' ((conv=>whnf);first|refine cPx c ?_|refine a0a ?_|(apply bRx<;>intro h<;>try (exfalso;(try dsimp only at h);omega)))
  all_goals (conv=>whnf)
  all_goals first
   |exact a0d rfl
   |(exfalso;omega)
 rw [if_neg h2] at e;by_cases h3:0<cle
 .rw [if_pos h3] at e;subst e;refine fEx Tryz.func116 ?_;repeat' ((conv=>whnf);first|refine cPx c ?_|refine a0a ?_|(apply bRx<;>intro h<;>try (exfalso;(try dsimp only at h);omega)))
  all_goals (conv=>whnf)
  all_goals first
   |exact a0d rfl
   |(exfalso;omega)
 rw [if_neg h3] at e;subst e;refine fEx Tryz.func116 ?_;repeat' ((conv=>whnf);first|refine cPx c ?_|refine a0a ?_|(apply bRx<;>intro h<;>try (exfalso;(try dsimp only at h);omega)))
 all_goals (conv=>whnf)
 all_goals first
  |exact a0d rfl
  |(exfalso;omega)
theorem v0z (s:ByteArray):a0V Tryz.prog 112 [.str s] (.bool (auI s)):=by
 by_cases h:s.size<1\/16<s.size
 .rw [m0J h];refine fEx Tryz.func112 ?_;repeat' ((conv=>whnf);first|refine a0a ?_|(apply bRx<;>intro h<;>try (exfalso;(try dsimp only at h);omega)))
  all_goals (conv=>whnf)
  all_goals first
   |exact a0d rfl
   |(exfalso;omega)
 refine fEx Tryz.func112 ?_;repeat' ((conv=>whnf);first|refine a0a ?_|(apply bRx<;>intro h<;>try (exfalso;(try dsimp only at h);omega)))
 all_goals (conv=>whnf)
 all_goals first
  |(exfalso;omega)
  |skip
 refine a0o (fun k:Nat=>⟨[(0,.str s),(16,.int .i64 s.size),(17,.int .i64 k)],[],1⟩) (fun k=>k<=s.size/\d1K s k) (fun k=>s.size-k) 0 [0] [] wHx ⟨by omega,fun i hi=>by omega⟩ ?_;rintro k ⟨hk,hc⟩;repeat' ((conv=>whnf);first|refine a0a ?_|(apply bRx<;>intro h<;>try (exfalso;(try dsimp only at h);omega)))
 all_goals (conv=>whnf)
 all_goals first
  |exact a0d (by rw [v0q (k:=k) (by omega) (by omega)];rfl)
  |exact ⟨k+1,[0],[],⟨by omega,j0O hc (by omega)⟩,by omega,⟨rfl,⟨rfl,rfl,congrArg (fun z=>some (SV.int .i64 z)) (a0i (by omega)),trivial⟩,trivial⟩⟩
  |skip
 have e:k=s.size:=by omega
 subst e;exact a0d (by rw [p0R (by omega) (by omega) hc];rfl)
theorem t0r (s:ByteArray):a0V Tryz.prog 113 [.str s] (.bool (d0k s)):=by
 refine fEx Tryz.func113 ?_;repeat' ((conv=>whnf);first|refine a0a ?_|(apply bRx<;>intro h<;>try (exfalso;(try dsimp only at h);omega)))
 all_goals (conv=>whnf)
 .exact a0d (by rw [d0T (by omega)];rfl)
 .refine a0o (fun k:Nat=>⟨[(0,.str s),(8,.int .i64 s.size),(9,.int .i64 k)],[],1⟩) (fun k=>k<=s.size/\e0A s k=true) (fun k=>s.size-k) 0 [0] [] wHx ⟨by omega,rfl⟩ ?_;rintro k ⟨hk,hc⟩;repeat' ((conv=>whnf);first|refine a0a ?_|(apply bRx<;>intro h<;>try (exfalso;(try dsimp only at h);omega)))
  all_goals (conv=>whnf)
  .exact a0d (by rw [b0m (k:=k) (by omega) (by omega)];rfl)
  .exact a0d (by rw [b0m (k:=k) (by omega) (by omega)];rfl)
  .exact ⟨k+1,[0],[],⟨by omega,b0Z hc (by omega) (by omega)⟩,by omega,⟨rfl,⟨rfl,rfl,congrArg (fun z=>some (SV.int .i64 z)) (a0i (by omega)),trivial⟩,trivial⟩⟩
  .have e:k=s.size:=by omega
   subst e;refine a0d ?_;have:d0k s=true:=by unfold d0k;rw [hc];simp;omega
   rw [this];rfl
end
section
attribute [local irreducible] a0q a0r a0j a0R
set_option maxHeartbeats 2000000 in
theorem f0C (a:Au):a0V Tryz.prog 79 [a.s] (.int .i64 (b0p a)):=by
 refine fEx Tryz.func79 ?_;repeat' ((conv=>whnf);first|refine cPx (v0z _) ?_|refine cPx (t0r _) ?_|refine cPx (p0U _) ?_|refine cPx (h0N a) ?_|refine cPx (i0o a) ?_|refine a0a ?_|(apply bRx<;>intro h<;>try (exfalso;(try dsimp only at h);omega)))
 all_goals (conv=>whnf)
 all_goals refine a0d ?_
 all_goals simp only [c0d,cv,SV.int.injEq,true_and]
 all_goals (try simp only [g0Q,decide_eq_true_eq,decide_eq_false_iff_not] at*)
 all_goals (try simp [seq] at*)
 all_goals (unfold b0p;(repeat' split)<;>first|rfl|(exfalso;omega)|(exfalso;simp_all;done))
theorem e0n (a:Au):a0V Tryz.prog 209 [a.s] (.int .i64 (c0l a)):=by
 refine fEx Tryz.func209 ?_;repeat' ((conv=>whnf);first|refine cPx (f0C a) ?_|refine a0a ?_|(apply bRx<;>intro h<;>try (exfalso;(try dsimp only at h);omega)))
 all_goals (conv=>whnf)
 all_goals refine a0d ?_
 all_goals simp [c0d,cv,c0l, *]
theorem c0m (id cur:ByteArray) (app rev cle exp st att unt pa:Int):a0V Tryz.prog 116 [.agg [.str id,.str cur,.int .i64 app,.int .i64 rev,.int .i64 cle,.int .i64 exp,.int .i64 st,.int .i64 att,.int .i64 unt,.int .i64 pa]]
  (.agg [.str id,.str cur,.int .i64 app,.int .i64 rev,.int .i64 cle,.int .i64 exp,.int .i64 (b0i ⟨id,cur,app,rev,cle,exp,st,att,unt,pa⟩),.int .i64 att,.int .i64 unt,.int .i64 pa]):=i0o ⟨id,cur,app,rev,cle,exp,st,att,unt,pa⟩
theorem e0o (id cur:ByteArray) (app rev cle exp st att unt pa:Int):a0V Tryz.prog 115 [.agg [.str id,.str cur,.int .i64 app,.int .i64 rev,.int .i64 cle,.int .i64 exp,.int .i64 st,.int .i64 att,.int .i64 unt,.int .i64 pa]] (.int .i64 (a0p ⟨id,cur,app,rev,cle,exp,st,att,unt,pa⟩)):=h0N ⟨id,cur,app,rev,cle,exp,st,att,unt,pa⟩
theorem p0V (id cur:ByteArray) (app rev cle exp st att unt pa:Int):a0V Tryz.prog 79 [.agg [.str id,.str cur,.int .i64 app,.int .i64 rev,.int .i64 cle,.int .i64 exp,.int .i64 st,.int .i64 att,.int .i64 unt,.int .i64 pa]] (.int .i64 (b0p ⟨id,cur,app,rev,cle,exp,st,att,unt,pa⟩)):=f0C ⟨id,cur,app,rev,cle,exp,st,att,unt,pa⟩
theorem y0K (id cur:ByteArray) (n at_ un:Int):a0V Tryz.prog 203 [.str id,.str cur,.int .i64 n,.int .i64 at_,.int .i64 un] (t2 (v0s id cur n at_ un)):=by
 refine fEx Tryz.func203 ?_;repeat' ((conv=>whnf);first|refine cPx (p0V _ _ _ _ _ _ _ _ _ _) ?_|refine cPx (c0m _ _ _ _ _ _ _ _ _ _) ?_|refine a0a ?_|(apply bRx<;>intro h<;>try (exfalso;(try dsimp only at h);omega)))
 all_goals (conv=>whnf)
 all_goals refine a0d ?_
 all_goals simp only [c0d,cv] at*
 all_goals
  have e:=v0t id cur n at_ un;rw [e.1] at h;unfold v0s
 .rw [e.1];simp [h,Au.zero]
 .simp [h,e.2 h]
theorem t0s (a:Au) (n u:Int):a0V Tryz.prog 206 [a.s,.int .i64 n,.int .i64 u] (t2 (d0r a n u)):=by
 refine fEx Tryz.func206 ?_;repeat' ((conv=>whnf);first|refine cPx (e0n a) ?_|refine cPx (e0o _ _ _ _ _ _ _ _ _ _) ?_|refine cPx (c0m _ _ _ _ _ _ _ _ _ _) ?_|refine a0a ?_|(apply bRx<;>intro h<;>try (exfalso;(try dsimp only at h);omega)))
 all_goals (conv=>whnf)
 all_goals refine a0d ?_
 all_goals simp only [c0d,cv,Au.eta] at*
 .simp [d0r,Au.zero, *]
 all_goals
  obtain ⟨f,hs,hp,ho,hc,hx⟩:=b0q (by assumption);have f1:=f.app;have f2:=f.rev;have f3:=f.cle;have f4:=f.exp;have f5:=f.funds;have ew:IntKind.i64.wrap (999999999999-a.app)=999999999999-a.app:=a0m (by omega) (by omega);unfold d0r
 .rw [if_neg (by simp [*]),if_pos (by omega)];simp [Au.zero]
 .rw [if_neg (by simp [*]),if_pos (by omega)];simp [Au.zero]
 .rw [if_neg (by simp [*]),if_neg (by omega),if_pos (by omega)];simp [Au.zero]
 .rw [if_neg (by simp [*]),if_neg (by omega),if_pos (by omega)];simp [Au.zero]
 .rw [if_neg (by simp [*]),if_neg (by omega),if_neg (by omega)];have e1:IntKind.i64.wrap (a.app+n)=a.app+n:=a0m (by omega) (by omega);rw [e1];have e2:b0i ⟨a.id,a.cur,a.app+n,a.rev,a.cle,a.exp,a.st,a.att,u,a.pa⟩=1:=by
   unfold b0i;rw [e0T _ (by simp;omega) (by simp;omega) (by simp;omega) (by simp;omega) (by simp;omega) (by simp;omega) (by simp;omega) (by simp;omega)];simp;omega
  rw [e2];simp [hs]
theorem o0m (a:Au) (n:Int):a0V Tryz.prog 207 [a.s,.int .i64 n] (t3 (b0g a n)):=by
 refine fEx Tryz.func207 ?_;repeat' ((conv=>whnf);first|refine cPx (e0n a) ?_|refine cPx (e0o _ _ _ _ _ _ _ _ _ _) ?_|refine cPx (c0m _ _ _ _ _ _ _ _ _ _) ?_|refine a0a ?_|(apply bRx<;>intro h<;>try (exfalso;(try dsimp only at h);omega)))
 all_goals (conv=>whnf)
 all_goals refine a0d ?_
 all_goals simp only [c0d,cv,Au.eta] at*
 .simp [b0g,Au.zero, *]
 all_goals
  obtain ⟨f,hs,hp,ho,hc,hx⟩:=b0q (by assumption);have f1:=f.app;have f2:=f.rev;have f3:=f.cle;have f4:=f.exp;have f5:=f.funds;have f6:=f.pa;unfold b0g
 .rw [if_neg (by simp [*]),if_pos (by omega)];simp [Au.zero]
 .rw [if_neg (by simp [*]),if_pos (by omega)];simp [Au.zero]
 .rw [if_neg (by simp [*]),if_neg (by omega)];have e1:IntKind.i64.wrap (a.rev+a0p a)=a.rev+a0p a:=a0m (by omega) (by omega);rw [e1];simp [h]
 .rw [if_neg (by simp [*]),if_neg (by omega)];have e1:IntKind.i64.wrap (a.rev+n)=a.rev+n:=a0m (by omega) (by omega);rw [e1];simp [h]
theorem t0t (a:Au) (n:Int) (b:Bool):a0V Tryz.prog 233 [a.s,.int .i64 n,.bool b] (t4 (e0U a n b)):=by
 refine fEx Tryz.func233 ?_;repeat' ((conv=>whnf);first|refine cPx (e0n a) ?_|refine cPx (e0o _ _ _ _ _ _ _ _ _ _) ?_|refine cPx (c0m _ _ _ _ _ _ _ _ _ _) ?_|refine a0a ?_|(apply bRx<;>intro h<;>try (exfalso;(try dsimp only at h);omega)))
 all_goals (conv=>whnf)
 all_goals refine a0d ?_
 all_goals simp only [c0d,cv,Au.eta] at*
 .simp [e0U,Au.zero, *]
 all_goals
  obtain ⟨f,hs,hp,ho,hc,hx⟩:=b0q (by assumption);have f1:=f.app;have f2:=f.rev;have f3:=f.cle;have f4:=f.exp;have f5:=f.funds;have f6:=f.pa;unfold e0U
 .rw [if_neg (by simp [*]),if_pos (by omega)];simp [Au.zero]
 .rw [if_neg (by simp [*]),if_pos (by omega)];simp [Au.zero]
 .rw [if_neg (by simp [*]),if_neg (by omega),if_pos (by omega)];simp [Au.zero]
 .rw [if_neg (by simp [*]),if_neg (by omega),if_neg (by omega)];have hm:0<min n (a0p a)/\min n (a0p a)<=a0p a:=by omega
  have e1:IntKind.i64.wrap (a.cle+min n (a0p a))=a.cle+min n (a0p a):=a0m (by omega) (by omega);have e2:IntKind.i64.wrap (a.pa+1)=a.pa+1:=a0m (by omega) (by omega);rw [e1,e2];have e3:a0p ⟨a.id,a.cur,a.app,a.rev,a.cle+min n (a0p a),a.exp,a.st,a.att,a.unt,a.pa+1⟩=a0p a-min n (a0p a):=by
   rw [e0T _ (by simp;omega) (by simp;omega) (by simp;omega) (by simp;omega) (by simp;omega) (by simp;omega) (by simp;omega) (by simp;omega)];simp only;omega
  rw [e3];have e4:IntKind.i64.wrap (a.rev+(a0p a-min n (a0p a)))=a.rev+(a0p a-min n (a0p a)):=a0m (by omega) (by omega);rw [e4];simp [h]
 .rw [if_neg (by simp [*]),if_neg (by omega),if_neg (by omega)];have hm:0<min n (a0p a)/\min n (a0p a)<=a0p a:=by omega
  have e1:IntKind.i64.wrap (a.cle+min n (a0p a))=a.cle+min n (a0p a):=a0m (by omega) (by omega);have e2:IntKind.i64.wrap (a.pa+1)=a.pa+1:=a0m (by omega) (by omega);rw [e1,e2];simp [h]
theorem p0W (a:Au) (n:Int):a0V Tryz.prog 208 [a.s,.int .i64 n] (t3 (b0M a n)):=by
 refine fEx Tryz.func208 ?_;repeat' ((conv=>whnf);first|refine cPx (e0n a) ?_|refine cPx (e0o _ _ _ _ _ _ _ _ _ _) ?_|refine cPx (c0m _ _ _ _ _ _ _ _ _ _) ?_|refine a0a ?_|(apply bRx<;>intro h<;>try (exfalso;(try dsimp only at h);omega)))
 all_goals (conv=>whnf)
 all_goals refine a0d ?_
 all_goals simp only [c0d,cv,Au.eta] at*
 .simp [b0M,Au.zero, *]
 all_goals
  obtain ⟨f,hs,hp,ho,hc,hx⟩:=b0q (by assumption);have f1:=f.app;have f2:=f.rev;have f3:=f.cle;have f4:=f.exp;have f5:=f.funds;have f6:=f.pa;unfold b0M
 .rw [if_neg (by simp [*]),if_pos (by omega)];simp [Au.zero]
 .rw [if_neg (by simp [*]),if_neg (by omega)];have e1:IntKind.i64.wrap (a.exp+a0p a)=a.exp+a0p a:=a0m (by omega) (by omega);rw [e1]
end
section
attribute [local irreducible] a0q a0r a0j a0R
theorem m0L (s:ByteArray):a0V Tryz.prog 64 [.str s] (.bool (auI s)):=by
 by_cases h:s.size<1\/16<s.size
 .rw [m0J h];refine fEx Tryz.func64 ?_;repeat' ((conv=>whnf);first|refine a0a ?_|(apply bRx<;>intro h<;>try (exfalso;(try dsimp only at h);omega)))
  all_goals (conv=>whnf)
  all_goals first
   |exact a0d rfl
   |(exfalso;omega)
 refine fEx Tryz.func64 ?_;repeat' ((conv=>whnf);first|refine a0a ?_|(apply bRx<;>intro h<;>try (exfalso;(try dsimp only at h);omega)))
 all_goals (conv=>whnf)
 all_goals first
  |(exfalso;omega)
  |skip
 refine a0o (fun k:Nat=>⟨[(0,.str s),(3,.int .i64 k)],[],1⟩) (fun k=>k<=s.size/\d1K s k) (fun k=>s.size-k) 0 [0] [] wHx ⟨by omega,fun i hi=>by omega⟩ ?_;rintro k ⟨hk,hc⟩;repeat' ((conv=>whnf);first|refine a0a ?_|(apply bRx<;>intro h<;>try (exfalso;(try dsimp only at h);omega)))
 all_goals (conv=>whnf)
 all_goals first
  |exact a0d (by rw [v0q (k:=k) (by omega) (by omega)];rfl)
  |exact ⟨k+1,[0],[],⟨by omega,j0O hc (by omega)⟩,by omega,⟨rfl,⟨rfl,congrArg (fun z=>some (SV.int .i64 z)) (a0i (by omega)),trivial⟩,trivial⟩⟩
  |skip
 have e:k=s.size:=by omega
 subst e;exact a0d (by rw [p0R (by omega) (by omega) hc];rfl)
theorem j0Q (s:ByteArray):a0V Tryz.prog 23 [.str s] (.bool (d0k s)):=by
 by_cases h0:s.size=3
 case neg=>
  rw [d0T h0];refine fEx Tryz.func23 ?_;repeat' ((conv=>whnf);first|refine a0a ?_|(apply bRx<;>intro h<;>try (exfalso;(try dsimp only at h);omega)))
  all_goals (conv=>whnf)
  all_goals first
   |(exfalso;omega)
   |exact a0d rfl
 by_cases h1:(65<=a0e s 0/\a0e s 0<=90)/\(65<=a0e s 1/\a0e s 1<=90)
 case neg=>
  have e:d0k s=false:=by
   by_cases q:65<=a0e s 0/\a0e s 0<=90
   .exact b0m (k:=1) (by omega) (by show a0e s 1<65\/90<a0e s 1;omega)
   .exact b0m (k:=0) (by omega) (by show a0e s 0<65\/90<a0e s 0;omega)
  rw [e];refine fEx Tryz.func23 ?_;repeat' ((conv=>whnf);first|refine a0a ?_|(apply bRx<;>intro h<;>try (exfalso;(try dsimp only at h);omega)))
  all_goals (conv=>whnf)
  all_goals first
   |(exfalso;omega)
   |exact a0d rfl
 have e:d0k s=decide (65<=a0e s 2/\a0e s 2<=90):=by
  by_cases q:65<=a0e s 2/\a0e s 2<=90
  .rw [decide_eq_true q];unfold d0k;have c0:e0A s 0=true:=rfl;have c1:=b0Z (k:=0) c0 (by show¬a0e s 0<65;omega) (by show¬90<a0e s 0;omega);have c2:=b0Z (k:=1) c1 (by show¬a0e s 1<65;omega) (by show¬90<a0e s 1;omega);have c3:=b0Z (k:=2) c2 (by show¬a0e s 2<65;omega) (by show¬90<a0e s 2;omega);rw [h0,c3];rfl
  .rw [decide_eq_false q];exact b0m (k:=2) (by omega) (by show a0e s 2<65\/90<a0e s 2;omega)
 rw [e];refine fEx Tryz.func23 ?_;repeat' ((conv=>whnf);first|refine a0a ?_|(apply bRx<;>intro h<;>try (exfalso;(try dsimp only at h);omega)))
 all_goals (conv=>whnf)
 all_goals first
  |(exfalso;omega)
  |(refine a0d ?_;rw [show decide (65<=a0e s 2/\a0e s 2<=90)=decide (a0e s 2<=90) from decide_eq_decide.2 (by omega)];rfl)
  |(refine a0d ?_;rw [decide_eq_false (by omega)];rfl)
  |trace_state
theorem d0U (n a b:Int):a0V Tryz.prog 117 [.int .i64 n,.int .i64 a,.int .i64 b] (.bool (decide (a<=n/\n<=b))):=by
 by_cases h:a<=n
 .by_cases h2:n<=b
  .rw [decide_eq_true (show a<=n/\n<=b from ⟨h,h2⟩)];refine fEx Tryz.func117 ?_;repeat' ((conv=>whnf);first|refine a0a ?_|(apply bRx<;>intro h<;>try (exfalso;(try dsimp only at h);omega)))
   all_goals (conv=>whnf)
   all_goals first
    |(exfalso;omega)
    |(refine a0d ?_;rw [decide_eq_true h2];rfl)
  .rw [decide_eq_false (fun q=>h2 q.2)];refine fEx Tryz.func117 ?_;repeat' ((conv=>whnf);first|refine a0a ?_|(apply bRx<;>intro h<;>try (exfalso;(try dsimp only at h);omega)))
   all_goals (conv=>whnf)
   all_goals first
    |(exfalso;omega)
    |(refine a0d ?_;rw [decide_eq_false h2];rfl)
 .rw [decide_eq_false (fun q=>h q.1)];refine fEx Tryz.func117 ?_;repeat' ((conv=>whnf);first|refine a0a ?_|(apply bRx<;>intro h<;>try (exfalso;(try dsimp only at h);omega)))
  all_goals (conv=>whnf)
  all_goals first
   |(exfalso;omega)
   |exact a0d rfl
theorem o0n (a:Au):a0V Tryz.prog 118 [a.s] (.int .i64 (b0i a)):=by
 refine fEx Tryz.func118 ?_;repeat' ((conv=>whnf);first|refine a0a ?_|(apply bRx<;>intro h<;>try (exfalso;(try dsimp only at h);omega)))
 all_goals (conv=>whnf)
 all_goals refine a0d ?_
 all_goals ((try simp only [decide_eq_true_eq,decide_eq_false_iff_not] at*);simp [c0d,cv,b0i,a0p, *])
set_option maxHeartbeats 2000000 in
theorem g0S (a:Au):a0V Tryz.prog 83 [a.s] (.int .i64 (b0p a)):=by
 refine fEx Tryz.func83 ?_;repeat' ((conv=>whnf);first|refine cPx (m0L _) ?_|refine cPx (j0Q _) ?_|refine cPx (d0U _ _ _) ?_|refine cPx (o0n a) ?_|refine a0a ?_|(apply bRx<;>intro h<;>try (exfalso;(try dsimp only at h);omega)))
 all_goals (conv=>whnf)
 all_goals refine a0d ?_
 all_goals simp only [c0d,cv,SV.int.injEq,true_and]
 all_goals (try simp at*)
 all_goals first
  |(have e1:=e0T a (by omega) (by omega) (by omega) (by omega) (by omega) (by omega) (by omega) (by omega)
    have e2:IntKind.i64.wrap (IntKind.i64.wrap (a.rev+a.cle)+a.exp)=a.rev+a.cle+a.exp:=by rw [a0m (n:=a.rev+a.cle) (by omega) (by omega),a0m (by omega) (by omega)]
    unfold b0p;(repeat' split)<;>first|rfl|(exfalso;omega)|(exfalso;simp_all;done))
  |(unfold b0p;(repeat' split)<;>first|rfl|(exfalso;omega)|(exfalso;simp_all;done))
theorem y0L (a:Au):a0V Tryz.prog 133 [a.s] (.int .i64 (v0r a)):=by
 refine fEx Tryz.func133 ?_;repeat' ((conv=>whnf);first|refine cPx (g0S a) ?_|refine a0a ?_|(apply bRx<;>intro h<;>try (exfalso;(try dsimp only at h);omega)))
 all_goals (conv=>whnf)
 all_goals refine a0d ?_
 all_goals simp [c0d,cv,v0r,a0p, *]
theorem f0D (a:Au):a0V Tryz.prog 132 [a.s] (.int .i64 (c0l a)):=by
 refine fEx Tryz.func132 ?_;repeat' ((conv=>whnf);first|refine cPx (g0S a) ?_|refine a0a ?_|(apply bRx<;>intro h<;>try (exfalso;(try dsimp only at h);omega)))
 all_goals (conv=>whnf)
 all_goals refine a0d ?_
 all_goals simp [c0d,cv,c0l, *]
theorem t0u (id cur:ByteArray) (app rev cle exp st att unt pa:Int):a0V Tryz.prog 83 [.agg [.str id,.str cur,.int .i64 app,.int .i64 rev,.int .i64 cle,.int .i64 exp,.int .i64 st,.int .i64 att,.int .i64 unt,.int .i64 pa]] (.int .i64 (b0p ⟨id,cur,app,rev,cle,exp,st,att,unt,pa⟩)):=g0S ⟨id,cur,app,rev,cle,exp,st,att,unt,pa⟩
theorem f0E (id cur:ByteArray) (app rev cle exp st att unt pa:Int):a0V Tryz.prog 118 [.agg [.str id,.str cur,.int .i64 app,.int .i64 rev,.int .i64 cle,.int .i64 exp,.int .i64 st,.int .i64 att,.int .i64 unt,.int .i64 pa]] (.int .i64 (b0i ⟨id,cur,app,rev,cle,exp,st,att,unt,pa⟩)):=o0n ⟨id,cur,app,rev,cle,exp,st,att,unt,pa⟩
theorem g0T (id cur:ByteArray) (app rev cle exp st att unt pa:Int):a0V Tryz.prog 133 [.agg [.str id,.str cur,.int .i64 app,.int .i64 rev,.int .i64 cle,.int .i64 exp,.int .i64 st,.int .i64 att,.int .i64 unt,.int .i64 pa]] (.int .i64 (v0r ⟨id,cur,app,rev,cle,exp,st,att,unt,pa⟩)):=y0L ⟨id,cur,app,rev,cle,exp,st,att,unt,pa⟩
theorem c1c (id cur:ByteArray) (n at_ un:Int):a0V Tryz.prog 67 [.str id,.str cur,.int .i64 n,.int .i64 at_,.int .i64 un] (t2 (v0s id cur n at_ un)):=by
 refine fEx Tryz.func67 ?_;repeat' ((conv=>whnf);first|refine cPx (t0u _ _ _ _ _ _ _ _ _ _) ?_|refine a0a ?_|(apply bRx<;>intro h<;>try (exfalso;(try dsimp only at h);omega)))
 all_goals (conv=>whnf)
 all_goals refine a0d ?_
 all_goals simp only [c0d,cv] at*
 all_goals (unfold v0s;simp [*,Au.zero])
theorem v0A (a:Au) (n u:Int):a0V Tryz.prog 106 [a.s,.int .i64 n,.int .i64 u] (t2 (d0r a n u)):=by
 refine fEx Tryz.func106 ?_;repeat' ((conv=>whnf);first|refine cPx (f0D a) ?_|refine cPx (g0T _ _ _ _ _ _ _ _ _ _) ?_|refine cPx (f0E _ _ _ _ _ _ _ _ _ _) ?_|refine cPx (d0U _ _ _) ?_|refine a0a ?_|(apply bRx<;>intro h<;>try (exfalso;(try dsimp only at h);omega)))
 all_goals (conv=>whnf)
 all_goals refine a0d ?_
 all_goals simp only [c0d,cv] at*
 .simp [d0r,Au.zero, *]
 all_goals
  obtain ⟨f,hs,hp,ho,hc,hx⟩:=b0q (by assumption);have f1:=f.app;have f2:=f.rev;have f3:=f.cle;have f4:=f.exp;have f5:=f.funds;have f6:=f.pa;have ew:IntKind.i64.wrap (999999999999-a.app)=999999999999-a.app:=a0m (by omega) (by omega);unfold d0r
 .rw [if_neg (by simp [*]),if_pos (by omega)];simp [Au.zero]
 .rw [if_neg (by simp [*]),if_neg (by omega),if_pos (by omega)];simp [Au.zero]
 .rw [if_neg (by simp [*]),if_neg (by omega),if_pos (by omega)];simp [Au.zero]
 .rw [if_neg (by simp [*]),if_neg (by omega),if_neg (by omega)];have e1:IntKind.i64.wrap (a.app+n)=a.app+n:=a0m (by omega) (by omega);rw [e1]
theorem p0X (a:Au) (n:Int):a0V Tryz.prog 107 [a.s,.int .i64 n] (t3 (b0g a n)):=by
 refine fEx Tryz.func107 ?_;repeat' ((conv=>whnf);first|refine cPx (f0D a) ?_|refine cPx (g0T _ _ _ _ _ _ _ _ _ _) ?_|refine cPx (f0E _ _ _ _ _ _ _ _ _ _) ?_|refine cPx (d0U _ _ _) ?_|refine a0a ?_|(apply bRx<;>intro h<;>try (exfalso;(try dsimp only at h);omega)))
 all_goals (conv=>whnf)
 all_goals refine a0d ?_
 all_goals simp only [c0d,cv,Au.eta] at*
 .simp [b0g,Au.zero, *]
 all_goals
  obtain ⟨f,hs,hp,ho,hc,hx⟩:=b0q (by assumption);have f1:=f.app;have f2:=f.rev;have f3:=f.cle;have f4:=f.exp;have f5:=f.funds;have f6:=f.pa;try rw [ho]
  unfold b0g
 .rw [if_neg (by simp [*]),if_pos (by omega)];simp [Au.zero]
 .rw [if_neg (by simp [*]),if_neg (by omega)];have e1:IntKind.i64.wrap (a.rev+a0p a)=a.rev+a0p a:=a0m (by omega) (by omega);rw [e1];simp [h]
 .rw [if_neg (by simp [*]),if_neg (by omega)];have e1:IntKind.i64.wrap (a.rev+n)=a.rev+n:=a0m (by omega) (by omega);rw [e1];simp [h]
theorem v0B (a:Au) (n:Int) (b:Bool):a0V Tryz.prog 96 [a.s,.int .i64 n,.bool b] (t4 (e0U a n b)):=by
 refine fEx Tryz.func96 ?_;repeat' ((conv=>whnf);first|refine cPx (f0D a) ?_|refine cPx (g0T _ _ _ _ _ _ _ _ _ _) ?_|refine cPx (f0E _ _ _ _ _ _ _ _ _ _) ?_|refine cPx (d0U _ _ _) ?_|refine a0a ?_|(apply bRx<;>intro h<;>try (exfalso;(try dsimp only at h);omega)))
 all_goals (conv=>whnf)
 all_goals refine a0d ?_
 all_goals simp only [c0d,cv,Au.eta] at*
 .simp [e0U,Au.zero, *]
 all_goals
  obtain ⟨f,hs,hp,ho,hc,hx⟩:=b0q (by assumption);have f1:=f.app;have f2:=f.rev;have f3:=f.cle;have f4:=f.exp;have f5:=f.funds;have f6:=f.pa;try rw [ho]
  unfold e0U
 .rw [if_neg (by simp [*]),if_pos (by omega)];simp [Au.zero]
 .rw [if_neg (by simp [*]),if_neg (by omega),if_pos (by omega)];simp [Au.zero]
 .rw [if_neg (by simp [*]),if_neg (by omega),if_neg (by omega)];have hm:0<min n (a0p a)/\min n (a0p a)<=a0p a:=by omega
  have e1:IntKind.i64.wrap (a.cle+min n (a0p a))=a.cle+min n (a0p a):=a0m (by omega) (by omega);have e2:IntKind.i64.wrap (a.pa+1)=a.pa+1:=a0m (by omega) (by omega);have e3:IntKind.i64.wrap (a0p a-min n (a0p a))=a0p a-min n (a0p a):=a0m (by omega) (by omega);have e4:IntKind.i64.wrap (a.rev+(a0p a-min n (a0p a)))=a.rev+(a0p a-min n (a0p a)):=a0m (by omega) (by omega);rw [e1,e2,e3,e4];simp [h]
 .rw [if_neg (by simp [*]),if_neg (by omega),if_neg (by omega)];have hm:0<min n (a0p a)/\min n (a0p a)<=a0p a:=by omega
  have e1:IntKind.i64.wrap (a.cle+min n (a0p a))=a.cle+min n (a0p a):=a0m (by omega) (by omega);have e2:IntKind.i64.wrap (a.pa+1)=a.pa+1:=a0m (by omega) (by omega);have e3:IntKind.i64.wrap (a.rev+0)=a.rev:=by rw [a0m (by omega) (by omega)];omega
  rw [e1,e2,e3];simp [h]
theorem t0v (a:Au) (n:Int):a0V Tryz.prog 108 [a.s,.int .i64 n] (t3 (b0M a n)):=by
 refine fEx Tryz.func108 ?_;repeat' ((conv=>whnf);first|refine cPx (f0D a) ?_|refine cPx (g0T _ _ _ _ _ _ _ _ _ _) ?_|refine cPx (f0E _ _ _ _ _ _ _ _ _ _) ?_|refine cPx (d0U _ _ _) ?_|refine a0a ?_|(apply bRx<;>intro h<;>try (exfalso;(try dsimp only at h);omega)))
 all_goals (conv=>whnf)
 all_goals refine a0d ?_
 all_goals simp only [c0d,cv,Au.eta] at*
 .simp [b0M,Au.zero, *]
 all_goals
  obtain ⟨f,hs,hp,ho,hc,hx⟩:=b0q (by assumption);have f1:=f.app;have f2:=f.rev;have f3:=f.cle;have f4:=f.exp;have f5:=f.funds;have f6:=f.pa;try rw [ho]
  unfold b0M
 .rw [if_neg (by simp [*]),if_pos (by omega)];simp [Au.zero]
 .rw [if_neg (by simp [*]),if_neg (by omega)];have e1:IntKind.i64.wrap (a.exp+a0p a)=a.exp+a0p a:=a0m (by omega) (by omega);rw [e1]
end
section
attribute [local irreducible] a0q a0r a0j a0R
theorem y0M (k:Int) (hk:¬(k<1\/8<k)):a0V Tryz.prog 62 [.int .i64 k] (.tup [.bool (f0B k),.bool (v0w k),.bool (f0B k)]):=by
 rcases e0l hk with rfl|rfl|rfl|rfl|rfl|rfl|rfl|rfl
 all_goals
  refine fEx Tryz.func62 ?_;repeat' ((conv=>whnf);first|refine a0a ?_|(apply bRx<;>intro h<;>try (exfalso;(try dsimp only at h);omega)))
  all_goals (conv=>whnf)
  all_goals exact a0d rfl
theorem g0U (u ok:Bool) (s:ByteArray):a0V Tryz.prog 63 [.bool u,.bool ok,.str s] (.bool (match u with|true=>ok|false=>seq s ⟨#[]⟩)):=by
 cases u<;>cases ok;all_goals
  refine fEx Tryz.func63 ?_;repeat' ((conv=>whnf);first|refine a0a ?_|(apply bRx<;>intro h<;>try (exfalso;(try dsimp only at h);omega)))
  all_goals (conv=>whnf)
  all_goals exact a0d rfl
theorem p0Y (k t:Int) (id au is ac:ByteArray) (am fe:Int) (fi:Bool) (hk:¬(k<1\/8<k)):a0V Tryz.prog 66 [.agg [.int .i64 k,.int .i64 t,.str id,.str au,.str is,.str ac,.int .i64 am,.int .i64 fe,.bool fi]] (.bool (pmB k am)):=by
 rcases e0l hk with rfl|rfl|rfl|rfl|rfl|rfl|rfl|rfl
 all_goals
  unfold pmB;simp only [Int.reduceEq,if_true,if_false];refine fEx Tryz.func66 ?_;repeat' ((conv=>whnf);first|refine a0a ?_|(apply bRx<;>intro h<;>try (exfalso;(try dsimp only at h);omega)))
  all_goals (conv=>whnf)
  all_goals refine a0d ?_
  all_goals
   show SV.bool _=SV.bool _;first
    |rfl
    |congr 1
   all_goals first
    |exact decide_eq_decide.2 (by omega)
    |exact (decide_eq_false (by omega)).symm
    |(rw [<-decide_not];exact decide_eq_decide.2 (by omega))
    |trace_state
set_option maxHeartbeats 4000000 in
theorem t0w (k t:Int) (id au is ac:ByteArray) (am fe:Int) (fi:Bool):a0V Tryz.prog 31 [.agg [.int .i64 k,.int .i64 t,.str id,.str au,.str is,.str ac,.int .i64 am,.int .i64 fe,.bool fi]] (.int .i64 (ckE ⟨k,t,id,au,is,ac,am,fe,fi⟩)):=by
 by_cases h1:k<1\/8<k
 .have e:ckE ⟨k,t,id,au,is,ac,am,fe,fi⟩=4:=by unfold ckE;rw [if_pos h1]
  rw [e];refine fEx Tryz.func31 ?_;repeat' ((conv=>whnf);first|refine a0a ?_|(apply bRx<;>intro h<;>try (exfalso;(try dsimp only at h);omega)))
  all_goals (conv=>whnf)
  all_goals first
   |exact a0d rfl
   |(exfalso;omega)
 by_cases h2:t<0\/1099511627776<t
 .have e:ckE ⟨k,t,id,au,is,ac,am,fe,fi⟩=14:=by unfold ckE;rw [if_neg h1,if_pos h2]
  rw [e];refine fEx Tryz.func31 ?_;repeat' ((conv=>whnf);first|refine a0a ?_|(apply bRx<;>intro h<;>try (exfalso;(try dsimp only at h);omega)))
  all_goals (conv=>whnf)
  all_goals first
   |exact a0d rfl
   |(exfalso;omega)
 have c0:=y0M k h1;have i1:=m0L id;have i2:=m0L au;have i3:=l0C is;have i4:=l0C ac;have c1:=g0U (f0B k) (auI id) id;have c2:=g0U (v0w k) (auI au) au;have c3:=g0U (f0B k) (nmB is) is;have c4:=g0U (f0B k) (nmB ac) ac;have c5:=p0Y k t id au is ac am fe fi h1;have e:ckE ⟨k,t,id,au,is,ac,am,fe,fi⟩=if (fiB id (f0B k) auI&&(fiB au (v0w k) auI&&(fiB is (f0B k) nmB&&fiB ac (f0B k) nmB)))=false then 5 else if pmB k am=false then 4 else if fe<0\/(if k=4\/k=5 then am else 0)<fe then 4 else if fi=true/\k≠4 then 2 else if f0B k=true/\is=ac then 7 else 0:=by
  unfold ckE bkN;rw [if_neg h1,if_neg h2]
 have hp:pmB k am=true->k=4\/k=5->1<=am:=by
  intro hp hk;unfold pmB at hp;rcases hk with rfl|rfl<;>simp at hp<;>omega
 change a0V _ _ _ (.bool (fiB id (f0B k) auI)) at c1;change a0V _ _ _ (.bool (fiB au (v0w k) auI)) at c2;change a0V _ _ _ (.bool (fiB is (f0B k) nmB)) at c3;change a0V _ _ _ (.bool (fiB ac (f0B k) nmB)) at c4;generalize ckE ⟨k,t,id,au,is,ac,am,fe,fi⟩=E at*;generalize fiB id (f0B k) auI=b1 at*;generalize fiB au (v0w k) auI=b2 at*;generalize fiB is (f0B k) nmB=b3 at*;generalize fiB ac (f0B k) nmB=b4 at*;generalize pmB k am=b5 at*;generalize auI id=z1 at*;generalize auI au=z2 at*;generalize nmB is=z3 at*;generalize nmB ac=z4 at*;rcases e0l h1 with rfl|rfl|rfl|rfl|rfl|rfl|rfl|rfl
 all_goals
  simp only [Int.reduceEq,f0B,v0w,or_true,true_or,or_false,false_or,if_true,if_false,decide_true,decide_false,true_and,false_and,h1K,ne_eq,not_true_eq_false,not_false_eq_true,and_true,and_false,true_implies,false_implies] at*;refine fEx Tryz.func31 ?_;repeat' ((conv=>whnf);first|refine cPx c0 ?_|refine cPx i1 ?_|refine cPx i2 ?_|refine cPx i3 ?_|refine cPx i4 ?_|refine cPx c1 ?_|refine cPx c2 ?_|refine cPx c3 ?_|refine cPx c4 ?_|refine cPx c5 ?_|refine a0a ?_|(apply bRx<;>intro h<;>try (exfalso;(try dsimp only at h);omega)))
  all_goals (conv=>whnf)
  all_goals first
   |(exfalso;omega)
   |(refine a0d (congrArg (SV.int .i64) (a₁:=_) ?_)
     rw [e]
     (repeat' split)<;>first|rfl|(exfalso;omega)|(exfalso;simp_all;done)|(exfalso;simp_all;omega))
   |trace_state
theorem v0C (o:Bop):a0V Tryz.prog 31 [o.s] (.int .i64 (ckE o)):=t0w o.k o.t o.id o.au o.is o.ac o.am o.fe o.fi
end
end Go.Proofs.YtpkaeknigknbgaaGreatDoor
namespace Go.Sy
open Go.RowKit
theorem sidx_le (l:List ByteArray) (s:ByteArray):a0l l s<=l.length:=by
 induction l with
 |nil=>simp [a0l]
 |cons x l ih=>
  simp only [a0l,seq];by_cases h:x=s
  .rw [decide_eq_true h];simp
  .rw [decide_eq_false h];simp;exact ih
theorem sidx_lt {l:List ByteArray} {s:ByteArray}:a0l l s<l.length↔s∈l:=by
 induction l with
 |nil=>simp [a0l]
 |cons x l ih=>
  simp only [a0l,seq];by_cases h:x=s
  .rw [decide_eq_true h];simp [h]
  .rw [decide_eq_false h];have:¬s=x:=fun e=>h e.symm
   simp [this,ih]
theorem sidx_get {l:List ByteArray} {s:ByteArray} (h:a0l l s<l.length):l[a0l l s]? =some s:=by
 induction l with
 |nil=>simp [a0l] at h
 |cons x l ih=>
  simp only [a0l,seq] at h⊢;by_cases e:x=s
  .rw [decide_eq_true e];simp [e]
  .rw [decide_eq_false e] at h⊢;simp only [cond_false,y0x,i1L] at h⊢;exact ih (by omega)
theorem sidx_of_get {l:List ByteArray} (hd:l.Nodup) {i:Nat} {s:ByteArray} (h:l[i]? =some s):a0l l s=i:=by
 have hi:i<l.length:=(g1A.1 h).1;have hm:s∈l:=h1S.2 ⟨i,h⟩;have h2:=sidx_get (sidx_lt.2 hm);have h3:=sidx_lt.2 hm;obtain ⟨_,e1⟩:=g1A.1 h;obtain ⟨_,e2⟩:=g1A.1 h2;exact (i1s hd).1 (e2.trans e1.symm)
theorem e0V {l:List ByteArray} {s:ByteArray}:a0U (a0l l s) s l=if a0l l s<l.length then l else l++ [s]:=by
 unfold a0U;split
 .rename_i h;have:=sidx_get h;refine h1s fun i=> ?_
  rw [h1r];by_cases e:a0l l s=i
  .subst e;rw [if_pos rfl,if_pos h,this]
  .rw [if_neg e]
 .rfl
end Go.Sy
namespace Go.Proofs.YtpkaeknigknbgaaGreatDoor
open Go.RowKit Go.Sy
section
structure Lp where
 a:ByteArray
 n:Int
 c:ByteArray
abbrev lp0:Lp:=⟨⟨#[]⟩,0,⟨#[]⟩⟩
def poB (n:Nat) (l:List Lp):Blk:= .cols n [.sc (.strs (l.map Lp.a)),.sc (.ints .i64 (l.map Lp.n)),.sc (.strs (l.map Lp.c))]
theorem f1D (l:List Lp) (k:Nat):(l.map Lp.a).getD k ⟨#[]⟩=(l.getD k lp0).a:=by
 rw [List.getD,List.getD,v0g];cases l[k]?<;>rfl
theorem y0N (l:List Lp) (k:Nat):(l.map Lp.n).getD k 0=(l.getD k lp0).n:=by
 rw [List.getD,List.getD,v0g];cases l[k]?<;>rfl
theorem c1d (l:List Lp) (k:Nat):(l.map Lp.c).getD k ⟨#[]⟩=(l.getD k lp0).c:=by
 rw [List.getD,List.getD,v0g];cases l[k]?<;>rfl
theorem o0o {a b:ByteArray}:seq a b=true↔a=b:=by unfold seq;exact decide_eq_true_iff
abbrev lgI (R:List Lp) (a c:ByteArray):Nat:=b0Y (R.map Lp.a) (R.map Lp.c) a c
theorem i0F (x:Lp) (R:List Lp) (a c:ByteArray):lgI (x::R) a c=if x.a=a/\x.c=c then 0 else lgI R a c+1:=by
 show (bif seq x.a a&&seq x.c c then 0 else lgI R a c+1)=_;by_cases h:x.a=a/\x.c=c
 .rw [if_pos h,show (seq x.a a&&seq x.c c)=true from by rw [k0P,o0o,o0o];exact h];rfl
 .rw [if_neg h,show (seq x.a a&&seq x.c c)=false from by
   cases e:(seq x.a a&&seq x.c c) with
   |false=>rfl
   |true=>rw [k0P,o0o,o0o] at e;exact absurd e h];rfl
theorem r0M (a c:ByteArray):∀R:List Lp,lgI R a c<=R.length
 | []=>m0D _
 |x::R=>by
  have:=r0M a c R;rw [i0F,y0x];split<;>omega
def lgV (R:List Lp) (a c:ByteArray):Int:=(R.getD (lgI R a c) lp0).n
theorem p0Z (a c:ByteArray):lgV [] a c=0:=rfl
theorem e0p (x:Lp) (R:List Lp) (a c:ByteArray):lgV (x::R) a c=if x.a=a/\x.c=c then x.n else lgV R a c:=by
 unfold lgV;rw [i0F];split
 .rfl
 .rw [i1w]
def e0W (R:List Lp) (x:Lp):List Lp:=a0U (lgI R x.a x.c) ⟨x.a,lgV R x.a x.c+x.n,x.c⟩ R
theorem j0R (x:Lp):e0W [] x= [x]:=by
 unfold e0W a0U;rw [p0Z,Int.zero_add];rfl
theorem h0O (y:Lp) (R:List Lp) (x:Lp):e0W (y::R) x=if y.a=x.a/\y.c=x.c then ⟨x.a,y.n+x.n,x.c⟩::R else y::e0W R x:=by
 unfold e0W;rw [i0F,e0p];split
 .unfold a0U;rw [if_pos (by simp)];rfl
 .rw [j0w]
theorem q0a (x:Lp) (a c:ByteArray):∀R:List Lp,lgV (e0W R x) a c=lgV R a c+if x.a=a/\x.c=c then x.n else 0
 | []=>by rw [j0R,e0p,p0Z,Int.zero_add]
 |y::R=>by
  have ih:=q0a x a c R;rw [h0O,e0p];by_cases h:y.a=x.a/\y.c=x.c
  .rw [if_pos h,e0p];obtain ⟨h1,h2⟩:=h;rw [h1,h2];split
   .rfl
   .rw [i1Z]
  .rw [if_neg h,e0p];by_cases h2:y.a=a/\y.c=c
   .rw [if_pos h2,if_pos h2];obtain ⟨e1,e2⟩:=h2;rw [if_neg (fun k=>h ⟨e1.trans k.1.symm,e2.trans k.2.symm⟩),i1Z]
   .rw [if_neg h2,if_neg h2,ih]
theorem o0p (R:List Lp) (x:Lp):(e0W R x).length=if lgI R x.a x.c<R.length then R.length else R.length+1:=c0N _ _ _
def lgD (R:List Lp):Prop:=R.Pairwise (fun x y=>¬(x.a=y.a/\x.c=y.c))
theorem o0q {x z:Lp}:∀{R:List Lp},z∈e0W R x->(z.a=x.a/\z.c=x.c)\/∃y∈R,z.a=y.a/\z.c=y.c
 | [],h=>by
   rw [j0R,y0E] at h;subst h;exact .inl ⟨rfl,rfl⟩
 |y::R,h=>by
  rw [h0O] at h;split at h
  .rcases v0e.1 h with rfl|h
   .exact .inl ⟨rfl,rfl⟩
   .exact .inr ⟨z,by simp [h],rfl,rfl⟩
  .rcases v0e.1 h with rfl|h
   .exact .inr ⟨z,by simp,rfl,rfl⟩
   .rcases o0q h with h|⟨w,hw,h⟩
    .exact .inl h
    .exact .inr ⟨w,by simp [hw],h⟩
theorem q0b {x:Lp}:∀{R:List Lp},lgD R->lgD (e0W R x)
 | [],_=>by rw [j0R];exact i1e _ _
 |y::R,h=>by
  obtain ⟨h1,h2⟩:=h1X.1 h;rw [h0O];split
  .rename_i hk;refine h1X.2 ⟨fun z hz k=>h1 z hz ⟨hk.1.trans k.1,hk.2.trans k.2⟩,h2⟩
  .rename_i hk;refine h1X.2 ⟨fun z hz k=> ?_,q0b h2⟩;rcases o0q hz with ⟨e1,e2⟩|⟨w,hw,e1,e2⟩
   .exact hk ⟨k.1.trans e1,k.2.trans e2⟩
   .exact h1 w hw ⟨k.1.trans e1,k.2.trans e2⟩
def lgS:List Lp->ByteArray->ByteArray->Int
 | [],_,_=>0
 |x::L,a,c=>(if x.a=a/\x.c=c then x.n else 0)+lgS L a c
theorem h0P (A B:List Lp) (a c:ByteArray):lgS (A++B) a c=lgS A a c+lgS B a c:=by
 induction A with
 |nil=>simp [lgS]
 |cons x A ih=>simp only [d1H,lgS,ih,Int.add_assoc]
theorem y0O {A B:List Lp} (h:A.Perm B) (a c:ByteArray):lgS A a c=lgS B a c:=by
 induction h with
 |nil=>rfl
 |cons x _ ih=>simp only [lgS,ih]
 |swap x y l=>simp only [lgS];omega
 |trans _ _ ih1 ih2=>exact ih1.trans ih2
theorem a1M {L:List Lp} {a c:ByteArray} (h:∀x∈L,¬(x.a=a/\x.c=c)):lgS L a c=0:=by
 induction L with
 |nil=>rfl
 |cons x L ih=>
  simp only [lgS];rw [if_neg (h x (by simp)),ih (fun y hy=>h y (by simp [hy]))];rfl
theorem r0N {a c:ByteArray}:∀{R:List Lp},lgD R->lgS R a c=lgV R a c
 | [],_=>rfl
 |y::R,h=>by
  obtain ⟨h1,h2⟩:=h1X.1 h;rw [e0p];simp only [lgS];by_cases hk:y.a=a/\y.c=c
  .rw [if_pos hk,if_pos hk,a1M (fun x hx k=>h1 x hx ⟨hk.1.trans k.1.symm,hk.2.trans k.2.symm⟩),i1Z]
  .rw [if_neg hk,if_neg hk,r0N h2,Int.zero_add]
theorem q0c {L:List Lp} {k:Nat} (hk:k<L.length):L.take (k+1)=L.take k++ [L.getD k lp0]:=by
 rw [i1a hk,List.getD,j0I hk];rfl
def chR (L:List Lp):Nat->List Lp
 |0=> []
 |k+1=>e0W (chR L k) (L.getD k lp0)
theorem g0V (L:List Lp):∀k,lgD (chR L k)
 |0=>List.Pairwise.nil
 |k+1=>q0b (g0V L k)
theorem v0D (L:List Lp):∀k,(chR L k).length<=k
 |0=>m0D _
 |k+1=>by
  have:=v0D L k;simp only [chR];rw [o0p];split<;>omega
theorem g0i {L:List Lp} (a c:ByteArray):∀k,k<=L.length->lgV (chR L k) a c=lgS (L.take k) a c
 |0,_=>by simp [chR,lgS,p0Z]
 |k+1,h=>by
  simp only [chR];rw [q0a,g0i a c k (by omega),q0c (by omega),h0P];simp [lgS]
def vsR (B C:List Lp):List Nat->List Lp
 | []=>B
 |i::sn=>e0W (vsR B C sn) (C.getD i lp0)
theorem r0O {B C:List Lp} (h:lgD B):∀sn,lgD (vsR B C sn)
 | []=>h
 |i::sn=>q0b (r0O h sn)
theorem v0E (B C:List Lp):∀sn,(vsR B C sn).length<=B.length+sn.length
 | []=>m0D _
 |i::sn=>by
  have:=v0E B C sn;simp only [vsR];rw [o0p,y0x];split<;>omega
theorem q0d (B C:List Lp) (a c:ByteArray):∀sn,lgV (vsR B C sn) a c=lgV B a c+lgS (sn.map (fun i=>C.getD i lp0)) a c
 | []=>by simp [vsR,lgS]
 |i::sn=>by
  simp only [vsR,e1F,lgS];rw [q0a,q0d B C a c sn];omega
theorem c1e {B C:List Lp} (hC:lgD C) {sn:List Nat} (hd:sn.Nodup) (hl:∀i∈sn,i<C.length) (ha:∀i,i<C.length->i∈sn) (a c:ByteArray):lgV (vsR B C sn) a c=lgV B a c+lgV C a c:=by
 rw [q0d,<-r0N hC];congr 1;have hp:=(l0x hd hl ha).map (fun i=>C.getD i lp0);rw [f0R] at hp;exact y0O hp a c
theorem q0e {R:List Lp} (h:lgD R) {i:Nat} (hi:i<R.length):lgV R (R.getD i lp0).a (R.getD i lp0).c=(R.getD i lp0).n:=by
 induction R generalizing i with
 |nil=>simp at hi
 |cons y R ih=>
  obtain ⟨h1,h2⟩:=h1X.1 h;rw [e0p];cases i with
  |zero=>rw [if_pos ⟨rfl,rfl⟩];rfl
  |succ i=>
   rw [i1w];have hi':i<R.length:=by simpa using hi
   rw [if_neg (fun k=>h1 _ (by rw [List.getD,j0I hi'];exact b1P hi') k)];exact ih h2 hi'
def lgC:List Lp->ByteArray->Int
 | [],_=>0
 |x::L,c=>(if x.c=c then x.n else 0)+lgC L c
theorem t0x (A B:List Lp) (c:ByteArray):lgC (A++B) c=lgC A c+lgC B c:=by
 induction A with
 |nil=>simp [lgC]
 |cons x A ih=>simp only [d1H,lgC,ih,Int.add_assoc]
theorem e1r {L:List Lp} {c:ByteArray} (h:∀x∈L,x.c≠c):lgC L c=0:=by
 induction L with
 |nil=>rfl
 |cons x L ih=>
  simp only [lgC];rw [if_neg (h x (by simp)),ih (fun y hy=>h y (by simp [hy]))];rfl
theorem m0M {L:List Lp} {k:Nat} (hk:k<L.length) (c:ByteArray):lgC (L.take (k+1)) c=lgC (L.take k) c+if (L.getD k lp0).c=c then (L.getD k lp0).n else 0:=by
 rw [q0c hk,t0x];simp [lgC]
def h0Q (L:List Lp):Bool:=L.all (fun x=>decide (lgC L x.c=0))
theorem g0W {L:List Lp}:h0Q L=true↔∀c,lgC L c=0:=by
 unfold h0Q;rw [h1D];constructor
 .intro h c;by_cases hc:∃x∈L,x.c=c
  .obtain ⟨x,hx,rfl⟩:=hc;exact of_decide_eq_true (h x hx)
  .exact e1r fun x hx e=>hc ⟨x,hx,e⟩
 .exact fun h x _=>decide_eq_true (h _)
structure LgM (L:List Lp) (k n:Nat) (C:List ByteArray) (W:List Int):Prop where
 c:C.length=n
 w:W.length=n
 nd:C.Nodup
 all:∀c,(if a0l C c<n then W.getD (a0l C c) 0 else 0)=lgC (L.take k) c
theorem y0P (L:List Lp):LgM L 0 0 [] []:=⟨rfl,rfl,h1M,fun c=>by simp [lgC]⟩
theorem b0V {α:Type} {l:List α} {n:Nat} (h:l.length=n) (x:α):a0U n x l=l++ [x]:=by unfold a0U;rw [if_neg (by omega)]
theorem g0X {α:Type} {l:List α} {i:Nat} (h:i<l.length) (x:α):a0U i x l=l.set i x:=by unfold a0U;rw [if_pos h]
theorem y0Q {L:List Lp} {k n:Nat} {C:List ByteArray} {W:List Int} (hI:LgM L k n C W) (hk:k<L.length) (v:Int) (hv:v=lgC (L.take k) (L.getD k lp0).c+(L.getD k lp0).n):
  LgM L (k+1) (if a0l C (L.getD k lp0).c<n then n else n+1) (a0U (a0l C (L.getD k lp0).c) (L.getD k lp0).c C) (a0U (a0l C (L.getD k lp0).c) v W):=by
 generalize hx:L.getD k lp0=x at*;obtain ⟨hc,hw,hnd,hall⟩:=hI;have hle:=Go.Sy.sidx_le C x.c;by_cases h:a0l C x.c<n
 .have e1:a0U (a0l C x.c) x.c C=C:=by rw [e0V,if_pos (by omega)]
  rw [if_pos h,e1,g0X (by omega)];refine ⟨hc,by simp [hw],hnd,fun c=> ?_⟩;rw [m0M hk,hx];by_cases ec:x.c=c
  .subst ec;rw [if_pos h,if_pos rfl,List.getD,h1C (by omega)];exact hv
  .rw [if_neg ec,i1Z,<-hall c];by_cases h2:a0l C c<n
   .rw [if_pos h2,if_pos h2];have hne:a0l C x.c≠a0l C c:=by
     intro e;have g1:=sidx_get (l:=C) (s:=x.c) (by omega);have g2:=sidx_get (l:=C) (s:=c) (by omega);rw [e,g2] at g1;exact ec (Option.some.inj g1).symm
    rw [List.getD,List.getD,h1J hne]
   .rw [if_neg h2,if_neg h2]
 .have hn:a0l C x.c=n:=by omega
  rw [if_neg h,hn];have e1:=b0V hc x.c;have e2:=b0V hw v;rw [e1,e2];have hni:x.c∉C:=fun hm=>h (by rw [<-hc];exact sidx_lt.2 hm)
  have hnd':(C++ [x.c]).Nodup:=h1Z.2 ⟨hnd,by simp,fun a ha b hb e=>by simp at hb;subst hb;subst e;exact hni ha⟩;refine ⟨by simp [hc],by simp [hw],hnd',fun c=> ?_⟩;rw [m0M hk,hx,<-hall c];by_cases ec:x.c=c
  .subst ec;have e3:a0l (C++ [x.c]) x.c=n:=sidx_of_get hnd' (by rw [v0k (by omega)];simp [hc]);rw [e3,if_pos (by omega),if_neg h,if_pos rfl,List.getD,v0k (by omega)];simp only [hw,h1P,i1d,Option.getD_some];have:=hall x.c;rw [if_neg h] at this;omega
  .rw [if_neg ec,i1Z];by_cases h2:a0l C c<n
   .have e3:a0l (C++ [x.c]) c=a0l C c:=sidx_of_get hnd' (by rw [v0f (by omega)];exact sidx_get (by omega));rw [e3,if_pos (by omega),if_pos h2,List.getD,List.getD,v0f (by omega)]
   .have hnm:c∉C++ [x.c]:=by
     intro hm;rcases e1n.1 hm with hm|hm
     .exact h2 (by rw [<-hc];exact sidx_lt.2 hm)
     .simp at hm;exact ec hm.symm
    rw [if_neg h2,if_neg];intro h3;exact hnm (sidx_lt.1 (by rw [y0A,hc];simpa using h3))
theorem c1f {L:List Lp} {k n:Nat} {C:List ByteArray} {W:List Int} (hI:LgM L k n C W) {i:Nat} (hi:i<n):W.getD i 0=lgC (L.take k) (C.getD i ⟨#[]⟩):=by
 have e:a0l C (C.getD i ⟨#[]⟩)=i:=sidx_of_get hI.nd (by rw [List.getD,j0I (by have:=hI.c;omega)];rfl);have:=hI.all (C.getD i ⟨#[]⟩);rw [e,if_pos hi] at this;exact this
theorem e1s {L:List Lp} {n:Nat} {C:List ByteArray} {W:List Int} (hI:LgM L L.length n C W) {i:Nat} (hi:i<n) (h:W.getD i 0≠0):h0Q L=false:=by
 cases hb:h0Q L with
 |false=>rfl
 |true=>
  have:=c1f hI hi;rw [e1e,g0W.1 hb] at this;exact absurd this h
theorem f1Y {L:List Lp} {n:Nat} {C:List ByteArray} {W:List Int} (hI:LgM L L.length n C W) (h:∀i,i<n->W.getD i 0=0):h0Q L=true:=by
 rw [g0W];intro c;have:=hI.all c;rw [e1e] at this;rw [<-this];split
 .rename_i h1;exact h _ h1
 .rfl
def v0F (L:List Lp):Prop:=∀x∈L,-4503599627370496<=x.n/\x.n<=4503599627370496
theorem e1t {L:List Lp} (h:v0F L) (c:ByteArray): -4503599627370496*(L.length:Int)<=lgC L c/\lgC L c<=4503599627370496*(L.length:Int):=by
 induction L with
 |nil=>simp [lgC]
 |cons x L ih=>
  have i1:=ih (fun y hy=>h y (by simp [hy]));have i2:=h x (by simp);simp only [lgC,y0x];split<;>omega
theorem v0G {L:List Lp} (h:v0F L) (a c:ByteArray): -4503599627370496*(L.length:Int)<=lgS L a c/\lgS L a c<=4503599627370496*(L.length:Int):=by
 induction L with
 |nil=>simp [lgS]
 |cons x L ih=>
  have i1:=ih (fun y hy=>h y (by simp [hy]));have i2:=h x (by simp);simp only [lgS,y0x];split<;>omega
theorem j0S {L:List Lp} (h:v0F L) (k:Nat):v0F (L.take k):=fun x hx=>h x (List.mem_of_mem_take hx)
end
end Go.Proofs.YtpkaeknigknbgaaGreatDoor
namespace Go.Sy
open Go.RowKit
structure KD (u32 u1 Y1 Y0 Q:Nat):Prop where
 b1:u1<4294967296
 b0:Y0<4294967296
 n1:2147483648<=Y1
 n2:Y1<4294967296
 lt:u32<Y1*4294967296+Y0
 q:Q=(u32*4294967296+u1)/(Y1*4294967296+Y0)
section
variable {u32 u1 Y1 Y0 Q:Nat} (k:KD u32 u1 Y1 Y0 Q)
include k
theorem KD.le:Q<=u32/Y1:=by
 have h1:Q*(Y1*4294967296+Y0)<=u32*4294967296+u1:=by rw [k.q];exact Nat.div_mul_le_self _ _
 rw [Nat.le_div_iff_mul_le (by have:=k.n1;omega)];rw [Nat.mul_add,<-Nat.mul_assoc] at h1;have:=k.b1;have h2:0<=Q*Y0:=z0h _;omega
end
end Go.Sy
namespace Go.Proofs.YtpkaeknigknbgaaGreatDoor
open Go.RowKit Go.Sy
section
attribute [local irreducible] a0q a0r a0j a0R
theorem f1Z {s:ByteArray} (h:e1q s 256 d0j=true) {x:Int} (h0:0<=x) (h1:x<256):a0e s x=(d0j x.toNat:Int):=by
 have:=m0I h (i:=x.toNat) (by omega);rw [<-this,Int.toNat_of_nonneg h0]
theorem t0y {u:Nat} (h:u<256):d0j u<=8:=by
 rcases a1K 8 (d0j u) with h1|h1
 .have hu:1<=u:=by
   rcases c1s u with e|e
   .subst e;simp [d0j] at h1
   .exact e
  have a:=j0M u hu;have:2^8<=2^(d0j u-1):=h1y (by omega) (by omega);omega
 .exact h1
theorem c1g {u c:Nat} {x:Int} (hx:x=((u/2^c:Nat):Int)) (h:c=0\/2^c<=u):(c:Int)+(d0j x.toNat:Int)=(d0j u:Int):=by
 subst hx;rw [y0u];rcases h with rfl|h
 .simp
 .rw [t0o u c h];omega
theorem d0s {u c:Nat} {x n:Int} (hn:n=(c:Int)) (hc:c<=56) (hx:x=((u/2^c:Nat):Int)) (h:c=0\/2^c<=u) (h1:x<256):IntKind.i64.wrap (n+IntKind.i64.wrap (d0j x.toNat:Int))=(d0j u:Int):=by
 have hb:=t0y (u:=x.toNat) (by omega);rw [a0m (n:=(d0j x.toNat:Int)) (by omega) (by omega),a0m (by omega) (by omega),hn];exact c1g hx h
theorem t0z (u:Nat) (hu:u<18446744073709551616):a0V Tryz.prog 152 [.int .u64 u] (.int .i64 (d0j u)):=by
 refine fEx Tryz.func152 ?_;repeat' ((conv=>whnf);first|(refine a0g ⟨by (try simp only [g0N,f0x,f0y,f0z] at*);(try simp (disch:=omega) only [a0D]);omega,k0I (n:=256) (by kernel_rfl) (by (try simp only [g0N,f0x,f0y,f0z] at*);(try simp (disch:=omega) only [a0D]);omega)⟩ ?_)|refine a0a ?_|(apply bRx<;>intro h<;>try (exfalso;(try dsimp only at h);omega)))
 all_goals (conv=>whnf)
 all_goals refine a0d ?_
 all_goals simp only [c0d]
 all_goals (try simp only [g0N,f0x,f0y,f0z] at*)
 all_goals rw [f1Z (by kernel_rfl) (by (try simp (disch:=omega) only [a0D]);omega) (by (try simp (disch:=omega) only [a0D]);omega)]
 all_goals refine congrArg (SV.int .i64) ?_
 .exact d0s (c:=56) (by first|rfl|((try simp (disch:=omega) only [a0D]);omega)) (by omega) (by (try simp (disch:=omega) only [a0D]);omega) (by omega) (by (try simp (disch:=omega) only [a0D]);omega)
 .exact d0s (c:=48) (by first|rfl|((try simp (disch:=omega) only [a0D]);omega)) (by omega) (by (try simp (disch:=omega) only [a0D]);omega) (by omega) (by (try simp (disch:=omega) only [a0D]);omega)
 .exact d0s (c:=40) (by first|rfl|((try simp (disch:=omega) only [a0D]);omega)) (by omega) (by (try simp (disch:=omega) only [a0D]);omega) (by omega) (by (try simp (disch:=omega) only [a0D]);omega)
 .exact d0s (c:=32) (by first|rfl|((try simp (disch:=omega) only [a0D]);omega)) (by omega) (by (try simp (disch:=omega) only [a0D]);omega) (by omega) (by (try simp (disch:=omega) only [a0D]);omega)
 .exact d0s (c:=24) (by first|rfl|((try simp (disch:=omega) only [a0D]);omega)) (by omega) (by (try simp (disch:=omega) only [a0D]);omega) (by omega) (by (try simp (disch:=omega) only [a0D]);omega)
 .exact d0s (c:=16) (by first|rfl|((try simp (disch:=omega) only [a0D]);omega)) (by omega) (by (try simp (disch:=omega) only [a0D]);omega) (by omega) (by (try simp (disch:=omega) only [a0D]);omega)
 .exact d0s (c:=8) (by first|rfl|((try simp (disch:=omega) only [a0D]);omega)) (by omega) (by (try simp (disch:=omega) only [a0D]);omega) (by omega) (by (try simp (disch:=omega) only [a0D]);omega)
 .exact d0s (c:=0) (by first|rfl|((try simp (disch:=omega) only [a0D]);omega)) (by omega) (by (try simp (disch:=omega) only [a0D]);omega) (by omega) (by (try simp (disch:=omega) only [a0D]);omega)
theorem k0L (n:Nat) (hn:n<=64):a0V Tryz.prog 154 [.int .i64 n] (.int .i64 (n*78913/262144:Nat)):=by
 refine fEx Tryz.func154 ?_;repeat' ((conv=>whnf);first|refine a0a ?_|(apply bRx<;>intro h<;>try (exfalso;(try dsimp only at h);omega)))
 all_goals (conv=>whnf)
 all_goals refine a0d ?_
 all_goals simp only [c0d]
 all_goals (try simp (disch:=omega) only [a0D])
 all_goals rfl
theorem t0A (b:Bool):a0V Tryz.prog 155 [.bool b] (.int .i64 (if b=true then 1 else 0)):=by
 refine fEx Tryz.func155 ?_;repeat' ((conv=>whnf);first|refine a0a ?_|(apply bRx<;>intro h<;>try (exfalso;(try dsimp only at h);omega)))
 all_goals (conv=>whnf)
 all_goals exact a0d (by simp [c0d,h,cv])
end
section
attribute [local irreducible] a0q a0r a0j a0R
end
section
attribute [local irreducible] a0q a0r a0j a0R
theorem m0N (n:Int):a0V Tryz.prog 252 [.int .i64 n] (.bool (decide (-4503599627370496<=n/\n<=4503599627370496))):=by
 refine fEx Tryz.func252 ?_;repeat' ((conv=>whnf);first|refine a0a ?_|(apply bRx<;>intro h<;>try (exfalso;(try dsimp only at h);omega)))
 all_goals (conv=>whnf)
 .exact a0d (congrArg SV.bool (by rw [decide_eq_decide];omega))
 .exact a0d (congrArg SV.bool (by rw [eq_comm,decide_eq_false_iff_not];omega))
theorem o0r (n:Int):a0V Tryz.prog 179 [.int .i64 n] (.bool (decide (-4503599627370496<=n/\n<=4503599627370496))):=by
 refine fEx Tryz.func179 ?_;repeat' ((conv=>whnf);first|refine a0a ?_|(apply bRx<;>intro h<;>try (exfalso;(try dsimp only at h);omega)))
 all_goals (conv=>whnf)
 .exact a0d (congrArg SV.bool (by rw [decide_eq_decide];omega))
 .exact a0d (congrArg SV.bool (by rw [eq_comm,decide_eq_false_iff_not];omega))
def e0q (a:Int) (c:ByteArray):Int:=if d0k c=false then 11 else if-4503599627370496<=a/\a<=4503599627370496 then 0 else 4
theorem m0O (a:Int) (c:ByteArray):(e0q a c=11\/e0q a c=4)\/(e0q a c=0/\d0k c=true/\-4503599627370496<=a/\a<=4503599627370496):=by
 unfold e0q;split
 .exact .inl (.inl rfl)
 .split
  .rename_i h1 h2;exact .inr ⟨rfl,by cases h:d0k c<;>simp_all,h2⟩
  .exact .inl (.inr rfl)
attribute [irreducible] e0q
theorem j0T (a:Int) (c:ByteArray):a0V Tryz.prog 248 [.agg [.int .i64 a,.str c]] (.int .i64 (e0q a c)):=by
 refine fEx Tryz.func248 ?_;repeat' ((conv=>whnf);first|refine cPx (i0w _) ?_|refine cPx (m0N _) ?_|refine a0a ?_|(apply bRx<;>intro h<;>try (exfalso;(try dsimp only at h);omega)))
 all_goals (conv=>whnf)
 all_goals refine a0d (congrArg (SV.int .i64) ?_)
 all_goals unfold e0q
 all_goals simp_all
theorem j0U (a:Int) (c:ByteArray):a0V Tryz.prog 160 [.agg [.int .i64 a,.str c]] (.int .i64 (e0q a c)):=by
 refine fEx Tryz.func160 ?_;repeat' ((conv=>whnf);first|refine cPx (i0x _) ?_|refine cPx (o0r _) ?_|refine a0a ?_|(apply bRx<;>intro h<;>try (exfalso;(try dsimp only at h);omega)))
 all_goals (conv=>whnf)
 all_goals refine a0d (congrArg (SV.int .i64) ?_)
 all_goals unfold e0q
 all_goals simp_all
end
section
attribute [local irreducible] a0q a0r a0j a0R
def a1N:List Int:= [1,10,100,1000,10000,100000,1000000,10000000,100000000,1000000000,10000000000,100000000000,1000000000000,10000000000000,100000000000000,1000000000000000,10000000000000000,100000000000000000,1000000000000000000,10000000000000000000]
theorem y0R:∀k,k<20->a1N.getD k 0=((10^k:Nat):Int):=by decide+kernel
theorem f0S (u:Nat) (h1:1<=u) (hu:u<18446744073709551616):t0h Tryz.prog glT 126 [.int .u64 u] (.int .i64 (d0i u)):=by
 have c1:=t0z u hu;have hb:=o0j (u:=u) hu;have c2:=k0L (d0j u) hb;have hk:d0j u*78913/262144<20:=by omega
 have hn:=y0H h1 hu;have hp:=y0R _ hk;refine fEx Tryz.func126 ?_;generalize d0j u*78913/262144=k at*;repeat' ((conv=>whnf);first|refine cPx c1 ?_|refine cPx c2 ?_|refine cPx (t0A _) ?_|refine a0a ?_|(apply bRx<;>intro h<;>try (exfalso;(try dsimp only at h);omega)))
 all_goals (conv=>whnf)
 all_goals refine a0d ?_
 all_goals simp only [c0d]
 all_goals refine congrArg (SV.int .i64) ?_
 have e:∀b:Bool,b=decide ((a1N.getD k 0)<=(u:Int))->IntKind.i64.wrap ((k:Int)+if b=true then 1 else 0)=(d0i u:Int):=by
  intro b hb;subst hb;rw [hn,hp];by_cases h:10^k<=u
  .have h':((10^k:Nat):Int)<=(u:Int):=Int.ofNat_le.2 h;rw [if_pos h,decide_eq_true h',if_pos rfl,a0m (by omega) (by omega)];rfl
  .have h':¬((10^k:Nat):Int)<=(u:Int):=fun x=>h (Int.ofNat_le.1 x)
   rw [if_neg h,decide_eq_false h',if_neg (by simp),a0m (by omega) (by omega)];rfl
 exact e _ rfl
theorem v0H:∀n,n<100->(n<10->p0i (d0i n) n= [((48+n:Nat):Int)])/\(¬n<10->p0i (d0i n) n= [((48+n/10:Nat):Int),((48+n%10:Nat):Int)]):=by
 intro n hn;constructor
 .intro h;rw [d0i,if_pos h];simp [p0i];omega
 .intro h;rw [d0i,if_neg h,d0i,if_pos (by omega)];simp [p0i];omega
theorem g0Y {s:ByteArray} {a n:Nat} (h:a+n<=s.size) (l:List Int) (hl:l.length=n) (hg:∀i,i<n->a0e s ((a+i:Nat):Int)=l.getD i 0):s.extract a (a+n)=a0C l:=by
 have h1:s.data.toList.length=s.size:=by simp
 have:(s.extract a (a+n)).data.toList=(a0C l).data.toList:=by
  unfold a0C;simp only [j1F,Array.toList_extract,List.extract_eq_take_drop];apply h1s;intro i;by_cases hi:i<n
  .rw [h1F,if_pos (by omega),i1G,j0I (by omega)];rw [v0g,j0I (by omega)];simp only [a1R,Option.some.injEq];have hh:=hg i hi;unfold a0e at hh;rw [y0u,List.getD,j0I (by omega),List.getD,j0I (by omega)] at hh;simp only [Option.getD_some] at hh;rw [<-hh,y0u];exact (UInt8.ofNat_toNat).symm
  .rw [h1F,if_neg (by omega),p0J (by simp;omega)]
 have e2:∀x y:ByteArray,x.data.toList=y.data.toList->x=y:=by
  intro x y h;cases x;cases y;simp at h;congr
 exact e2 _ _ this
theorem t0B (n:Nat) (hn:n<100):a0V Tryz.prog 125 [.int .i64 n] (.str (dec n)):=by
 obtain ⟨d1,d2⟩:=v0H n hn;refine fEx Tryz.func125 ?_;repeat' ((conv=>whnf);first|(refine a0g ⟨by (try simp (disch:=omega) only [a0D]);omega,by (try simp (disch:=omega) only [a0D]);omega,e1p (n:=36) (by kernel_rfl) (by (try simp (disch:=omega) only [a0D]);omega)⟩ ?_)|(refine a0g ⟨by (try simp (disch:=omega) only [a0D]);omega,by (try simp (disch:=omega) only [a0D]);omega,e1p (n:=200) (by kernel_rfl) (by (try simp (disch:=omega) only [a0D]);omega)⟩ ?_)|refine a0a ?_|(apply bRx<;>intro h<;>try (exfalso;(try dsimp only at h);omega)))
 all_goals (conv=>whnf)
 all_goals refine a0d ?_
 all_goals simp only [c0d]
 all_goals refine congrArg SV.str ?_
 all_goals unfold dec
 .rw [d1 (by omega),show (IntKind.i64.wrap ((n:Int)+1)).toNat=n+1 from by (try simp (disch:=omega) only [a0D]);omega];refine g0Y (n:=1) (by show n+1<=36;omega) _ rfl ?_;intro i hi;have e:i=0:=by omega
  subst e;refine Eq.trans (m0I (n:=36) (f:=fun i=>if i<10 then 48+i else 87+i) (by kernel_rfl) (i:=n+0) (by omega)) ?_;rw [if_pos (by omega)];rfl
 .rw [d2 (by omega),show (IntKind.i64.wrap ((n:Int)*2)).toNat=n*2 from by (try simp (disch:=omega) only [a0D]);omega,show (IntKind.i64.wrap (IntKind.i64.wrap ((n:Int)*2)+2)).toNat=n*2+2 from by (try simp (disch:=omega) only [a0D]);omega];refine g0Y (n:=2) (by show n*2+2<=200;omega) _ rfl ?_;intro i hi;rcases (show i=0\/i=1 by omega) with rfl|rfl
  .rw [show ((n*2+0:Nat):Int)=(n:Int)*2 by omega,e0k (by kernel_rfl) (by omega) (by omega)];rfl
  .rw [show ((n*2+1:Nat):Int)=(n:Int)*2+1 by omega,g0P (by kernel_rfl) (by omega) (by omega)];rfl
set_option maxHeartbeats 2000000 in
theorem d0V (l:List Int) (N o n U:Nat) (hl:l.length=N) (hN:o+n<=N) (hN2:N<=1000) (hU:U<10^n) (hU2:U<18446744073709551616):
  FC Tryz.prog 2 127 [.sl 1 0 o n,.int .u64 U] [(1,some (.one false (.cols N [.sc (.ints .u8 l)])))] (a0f (.tup []) [(1,some (.one false (.cols N [.sc (.ints .u8 (t0p l N o n U n))])))] 2):=by
 refine fEx Tryz.func127 ?_
 (conv=>whnf)
 refine a0o (fun m:Nat=>⟨[(0,.sl 1 0 o n),(1,.int .u64 (U/10^m:Nat)),(4,.int .i64 (n-m:Nat))],[(1,some (.one false (.cols N [.sc (.ints .u8 (t0p l N o n U m))])))],2⟩) (fun m=>m<=n) (fun m=>n-m) 0 [0,1] [] ⟨rfl,⟨rfl,?_,rfl,trivial⟩,⟨?_,trivial⟩⟩ (by omega) ?_
 .simp only [Nat.pow_zero,Nat.div_one];rfl
 .rw [v0o hl];rfl
 intro m hm;have hu:U/10^m<=U:=Nat.div_le_self _ _;have hdm:U/10^m<10^(n-m):=by
  rw [i1F (Nat.pow_pos (by omega)),<-Nat.pow_add,show n-m+m=n from by omega];exact hU
 generalize hq:U/10^m=q at*;by_cases h8:8<=n-m
 .repeat' ((conv=>whnf);first|(refine a0g ⟨by (try simp (disch:=omega) only [a0D]);omega,k0I (n:=200) (by kernel_rfl) (by (try simp (disch:=omega) only [a0D]);omega)⟩ ?_)|(refine a0g ⟨by (try simp (disch:=omega) only [a0D]);omega,by (try simp (disch:=omega) only [a0D]);omega⟩ ?_)|(refine a0g (by (try simp (disch:=omega) only [a0D]);omega) ?_)|refine a0a ?_|(apply bRx<;>intro h<;>try (exfalso;(try dsimp only at h);omega)))
  all_goals (conv=>whnf)
  refine ⟨m+8,[0,1],[],by omega,by omega,⟨rfl,⟨rfl,?_,?_,trivial⟩,⟨?_,trivial⟩⟩⟩
  .refine congrArg (fun z=>some (SV.int .u64 z)) ?_
   (try simp (disch:=omega) only [a0D])
   simp only [a0J,hq,Nat.reducePow];omega
  .refine congrArg (fun z=>some (SV.int .i64 z)) ?_
   (try simp (disch:=omega) only [a0D])
   omega
  .refine congrArg (fun z=>some (HB.one false (.cols N [.sc (.ints .u8 z)]))) ?_;rw [a0v (m:=m),a0v (m:=m+1),a0v (m:=m+2),a0v (m:=m+3),a0v (m:=m+4),a0v (m:=m+5),a0v (m:=m+6),a0v (m:=m+7)];all_goals first|omega|((try simp (disch:=omega) only [a0D]);omega)|((try simp (disch:=omega) only [a0D]);rw [g0P (by kernel_rfl) (by omega) (by omega)];simp only [a0J,hq,Nat.reducePow];omega)|((try simp (disch:=omega) only [a0D]);rw [e0k (by kernel_rfl) (by omega) (by omega)];simp only [a0J,hq,Nat.reducePow];omega)
 .have hk:n-m=0\/n-m=1\/n-m=2\/n-m=3\/n-m=4\/n-m=5\/n-m=6\/n-m=7:=by omega
  rcases hk with hk|hk|hk|hk|hk|hk|hk|hk
  .obtain rfl:n=m+0:=by omega
   have hk':q<10^0:=by simpa [hk] using hdm
   repeat' ((conv=>whnf);first|(refine a0g ⟨by (try simp (disch:=omega) only [a0D]);omega,k0I (n:=200) (by kernel_rfl) (by (try simp (disch:=omega) only [a0D]);omega)⟩ ?_)|(refine a0g ⟨by (try simp (disch:=omega) only [a0D]);omega,by (try simp (disch:=omega) only [a0D]);omega⟩ ?_)|(refine a0g (by (try simp (disch:=omega) only [a0D]);omega) ?_)|((refine i0n (fun h=> ?_) (fun h=> ?_))<;>try (exfalso;revert h;(try simp (disch:=omega) only [a0D]);omega))|refine a0a ?_|(apply bRx<;>intro h<;>try (exfalso;(try dsimp only at h);omega)))
   all_goals (conv=>whnf)
   refine a0H (l:= [0,1]) rfl rfl ⟨?_,trivial⟩ (a0c a0b);refine congrArg (fun z=>some (HB.one false (.cols N [.sc (.ints .u8 z)]))) ?_;rfl
  .obtain rfl:n=m+1:=by omega
   have hk':q<10^1:=by simpa [hk] using hdm
   repeat' ((conv=>whnf);first|(refine a0g ⟨by (try simp (disch:=omega) only [a0D]);omega,k0I (n:=200) (by kernel_rfl) (by (try simp (disch:=omega) only [a0D]);omega)⟩ ?_)|(refine a0g ⟨by (try simp (disch:=omega) only [a0D]);omega,by (try simp (disch:=omega) only [a0D]);omega⟩ ?_)|(refine a0g (by (try simp (disch:=omega) only [a0D]);omega) ?_)|((refine i0n (fun h=> ?_) (fun h=> ?_))<;>try (exfalso;revert h;(try simp (disch:=omega) only [a0D]);omega))|refine a0a ?_|(apply bRx<;>intro h<;>try (exfalso;(try dsimp only at h);omega)))
   all_goals (conv=>whnf)
   refine a0H (l:= [0,1]) rfl rfl ⟨?_,trivial⟩ (a0c a0b);refine congrArg (fun z=>some (HB.one false (.cols N [.sc (.ints .u8 z)]))) ?_;rw [a0v (m:=m)];all_goals first|omega|((try simp (disch:=omega) only [a0D]);omega)|((try simp (disch:=omega) only [a0D]);rw [g0P (by kernel_rfl) (by omega) (by omega)];simp only [a0J,hq,Nat.reducePow];omega)|((try simp (disch:=omega) only [a0D]);rw [e0k (by kernel_rfl) (by omega) (by omega)];simp only [a0J,hq,Nat.reducePow];omega)|((try simp (disch:=omega) only [a0D]);simp only [a0J,hq,Nat.reducePow];omega)
  .obtain rfl:n=m+2:=by omega
   have hk':q<10^2:=by simpa [hk] using hdm
   repeat' ((conv=>whnf);first|(refine a0g ⟨by (try simp (disch:=omega) only [a0D]);omega,k0I (n:=200) (by kernel_rfl) (by (try simp (disch:=omega) only [a0D]);omega)⟩ ?_)|(refine a0g ⟨by (try simp (disch:=omega) only [a0D]);omega,by (try simp (disch:=omega) only [a0D]);omega⟩ ?_)|(refine a0g (by (try simp (disch:=omega) only [a0D]);omega) ?_)|((refine i0n (fun h=> ?_) (fun h=> ?_))<;>try (exfalso;revert h;(try simp (disch:=omega) only [a0D]);omega))|refine a0a ?_|(apply bRx<;>intro h<;>try (exfalso;(try dsimp only at h);omega)))
   all_goals (conv=>whnf)
   refine a0H (l:= [0,1]) rfl rfl ⟨?_,trivial⟩ (a0c a0b);refine congrArg (fun z=>some (HB.one false (.cols N [.sc (.ints .u8 z)]))) ?_;rw [a0v (m:=m),a0v (m:=m+1)];all_goals first|omega|((try simp (disch:=omega) only [a0D]);omega)|((try simp (disch:=omega) only [a0D]);rw [g0P (by kernel_rfl) (by omega) (by omega)];simp only [a0J,hq,Nat.reducePow];omega)|((try simp (disch:=omega) only [a0D]);rw [e0k (by kernel_rfl) (by omega) (by omega)];simp only [a0J,hq,Nat.reducePow];omega)|((try simp (disch:=omega) only [a0D]);simp only [a0J,hq,Nat.reducePow];omega)
  .obtain rfl:n=m+3:=by omega
   have hk':q<10^3:=by simpa [hk] using hdm
   repeat' ((conv=>whnf);first|(refine a0g ⟨by (try simp (disch:=omega) only [a0D]);omega,k0I (n:=200) (by kernel_rfl) (by (try simp (disch:=omega) only [a0D]);omega)⟩ ?_)|(refine a0g ⟨by (try simp (disch:=omega) only [a0D]);omega,by (try simp (disch:=omega) only [a0D]);omega⟩ ?_)|(refine a0g (by (try simp (disch:=omega) only [a0D]);omega) ?_)|((refine i0n (fun h=> ?_) (fun h=> ?_))<;>try (exfalso;revert h;(try simp (disch:=omega) only [a0D]);omega))|refine a0a ?_|(apply bRx<;>intro h<;>try (exfalso;(try dsimp only at h);omega)))
   all_goals (conv=>whnf)
   refine a0H (l:= [0,1]) rfl rfl ⟨?_,trivial⟩ (a0c a0b);refine congrArg (fun z=>some (HB.one false (.cols N [.sc (.ints .u8 z)]))) ?_;rw [a0v (m:=m),a0v (m:=m+1),a0v (m:=m+2)];all_goals first|omega|((try simp (disch:=omega) only [a0D]);omega)|((try simp (disch:=omega) only [a0D]);rw [g0P (by kernel_rfl) (by omega) (by omega)];simp only [a0J,hq,Nat.reducePow];omega)|((try simp (disch:=omega) only [a0D]);rw [e0k (by kernel_rfl) (by omega) (by omega)];simp only [a0J,hq,Nat.reducePow];omega)|((try simp (disch:=omega) only [a0D]);simp only [a0J,hq,Nat.reducePow];omega)
  .obtain rfl:n=m+4:=by omega
   have hk':q<10^4:=by simpa [hk] using hdm
   repeat' ((conv=>whnf);first|(refine a0g ⟨by (try simp (disch:=omega) only [a0D]);omega,k0I (n:=200) (by kernel_rfl) (by (try simp (disch:=omega) only [a0D]);omega)⟩ ?_)|(refine a0g ⟨by (try simp (disch:=omega) only [a0D]);omega,by (try simp (disch:=omega) only [a0D]);omega⟩ ?_)|(refine a0g (by (try simp (disch:=omega) only [a0D]);omega) ?_)|((refine i0n (fun h=> ?_) (fun h=> ?_))<;>try (exfalso;revert h;(try simp (disch:=omega) only [a0D]);omega))|refine a0a ?_|(apply bRx<;>intro h<;>try (exfalso;(try dsimp only at h);omega)))
   all_goals (conv=>whnf)
   refine a0H (l:= [0,1]) rfl rfl ⟨?_,trivial⟩ (a0c a0b);refine congrArg (fun z=>some (HB.one false (.cols N [.sc (.ints .u8 z)]))) ?_;rw [a0v (m:=m),a0v (m:=m+1),a0v (m:=m+2),a0v (m:=m+3)];all_goals first|omega|((try simp (disch:=omega) only [a0D]);omega)|((try simp (disch:=omega) only [a0D]);rw [g0P (by kernel_rfl) (by omega) (by omega)];simp only [a0J,hq,Nat.reducePow];omega)|((try simp (disch:=omega) only [a0D]);rw [e0k (by kernel_rfl) (by omega) (by omega)];simp only [a0J,hq,Nat.reducePow];omega)|((try simp (disch:=omega) only [a0D]);simp only [a0J,hq,Nat.reducePow];omega)
  .obtain rfl:n=m+5:=by omega
   have hk':q<10^5:=by simpa [hk] using hdm
   repeat' ((conv=>whnf);first|(refine a0g ⟨by (try simp (disch:=omega) only [a0D]);omega,k0I (n:=200) (by kernel_rfl) (by (try simp (disch:=omega) only [a0D]);omega)⟩ ?_)|(refine a0g ⟨by (try simp (disch:=omega) only [a0D]);omega,by (try simp (disch:=omega) only [a0D]);omega⟩ ?_)|(refine a0g (by (try simp (disch:=omega) only [a0D]);omega) ?_)|((refine i0n (fun h=> ?_) (fun h=> ?_))<;>try (exfalso;revert h;(try simp (disch:=omega) only [a0D]);omega))|refine a0a ?_|(apply bRx<;>intro h<;>try (exfalso;(try dsimp only at h);omega)))
   all_goals (conv=>whnf)
   refine a0H (l:= [0,1]) rfl rfl ⟨?_,trivial⟩ (a0c a0b);refine congrArg (fun z=>some (HB.one false (.cols N [.sc (.ints .u8 z)]))) ?_;rw [a0v (m:=m),a0v (m:=m+1),a0v (m:=m+2),a0v (m:=m+3),a0v (m:=m+4)];all_goals first|omega|((try simp (disch:=omega) only [a0D]);omega)|((try simp (disch:=omega) only [a0D]);rw [g0P (by kernel_rfl) (by omega) (by omega)];simp only [a0J,hq,Nat.reducePow];omega)|((try simp (disch:=omega) only [a0D]);rw [e0k (by kernel_rfl) (by omega) (by omega)];simp only [a0J,hq,Nat.reducePow];omega)|((try simp (disch:=omega) only [a0D]);simp only [a0J,hq,Nat.reducePow];omega)
  .obtain rfl:n=m+6:=by omega
   have hk':q<10^6:=by simpa [hk] using hdm
   repeat' ((conv=>whnf);first|(refine a0g ⟨by (try simp (disch:=omega) only [a0D]);omega,k0I (n:=200) (by kernel_rfl) (by (try simp (disch:=omega) only [a0D]);omega)⟩ ?_)|(refine a0g ⟨by (try simp (disch:=omega) only [a0D]);omega,by (try simp (disch:=omega) only [a0D]);omega⟩ ?_)|(refine a0g (by (try simp (disch:=omega) only [a0D]);omega) ?_)|((refine i0n (fun h=> ?_) (fun h=> ?_))<;>try (exfalso;revert h;(try simp (disch:=omega) only [a0D]);omega))|refine a0a ?_|(apply bRx<;>intro h<;>try (exfalso;(try dsimp only at h);omega)))
   all_goals (conv=>whnf)
   refine a0H (l:= [0,1]) rfl rfl ⟨?_,trivial⟩ (a0c a0b);refine congrArg (fun z=>some (HB.one false (.cols N [.sc (.ints .u8 z)]))) ?_;rw [a0v (m:=m),a0v (m:=m+1),a0v (m:=m+2),a0v (m:=m+3),a0v (m:=m+4),a0v (m:=m+5)];all_goals first|omega|((try simp (disch:=omega) only [a0D]);omega)|((try simp (disch:=omega) only [a0D]);rw [g0P (by kernel_rfl) (by omega) (by omega)];simp only [a0J,hq,Nat.reducePow];omega)|((try simp (disch:=omega) only [a0D]);rw [e0k (by kernel_rfl) (by omega) (by omega)];simp only [a0J,hq,Nat.reducePow];omega)|((try simp (disch:=omega) only [a0D]);simp only [a0J,hq,Nat.reducePow];omega)
  .obtain rfl:n=m+7:=by omega
   have hk':q<10^7:=by simpa [hk] using hdm
   repeat' ((conv=>whnf);first|(refine a0g ⟨by (try simp (disch:=omega) only [a0D]);omega,k0I (n:=200) (by kernel_rfl) (by (try simp (disch:=omega) only [a0D]);omega)⟩ ?_)|(refine a0g ⟨by (try simp (disch:=omega) only [a0D]);omega,by (try simp (disch:=omega) only [a0D]);omega⟩ ?_)|(refine a0g (by (try simp (disch:=omega) only [a0D]);omega) ?_)|((refine i0n (fun h=> ?_) (fun h=> ?_))<;>try (exfalso;revert h;(try simp (disch:=omega) only [a0D]);omega))|refine a0a ?_|(apply bRx<;>intro h<;>try (exfalso;(try dsimp only at h);omega)))
   all_goals (conv=>whnf)
   refine a0H (l:= [0,1]) rfl rfl ⟨?_,trivial⟩ (a0c a0b);refine congrArg (fun z=>some (HB.one false (.cols N [.sc (.ints .u8 z)]))) ?_;rw [a0v (m:=m),a0v (m:=m+1),a0v (m:=m+2),a0v (m:=m+3),a0v (m:=m+4),a0v (m:=m+5),a0v (m:=m+6)];all_goals first|omega|((try simp (disch:=omega) only [a0D]);omega)|((try simp (disch:=omega) only [a0D]);rw [g0P (by kernel_rfl) (by omega) (by omega)];simp only [a0J,hq,Nat.reducePow];omega)|((try simp (disch:=omega) only [a0D]);rw [e0k (by kernel_rfl) (by omega) (by omega)];simp only [a0J,hq,Nat.reducePow];omega)|((try simp (disch:=omega) only [a0D]);simp only [a0J,hq,Nat.reducePow];omega)
end
section
attribute [local irreducible] a0q a0r a0j a0R
theorem m0P {u:Nat} (h:u<18446744073709551616):d0i u<=20:=by
 rcases a1K 20 (d0i u) with h1|h1
 .have hu:1<=u:=by
   rcases c1s u with e|e
   .subst e;rw [d0i,if_pos (by omega)] at h1;omega
   .exact e
  have a:=v0n u hu;have:10^20<=10^(d0i u-1):=h1y (by omega) (by omega);omega
 .exact h1
theorem e0X (i:Int) (h1: -9223372036854775808<=i) (h2:i<=9223372036854775807):t0h Tryz.prog glT 91 [.int .i64 i,.int .i64 10] (.str (b0S i)):=by
 refine fEx Tryz.func91 ?_;by_cases hs:0<=i/\i<100
 .have c:=t0B i.toNat (by omega);rw [Int.toNat_of_nonneg hs.1] at c;repeat' ((conv=>whnf);first|refine cPx c ?_|refine a0a ?_|(apply bRx<;>intro h<;>try (exfalso;(try dsimp only at h);omega)))
  all_goals (conv=>whnf)
  all_goals refine a0d ?_
  unfold b0S;rw [if_neg (by omega)];rfl
 .by_cases hi:i<0
  .have e:IntKind.u64.wrap (0-IntKind.u64.wrap i)=(i.natAbs:Int):=by
    simp only [IntKind.wrap,IntKind.bits,IntKind.signed];simp;omega
   have hb:i.natAbs<18446744073709551616:=by omega
   have hn:=m0P hb;have hp:=g0O i.natAbs;have c2:=f0S i.natAbs (by omega) hb;rw [<-e] at c2;have en:(IntKind.i64.wrap (1+(d0i i.natAbs:Int))).toNat=1+d0i i.natAbs:=by (try simp (disch:=omega) only [a0D]);omega
   have en':(IntKind.i64.wrap (1+(d0i i.natAbs:Int))).toNat-Int.toNat 1=d0i i.natAbs:=by rw [en];simp
   have c3:=d0V (List.replicate 24 0) 24 (Int.toNat 1) ((IntKind.i64.wrap (1+(d0i i.natAbs:Int))).toNat-Int.toNat 1) i.natAbs rfl (by rw [en'];show 1+_<=24;omega) (by omega) (by rw [en'];exact p0O _) hb;rw [<-e] at c3;repeat' ((conv=>whnf);first|refine cGx c2 ?_|refine cOx (l:= [0,1]) c3 ?_|(refine a0g ⟨by (try simp (disch:=omega) only [a0D]);omega,by (try simp (disch:=omega) only [a0D]);omega,by (try simp (disch:=omega) only [a0D]);omega⟩ ?_)|(refine a0g (by (try simp (disch:=omega) only [a0D]);omega) ?_)|refine a0a ?_|(apply bRx<;>intro h<;>try (exfalso;(try dsimp only at h);omega)))
   all_goals (conv=>whnf)
   all_goals refine a0d ?_
   unfold b0S;rw [if_pos hi];refine congrArg SV.str (congrArg a0C ?_);rw [en',en];refine Eq.trans (y0I (n:=d0i i.natAbs) (by rw [j0N];omega)) ?_;rw [show Int.toNat 1=1 from rfl,r0H (by omega)]
  .have e:IntKind.u64.wrap i=(i.toNat:Int):=by (try simp (disch:=omega) only [a0D]);omega
   have hb:i.toNat<18446744073709551616:=by omega
   have hn:=m0P hb;have hp:=g0O i.toNat;have c2:=f0S i.toNat (by omega) hb;rw [<-e] at c2;have en:(IntKind.i64.wrap (1+(d0i i.toNat:Int))).toNat=1+d0i i.toNat:=by (try simp (disch:=omega) only [a0D]);omega
   have en':(IntKind.i64.wrap (1+(d0i i.toNat:Int))).toNat-Int.toNat 1=d0i i.toNat:=by rw [en];simp
   have c3:=d0V (List.replicate 24 0) 24 (Int.toNat 1) ((IntKind.i64.wrap (1+(d0i i.toNat:Int))).toNat-Int.toNat 1) i.toNat rfl (by rw [en'];show 1+_<=24;omega) (by omega) (by rw [en'];exact p0O _) hb;rw [<-e] at c3;repeat' ((conv=>whnf);first|refine cGx c2 ?_|refine cOx (l:= [0,1]) c3 ?_|(refine a0g ⟨by (try simp (disch:=omega) only [a0D]);omega,by (try simp (disch:=omega) only [a0D]);omega,by (try simp (disch:=omega) only [a0D]);omega⟩ ?_)|(refine a0g (by (try simp (disch:=omega) only [a0D]);omega) ?_)|refine a0a ?_|(apply bRx<;>intro h<;>try (exfalso;(try dsimp only at h);omega)))
   all_goals (conv=>whnf)
   all_goals refine a0d ?_
   unfold b0S dec;rw [if_neg hi];refine congrArg SV.str (congrArg a0C ?_);rw [en',show Int.toNat 1=1 from rfl,r0H (by omega)]
theorem c0y (i:Int) (h1: -9223372036854775808<=i) (h2:i<=9223372036854775807):t0h Tryz.prog glT 57 [.int .i64 i,.int .i64 10] (.str (b0S i)):=by
 have c:=e0X i h1 h2;refine fEx Tryz.func57 ?_;repeat' ((conv=>whnf);first|refine cGx c ?_|refine a0a ?_|(apply bRx<;>intro h<;>try (exfalso;(try dsimp only at h);omega)))
 all_goals (conv=>whnf)
 all_goals exact a0d rfl
theorem a0A (i:Int) (h1: -9223372036854775808<=i) (h2:i<=9223372036854775807):(b0S i).size<=21:=by
 have h3:=m0P (u:=i.natAbs) (by omega);have h4:=m0P (u:=i.toNat) (by omega);unfold b0S dec;split
 .simp [a0C,ByteArray.size,b0L];omega
 .simp [a0C,ByteArray.size,b0L];omega
end
section
attribute [local irreducible] a0q a0r a0j a0R
theorem c0Q (l:List Int):(a0C l).size=l.length:=by simp [a0C,ByteArray.size]
theorem q0f {n:Int} (h:0<=n) (h':n<=18446744073709551615):IntKind.u64.wrap n=n:=IntWalk.u64_in n ⟨h,h'⟩
def j0V (h:Int) (s:ByteArray):Nat->Int
 |0=>h
 |k+1=>IntKind.u64.wrap (b1n .u64 (j0V h s k) (a0e s (k:Int))*1099511628211)
theorem e1u (x:Int):0<=IntKind.u64.wrap x/\IntKind.u64.wrap x<18446744073709551616:=by
 have:IntKind.u64.wrap x=x%18446744073709551616:=by simp [IntKind.wrap,IntKind.bits,IntKind.signed]
 omega
theorem v0I {h:Int} (hh:0<=h/\h<18446744073709551616) (s:ByteArray):∀k,0<=j0V h s k/\j0V h s k<18446744073709551616
 |0=>hh
 |k+1=>e1u _
theorem j0W {a b:ByteArray} {i:Nat} (h:i<a.size):a0e (a++b) (i:Int)=a0e a (i:Int):=by
 unfold a0e;rw [y0u];congr 2;have h':i<a.data.toList.length:=by simpa using h
 simp only [j1M,h1Y,List.getD,v0f h']
theorem j0X {a b:ByteArray} {i:Nat}:a0e (a++b) ((a.size+i:Nat):Int)=a0e b (i:Int):=by
 unfold a0e;rw [y0u,y0u];congr 2;have h':a.data.toList.length=a.size:=by simp
 simp only [j1M,h1Y,List.getD];rw [v0k (by omega),h',i1M]
theorem o0s (h:Int) (a b:ByteArray):∀k,k<=a.size->j0V h (a++b) k=j0V h a k
 |0,_=>rfl
 |k+1,hk=>by simp only [j0V];rw [o0s h a b k (by omega),j0W (by omega)]
theorem o0t (h:Int) (a b:ByteArray):∀k,j0V h (a++b) (a.size+k)=j0V (j0V h a a.size) b k
 |0=>o0s h a b _ (m0D _)
 |k+1=>by
  rw [show a.size+(k+1)=(a.size+k)+1 from by omega];simp only [j0V];rw [o0t h a b k,j0X]
def beL (p:Int):Nat->List Int
 |0=> []
 |k+1=>beL p k++ [IntKind.u8.wrap (u0c .u64 p ((56-8*k:Nat):Int))]
theorem c0U (p:Int):∀k,(beL p k).length=k
 |0=>rfl
 |k+1=>by simp [beL,c0U p k]
def v0J (p:Int):ByteArray:=a0C (beL p 8)
theorem g0Z (p:Int):(v0J p).size=8:=by unfold v0J;rw [c0Q,c0U]
def beZ (p:Int) (k:Nat):List Int:=beL p k++List.replicate (8-k) 0
theorem c1h (p:Int) (k:Nat) (h:k<8):(beZ p k).set k (IntKind.u8.wrap (u0c .u64 p ((56-8*k:Nat):Int)))=beZ p (k+1):=by
 unfold beZ;rw [show 8-k=(8-(k+1))+1 from by omega,j1X,List.set_append_right _ _ (by rw [c0U];exact m0D _),c0U,h1P];simp [beL]
theorem c1i (p:Int):beZ p 8=beL p 8:=by unfold beZ;simp
def chI (p:Int) (s:ByteArray):Int:=j0V (j0V 14695981039346656037 (v0J p) 8) s s.size
theorem e1v (p:Int) (s:ByteArray):0<=chI p s/\chI p s<18446744073709551616:=v0I (v0I (by omega) _ _) _ _
theorem c1j (p:Int) (s:ByteArray):j0V 14695981039346656037 (v0J p++s) (8+s.size)=chI p s:=by
 have:=o0t 14695981039346656037 (v0J p) s s.size;rw [g0Z] at this;exact this
theorem l0D (p:Int) (s:ByteArray) (hs:s.size<=9223372036854775000):a0V Tryz.prog 81 [.int .u64 p,.str s] (.int .u64 (j0V p s s.size)):=by
 refine fEx Tryz.func81 ?_
 (conv=>whnf)
 refine a0o (fun k:Nat=>⟨[(0,.int .u64 (j0V p s k)),(1,.str s),(7,.int .i64 s.size),(8,.int .i64 k)],[],1⟩) (fun k=>k<=s.size) (fun k=>s.size-k) 0 [0] [] wHx (by omega) ?_;intro k hk;have bb:=g0K s (k:Int);repeat' ((conv=>whnf);first|refine a0a ?_|(apply bRx<;>intro h<;>try (exfalso;(try dsimp only at h);omega)))
 all_goals (conv=>whnf)
 .refine ⟨k+1,[0],[],by omega,by omega,⟨rfl,⟨?_,rfl,rfl,congrArg (fun z=>some (SV.int .i64 z)) (a0i (by omega)),trivial⟩,trivial⟩⟩;refine congrArg (fun z=>some (SV.int .u64 z)) ?_;show IntKind.u64.wrap (b1n .u64 (j0V p s k) (IntKind.u64.wrap (a0e s (k:Int)))*1099511628211)=j0V p s (k+1);have e1:IntKind.u64.wrap (a0e s (k:Int))=a0e s (k:Int):=q0f (by omega) (by omega);rw [e1];rfl
 .have e:k=s.size:=by omega
  subst e;exact a0d rfl
theorem y0S (s:ByteArray) (hs:s.size<=9223372036854775000):a0V Tryz.prog 82 [.str s] (.int .u64 (j0V 14695981039346656037 s s.size)):=by
 have c:=l0D 14695981039346656037 s hs;refine fEx Tryz.func82 ?_;repeat' ((conv=>whnf);first|refine cPx c ?_|refine a0a ?_|(apply bRx<;>intro h<;>try (exfalso;(try dsimp only at h);omega)))
 all_goals (conv=>whnf)
 exact a0d rfl
theorem y0T {k:Nat} (h:k<8):IntKind.i64.wrap (56-IntKind.i64.wrap (8*(k:Int)))=((56-8*k:Nat):Int):=by
 rw [a0m (n:=8*(k:Int)) (by omega) (by omega),a0m (by omega) (by omega)];omega
theorem o0u (p:Int) (s:ByteArray) (hs:s.size<=9223372036854775000):a0V Tryz.prog 41 [.int .u64 p,.str s] (.int .u64 (chI p s)):=by
 have c1:=y0S (v0J p) (by rw [g0Z];omega);have c2:=l0D (j0V 14695981039346656037 (v0J p) (v0J p).size) s hs;rw [g0Z] at c1 c2;unfold chI;refine fEx Tryz.func41 ?_;repeat' ((conv=>whnf);first|refine a0a ?_|(apply bRx<;>intro h<;>try (exfalso;(try dsimp only at h);omega)))
 all_goals (conv=>whnf)
 refine a0o (fun k:Nat=>⟨[(0,.int .u64 p),(1,.str s),(5,.sl 1 0 0 8),(9,.int .i64 8),(10,.int .i64 k)],[(1,some (.one false (.cols 8 [.sc (.ints .u8 (beZ p k))])))],2⟩) (fun k=>k<=8) (fun k=>8-k) 0 [0,1] [] wHx (by omega) ?_;intro k hk;by_cases hlt:k<8
 .have e:=y0T hlt;repeat' ((conv=>whnf);first|(refine a0g (show 0<=IntKind.i64.wrap (56-IntKind.i64.wrap (8*(k:Int))) from ?_) ?_;(rw [e];omega))|refine a0a ?_|(apply bRx<;>intro h<;>try (exfalso;(try dsimp only at h);omega)))
  all_goals (conv=>whnf)
  .refine ⟨k+1,[0,1],[],by omega,by omega,⟨rfl,⟨rfl,rfl,rfl,rfl,congrArg (fun z=>some (SV.int .i64 z)) (a0i (by omega)),trivial⟩,⟨?_,trivial⟩⟩⟩;refine congrArg (fun z=>some (HB.one false (.cols 8 [.sc (.ints .u8 z)]))) ?_;show (beZ p k).set k (IntKind.u8.wrap (u0c .u64 p (IntKind.i64.wrap (56-IntKind.i64.wrap (8*(k:Int))))))=_;rw [e];exact c1h p k hlt
 .have e:k=8:=by omega
  subst e;rw [show beZ p 8=beL p 8 from c1i p];have e8:a0C (seg 0 8 (beL p 8))=v0J p:=by
   unfold seg v0J;rw [j1d,i1D (by rw [c0U];exact m0D _)]
  rw [<-e8] at c1 c2;repeat' ((conv=>whnf);first|refine cPx c1 ?_|refine cPx c2 ?_|refine a0a ?_|(apply bRx<;>intro h<;>try (exfalso;(try dsimp only at h);omega)))
  all_goals (conv=>whnf)
  exact a0d (by rw [e8];rfl)
attribute [irreducible] chI
end
section
def e1w (c:Int):Bool:=decide ((97<=c/\c<=122)\/(65<=c/\c<=90)\/(48<=c/\c<=57)\/c=95\/c=45\/c=58)
def h0u (s:ByteArray):Bool:=decide (1<=s.size/\s.size<=40)&&(List.range s.size).all (fun i=>e1w (a0e s (i:Int)))
structure Le where
 id:ByteArray
 date:Int
 ps:List Lp
 np:Nat
abbrev le0:Le:=⟨⟨#[]⟩,0,[],0⟩
theorem e1x (l:List Le) (k:Nat):(l.map Le.id).getD k ⟨#[]⟩=(l.getD k le0).id:=by
 rw [List.getD,List.getD,v0g];cases l[k]?<;>rfl
theorem c1k (l:List Le) (k:Nat):(l.map Le.date).getD k 0=(l.getD k le0).date:=by
 rw [List.getD,List.getD,v0g];cases l[k]?<;>rfl
theorem c1l (l:List Le) (k:Nat):(l.map Le.np).getD k 0=(l.getD k le0).np:=by
 rw [List.getD,List.getD,v0g];cases l[k]?<;>rfl
def poT (p:Lp):ByteArray:=⟨#[124]⟩++p.a++⟨#[47]⟩++b0S p.n++⟨#[47]⟩++p.c
def leT (e:Le):Nat->ByteArray
 |0=>e.id++⟨#[124]⟩++b0S e.date
 |k+1=>leT e k++poT (e.ps.getD k lp0)
structure Lg where
 na:Nat
 acc:List ByteArray
 ne:Nat
 ent:List Le
 ns:Nat
 st:List ByteArray
 bal:ByteArray->ByteArray->Int
 dig:Int
abbrev Lg.ids (s:Lg):List ByteArray:=s.ent.map Le.id
abbrev inL (a:ByteArray) (l:List ByteArray):Prop:=a0l l a<l.length
theorem f0T {a:ByteArray} {l:List ByteArray}:inL a l↔a∈l:=sidx_lt
def poE (acc:List ByteArray):List Lp->Int
 | []=>0
 |p::L=>if inL p.a acc then (if e0q p.n p.c=0 then poE acc L else e0q p.n p.c) else 6
def q0g (bal:ByteArray->ByteArray->Int) (L:List Lp):Bool:=(chR L L.length).all (fun x=>decide (-4503599627370496<=bal x.a x.c+x.n/\bal x.a x.c+x.n<=4503599627370496))
def lgE (s:Lg) (e:Le):Int:=
 if h0u e.id=false then 5 else if e.date<0\/99999<e.date then 14 else if inL e.id s.ids then 7 else if e.np<1\/16<e.np then 4
 else if poE s.acc e.ps≠0 then poE s.acc e.ps else if h0Q e.ps=false then 26 else if q0g s.bal e.ps=false then 4 else if 512<=s.ne then 12 else 0
def lgP (s:Lg) (e:Le):Lg:= { s with ne:=s.ne+1,ent:=s.ent++ [e],bal:=fun a c=>s.bal a c+lgS e.ps a c,dig:=chI s.dig (leT e e.np)}
structure EntOk (acc:List ByteArray) (e:Le):Prop where
 id:h0u e.id=true
 d:0<=e.date/\e.date<=99999
 n:e.ps.length=e.np
 n1:1<=e.np
 n16:e.np<=16
 ps:poE acc e.ps=0
 b:h0Q e.ps=true
def m0Q (L:List Le):List Lp:=L.flatMap Le.ps
structure LgOk (s:Lg):Prop where
 na:s.acc.length=s.na
 n512:s.na<=512
 nd:s.acc.Nodup
 lab:∀a∈s.acc,h0u a=true
 ne:s.ent.length=s.ne
 e512:s.ne<=512
 ids:s.ids.Nodup
 ent:∀e∈s.ent,EntOk s.acc e
 ns:s.st.length=s.ns
 n2:s.ns<=2*s.ne
 st:∀x∈s.st,x∈s.ids
 bal:∀a c,s.bal a c=lgS (m0Q s.ent) a c
 rng:∀a c,-4503599627370496<=s.bal a c/\s.bal a c<=4503599627370496
 dig:0<=s.dig/\s.dig<18446744073709551616
theorem c0z {s:ByteArray} (h:h0u s=true):1<=s.size/\s.size<=40:=by
 unfold h0u at h;rw [k0P] at h;exact of_decide_eq_true h.1
theorem d0t {acc:List ByteArray}:∀{L:List Lp},poE acc L=0↔∀p∈L,p.a∈acc/\e0q p.n p.c=0
 | []=>by simp [poE]
 |p::L=>by
  have ih:=d0t (acc:=acc) (L:=L);simp only [poE,v0e,forall_eq_or_imp];by_cases h1:inL p.a acc
  .rw [if_pos h1];by_cases h2:e0q p.n p.c=0
   .rw [if_pos h2,ih];exact ⟨fun h=>⟨⟨f0T.1 h1,h2⟩,h⟩,fun h=>h.2⟩
   .rw [if_neg h2];exact ⟨fun h=>absurd h h2,fun h=>absurd h.1.2 h2⟩
  .rw [if_neg h1];exact ⟨fun h=>absurd h (by decide),fun h=>absurd (f0T.2 h.1.1) h1⟩
theorem e0Y {a:Int} {c:ByteArray} (h:e0q a c=0):d0k c=true/\-4503599627370496<=a/\a<=4503599627370496:=by
 rcases m0O a c with (h'|h')|h'
 .omega
 .omega
 .exact h'.2
theorem y0U {a:Int} {c:ByteArray} (h:e0q a c=0):e0q (-a) c=0:=by
 obtain ⟨h1,h2,h3⟩:=e0Y h;unfold e0q;rw [if_neg (by rw [h1];decide),if_pos (by omega)]
theorem r0P {acc:List ByteArray} {L:List Lp} (h:poE acc L=0):v0F L:=fun x hx=>(e0Y (d0t.1 h x hx).2).2
theorem i0G {s:Lg} {e:Le} (hn:e.ps.length=e.np) (h:lgE s e=0):EntOk s.acc e/\e.id∉s.ids/\q0g s.bal e.ps=true/\s.ne<512:=by
 unfold lgE at h;split at h
 .cases h
 rename_i h1;split at h
 .cases h
 rename_i h2;split at h
 .cases h
 rename_i h3;split at h
 .cases h
 rename_i h4;split at h
 .rename_i h5;exact absurd h h5
 rename_i h5;split at h
 .cases h
 rename_i h6;split at h
 .cases h
 rename_i h7;split at h
 .cases h
 rename_i h8;exact ⟨⟨by simpa using h1,by omega,hn,by omega,by omega,i1l.1 h5,by simpa using h6⟩,fun h=>h3 (f0T.2 h),by simpa using h7,by omega⟩
theorem e1y {s:Lg} {e:Le} (h:EntOk s.acc e) (h1:e.id∉s.ids) (h2:q0g s.bal e.ps=true) (h3:s.ne<512):lgE s e=0:=by
 obtain ⟨k1,k2,k3,k4,k5,k6,k7⟩:=h;unfold lgE;rw [if_neg (by rw [k1];decide),if_neg (by omega),if_neg (fun h=>h1 (f0T.1 h)),if_neg (by omega),if_neg (fun h=>h k6),if_neg (by rw [k7];decide),if_neg (by rw [h2];decide),if_neg (by omega)]
theorem c1m {R:List Lp} {a c:ByteArray} (h:R.length<=lgI R a c):lgV R a c=0:=by
 unfold lgV;rw [List.getD,p0J h];rfl
theorem v0K {a c:ByteArray}:∀{R:List Lp},lgI R a c<R.length->(R.getD (lgI R a c) lp0).a=a/\(R.getD (lgI R a c) lp0).c=c
 | [],h=>absurd h (h1E _)
 |x::R,h=>by
  rw [i0F] at h⊢;split
  .rename_i hk;exact hk
  .rename_i hk;rw [if_neg hk] at h;rw [i1w];exact v0K (by simpa using h)
theorem v0L {bal:ByteArray->ByteArray->Int} {L:List Lp} (h:q0g bal L=true) (hb:∀a c,-4503599627370496<=bal a c/\bal a c<=4503599627370496) (a c:ByteArray): -4503599627370496<=bal a c+lgS L a c/\bal a c+lgS L a c<=4503599627370496:=by
 have hv:lgV (chR L L.length) a c=lgS L a c:=by rw [g0i a c L.length (m0D _),e1e]
 rcases a1K (lgI (chR L L.length) a c) (chR L L.length).length with hi|hi
 .obtain ⟨e1,e2⟩:=v0K hi;unfold q0g at h;rw [h1D] at h;have hm:(chR L L.length).getD (lgI (chR L L.length) a c) lp0∈chR L L.length:=by rw [List.getD,j0I hi];exact b1P hi
  have:=of_decide_eq_true (h _ hm);rw [e1,e2] at this;unfold lgV at hv;rw [hv] at this;exact this
 .rw [c1m hi] at hv;rw [<-hv,i1Z];exact hb a c
theorem e1z {bal:ByteArray->ByteArray->Int} {L:List Lp} (h:∀a c,-4503599627370496<=bal a c+lgS L a c/\bal a c+lgS L a c<=4503599627370496):q0g bal L=true:=by
 unfold q0g;rw [h1D];intro x hx;obtain ⟨i,hi,rfl⟩:=h1A hx;have e:=q0e (g0V L L.length) hi;rw [List.getD,j0I hi] at e;dsimp only [Option.getD_some] at e;rw [g0i _ _ _ (m0D _),e1e] at e;have:=h (chR L L.length)[i].a (chR L L.length)[i].c;rw [e] at this;exact decide_eq_true this
theorem r0Q (A:List Le) (e:Le):m0Q (A++ [e])=m0Q A++e.ps:=by unfold m0Q;rw [List.flatMap_append];simp
theorem v0M {s:Lg} {e:Le} (h:LgOk s) (hn:e.ps.length=e.np) (h0:lgE s e=0):LgOk (lgP s e):=by
 obtain ⟨k1,k2,k3,k4⟩:=i0G hn h0;refine ⟨h.na,h.n512,h.nd,h.lab,?_,?_,?_,?_,h.ns,?_,?_,?_,?_,e1v _ _⟩
 .show (s.ent++ [e]).length=s.ne+1;rw [y0A,h.ne];rfl
 .show s.ne+1<=512;omega
 .show ((s.ent++ [e]).map Le.id).Nodup;rw [f1T];exact h1Z.2 ⟨h.ids,by simp,fun a ha b hb e'=>by simp at hb;subst hb;subst e';exact k2 ha⟩
 .intro x hx;rcases e1n.1 (show x∈s.ent++ [e] from hx) with hx|hx
  .exact h.ent x hx
  .rw [y0E.1 hx];exact k1
 .show s.ns<=2*(s.ne+1);have:=h.n2;omega
 .intro x hx;show x∈(s.ent++ [e]).map Le.id;rw [f1T];exact i1I _ (h.st x hx)
 .intro a c;show s.bal a c+lgS e.ps a c=lgS (m0Q (s.ent++ [e])) a c;rw [r0Q,h0P,h.bal]
 .exact v0L k3 h.rng
theorem e1A {s:Lg} (h:LgOk s) {id:ByteArray} (hi:id∈s.ids):s.ent.getD (a0l s.ids id) le0∈s.ent/\(s.ent.getD (a0l s.ids id) le0).id=id:=by
 have hlt:=sidx_lt.2 hi;have h2:=sidx_get hlt;have hl:a0l s.ids id<s.ent.length:=by simpa using hlt
 refine ⟨by rw [List.getD,j0I hl];exact b1P hl,?_⟩;rw [<-e1x,List.getD,h2];rfl
attribute [irreducible] h0u
end
section
attribute [local irreducible] a0q a0r a0j a0R
theorem v0N {s:ByteArray} {k:Nat} (h:k<s.size) (hc:¬((97<=a0e s (k:Int)/\a0e s (k:Int)<=122)\/(65<=a0e s (k:Int)/\a0e s (k:Int)<=90)\/(48<=a0e s (k:Int)/\a0e s (k:Int)<=57)\/a0e s (k:Int)=95\/a0e s (k:Int)=45\/a0e s (k:Int)=58)):h0u s=false:=by
 cases e:h0u s with
 |false=>rfl
 |true=>
  unfold h0u at e;rw [k0P,h1D] at e;exact absurd (of_decide_eq_true (e.2 k (by simpa using h))) hc
theorem o0v {s:ByteArray} (h:s.size<1\/40<s.size):h0u s=false:=by
 cases e:h0u s with
 |false=>rfl
 |true=>have:=c0z e;omega
def v0O (s:ByteArray) (k:Nat):Prop:=∀i,i<k->e1w (a0e s (i:Int))=true
theorem l0E {s:ByteArray} {k:Nat} (h:v0O s k) (hc:(97<=a0e s (k:Int)/\a0e s (k:Int)<=122)\/(65<=a0e s (k:Int)/\a0e s (k:Int)<=90)\/(48<=a0e s (k:Int)/\a0e s (k:Int)<=57)\/a0e s (k:Int)=95\/a0e s (k:Int)=45\/a0e s (k:Int)=58):v0O s (k+1):=by
 intro i hi;by_cases e:i=k
 .subst e;unfold e1w;exact decide_eq_true hc
 .exact h i (by omega)
theorem r0R {s:ByteArray} (h1:1<=s.size) (h2:s.size<=40) (h:v0O s s.size):h0u s=true:=by
 unfold h0u;rw [decide_eq_true ⟨h1,h2⟩,h1i,h1D];exact fun i hi=>h i (by simpa using hi)
theorem l0F (s:ByteArray):a0V Tryz.prog 51 [.str s] (.bool (h0u s)):=by
 by_cases h:s.size<1\/40<s.size
 .rw [o0v h];refine fEx Tryz.func51 ?_;repeat' ((conv=>whnf);first|refine a0a ?_|(apply bRx<;>intro h<;>try (exfalso;(try dsimp only at h);omega)))
  all_goals (conv=>whnf)
  all_goals first
   |exact a0d rfl
   |(exfalso;omega)
 refine fEx Tryz.func51 ?_;repeat' ((conv=>whnf);first|refine a0a ?_|(apply bRx<;>intro h<;>try (exfalso;(try dsimp only at h);omega)))
 all_goals (conv=>whnf)
 all_goals first
  |(exfalso;omega)
  |skip
 refine a0o (fun k:Nat=>⟨[(0,.str s),(3,.int .i64 k)],[],1⟩) (fun k=>k<=s.size/\v0O s k) (fun k=>s.size-k) 0 [0] [] wHx ⟨by omega,fun i hi=>by omega⟩ ?_;rintro k ⟨hk,hc⟩;repeat' ((conv=>whnf);first|refine a0a ?_|(apply bRx<;>intro h<;>try (exfalso;(try dsimp only at h);omega)))
 all_goals (conv=>whnf)
 all_goals first
  |exact a0d (by rw [v0N (k:=k) (by omega) (by omega)];rfl)
  |exact ⟨k+1,[0],[],⟨by omega,l0E hc (by omega)⟩,by omega,⟨rfl,⟨rfl,congrArg (fun z=>some (SV.int .i64 z)) (a0i (by omega)),trivial⟩,trivial⟩⟩
  |skip
 have e:k=s.size:=by omega
 subst e;exact a0d (by rw [r0R (by omega) (by omega) hc];rfl)
abbrev t0C (n:Nat) (R:List Lp):Blk:= .obj (.map true false n [.strs (R.map Lp.a),.strs (R.map Lp.c)] [.sc (.ints .i64 (R.map Lp.n))] (List.range n) n)
theorem j0Y {α β:Type} (f:α->β) (i:Nat) (x:α) (l:List α):(a0U i x l).map f=a0U i (f x) (l.map f):=by
 unfold a0U;by_cases h:i<l.length
 .rw [if_pos h,if_pos (by simpa using h),List.map_set]
 .rw [if_neg h,if_neg (by simpa using h)];simp
theorem v0P {ix r:Nat} (h:ix<=r):0<=(((if ix<r then (List.range r).getD ix 0 else r:Nat)):Int)/\(((if ix<r then (List.range r).getD ix 0 else r:Nat)):Int).toNat∈(if ix<r then List.range r else List.range r++ [r]):=by
 refine ⟨Int.natCast_nonneg _,?_⟩;rw [y0u];by_cases e:ix<r
 .rw [if_pos e,if_pos e];simp [List.getD,e]
 .rw [if_neg e,if_neg e];simp
theorem a1O {i r:Nat} (h:i<r):(List.range r).idxOf i=i:=by
 have hl:(List.range r).idxOf i<(List.range r).length:=List.idxOf_lt_length_of_mem (by simpa using h);have h2:=List.getElem_idxOf hl
 rwa [List.getElem_range] at h2
theorem r0S (R:List Lp) (a c:ByteArray):(R.map Lp.n).getD (b0Y (R.map Lp.a) (R.map Lp.c) a c) 0=lgV R a c:=y0N R _
theorem e1B {R:List Lp} {r:Nat} (hR:R.length=r) {a c:ByteArray} {v m:Int} (hv:v=lgV R a c+m) {ix:Nat} (hix:b0Y (R.map Lp.a) (R.map Lp.c) a c=ix):
  (some (HB.one false (.obj (.map true false (if ix<r then r else r+1) [.strs (a0U ix a (R.map Lp.a)),.strs (a0U ix c (R.map Lp.c))] [.sc (.ints .i64 (a0U ((if ix<r then List.range r else List.range r++ [r]).idxOf (((if ix<r then (List.range r).getD ix 0 else r:Nat)):Int).toNat) v (a0U ix ((R.map Lp.n).getD ix 0) (R.map Lp.n))))] (if ix<r then List.range r else List.range r++ [r]) (if ix<r then r else r+1)))):Option HB)
   =some (.one false (t0C (e0W R ⟨a,m,c⟩).length (e0W R ⟨a,m,c⟩))):=by
 subst hv;have hl:ix<=r:=by rw [<-hix,<-hR];exact r0M a c R
 have e:e0W R ⟨a,m,c⟩=a0U ix ⟨a,lgV R a c+m,c⟩ R:=by unfold e0W lgI;rw [hix]
 rw [e,c0N,hR];have h1:(if ix<r then List.range r else List.range r++ [r])=List.range (if ix<r then r else r+1):=by
  split
  .rfl
  .exact i1Q.symm
 have h2:(List.range (if ix<r then r else r+1)).idxOf (((if ix<r then (List.range r).getD ix 0 else r:Nat)):Int).toNat=ix:=by
  rw [y0u];by_cases hx:ix<r
  .rw [if_pos hx,if_pos hx,show (List.range r).getD ix 0=ix by simp [List.getD,hx],a1O hx]
  .have:ix=r:=by omega
   rw [if_neg hx,if_neg hx,a1O (by omega),this]
 have h3:a0U ix (lgV R a c+m) (a0U ix ((R.map Lp.n).getD ix 0) (R.map Lp.n))=a0U ix (lgV R a c+m) (R.map Lp.n):=by
  have hn:(R.map Lp.n).length=r:=by rw [b1M,hR]
  by_cases hx:ix<r
  .rw [g0X (i:=ix) (l:=R.map Lp.n) (by omega),g0X (by rw [h1N];omega),g0X (i:=ix) (l:=R.map Lp.n) (by omega),List.set_set]
  .have:ix=r:=by omega
   subst this;rw [b0V hn,b0V hn,g0X (by simp [hn]),List.set_append_right _ _ (by omega)];simp [hn]
 rw [h1,h2,h3];unfold t0C;rw [j0Y,j0Y,j0Y]
theorem j0Z (L:List Lp) (k:Nat):L.getD k lp0=⟨(L.map Lp.a).getD k ⟨#[]⟩,(L.map Lp.n).getD k 0,(L.map Lp.c).getD k ⟨#[]⟩⟩:=by
 rw [f1D,y0N,c1d]
theorem v0Q {L:List Lp} (hb:v0F L) (k:Nat): -4503599627370496<=(L.getD k lp0).n/\(L.getD k lp0).n<=4503599627370496:=by
 rcases a1K k L.length with h|h
 .rw [List.getD,j0I h];exact hb _ (b1P h)
 .rw [List.getD,p0J h];exact ⟨by decide,by decide⟩
theorem l0G (L:List Lp) (n:Nat) (hn:L.length=n) (h16:n<=16) (hb:v0F L):FC Tryz.prog 2 245 [.sl 1 0 0 n] [(1,some (.one true (poB n L)))] (a0f (.map 2 0) [(2,some (.one false (t0C (chR L n).length (chR L n))))] 3):=by
 unfold poB;refine fEx Tryz.func245 ?_;repeat' ((conv=>whnf);first|refine a0a ?_|(apply bRx<;>intro h<;>try (exfalso;(try dsimp only at h);omega)))
 all_goals (conv=>whnf)
 refine a0o (fun k:Nat=>⟨[(3,.map 2 0),(7,.sl 1 0 0 n),(8,.int .i64 n),(9,.int .i64 k)],[(1,some (.one true (poB n L))),(2,some (.one false (t0C (chR L k).length (chR L k))))],3⟩) (fun k=>k<=n) (fun k=>n-k) 0 [0,1,2] [] wHx (z0h _) ?_;intro k hk;unfold poB;by_cases hk2:k<n
 .have hv0:=v0G (j0S hb k) ((L.map Lp.a).getD k ⟨#[]⟩) ((L.map Lp.c).getD k ⟨#[]⟩);rw [<-g0i _ _ k (by omega),d1I] at hv0;have hb1:=v0Q hb k;rw [<-y0N] at hb1;have hst:chR L (k+1)=e0W (chR L k) ⟨(L.map Lp.a).getD k ⟨#[]⟩,(L.map Lp.n).getD k 0,(L.map Lp.c).getD k ⟨#[]⟩⟩:=by rw [<-j0Z];rfl
  have hl:=r0M ((L.map Lp.a).getD k ⟨#[]⟩) ((L.map Lp.c).getD k ⟨#[]⟩) (chR L k);have hrow:=e1B (R:=chR L k) rfl (a:=(L.map Lp.a).getD k ⟨#[]⟩) (c:=(L.map Lp.c).getD k ⟨#[]⟩) (m:=(L.map Lp.n).getD k 0) (v:=IntKind.i64.wrap (((chR L k).map Lp.n).getD (b0Y ((chR L k).map Lp.a) ((chR L k).map Lp.c) ((L.map Lp.a).getD k ⟨#[]⟩) ((L.map Lp.c).getD k ⟨#[]⟩)) 0+(L.map Lp.n).getD k 0)) (by rw [r0S];exact a0m (by omega) (by omega)) rfl;rw [<-hst] at hrow;repeat' ((conv=>whnf);first|(refine ⟨v0P hl,?_⟩)|refine a0a ?_|(apply bRx<;>intro h<;>try (exfalso;(try dsimp only at h);omega)))
  all_goals (conv=>whnf)
  all_goals first
   |exact ⟨k+1,[0,1,2],[],hk2,(show n-(k+1)<n-k by omega),⟨rfl,⟨rfl,rfl,rfl,congrArg (fun z=>some (SV.int .i64 z)) (a0i (by omega)),trivial⟩,⟨rfl,hrow,trivial⟩⟩⟩
   |(exfalso;omega)
 have ek:k=n:=by omega
 subst ek;repeat' ((conv=>whnf);first|refine a0a ?_|(apply bRx<;>intro h<;>try (exfalso;(try dsimp only at h);omega)))
 all_goals (conv=>whnf)
 all_goals first
  |exact rOx [0,1,2] (a0c a0b)
  |(exfalso;omega)
theorem t0D {L:List Lp} {k n:Nat} {C:List ByteArray} {W:List Int} (hI:LgM L k n C W) (c:ByteArray):W.getD (a0l C c) 0=lgC (L.take k) c:=by
 rw [<-hI.all c];split
 .rfl
 .rename_i h;rw [List.getD,p0J (by have:=hI.w;omega)];rfl
theorem v0R (i m:Nat):(if i<m then List.range m else List.range m++ [m])=List.range (if i<m then m else m+1):=by
 split
 .rfl
 .exact i1Q.symm
theorem q0h (L:List Lp) (n:Nat) (hn:L.length=n) (h16:n<=16) (hb:v0F L):FC Tryz.prog 2 250 [.sl 1 0 0 n] [(1,some (.one true (poB n L)))] (a0f (.bool (h0Q L)) [] 2):=by
 unfold poB;refine fEx Tryz.func250 ?_;repeat' ((conv=>whnf);first|refine a0a ?_|(apply bRx<;>intro h<;>try (exfalso;(try dsimp only at h);omega)))
 all_goals (conv=>whnf)
 refine a0o (fun x:Nat×Nat×List ByteArray×List Int=>⟨[(3,.map 2 0),(9,.sl 1 0 0 n),(10,.int .i64 n),(11,.int .i64 x.1)],[(1,some (.one true (poB n L))),(2,some (.one false (.obj (.map false false x.2.1 [.strs x.2.2.1] [.sc (.ints .i64 x.2.2.2)] (List.range x.2.1) x.2.1))))],3⟩) (fun x=>x.1<=n/\x.2.1<=x.1/\LgM L x.1 x.2.1 x.2.2.1 x.2.2.2) (fun x=>n-x.1) (0,0,[],[]) [0,1,2] [] wHx ⟨z0h _,m0D _,y0P L⟩ ?_;rintro ⟨k,m,C,W⟩ ⟨hk,hm,hI⟩;dsimp only at hk hm hI⊢;unfold poB;by_cases hk2:k<n
 .have hv0:=e1t (j0S hb k) ((L.map Lp.c).getD k ⟨#[]⟩);rw [d1I,j1S (by omega)] at hv0;have hb1:=v0Q hb k;have hw:=t0D hI ((L.map Lp.c).getD k ⟨#[]⟩);have hvv:IntKind.i64.wrap (W.getD (a0l C ((L.map Lp.c).getD k ⟨#[]⟩)) 0+(L.map Lp.n).getD k 0)=lgC (L.take k) (L.getD k lp0).c+(L.getD k lp0).n:=by
   rw [hw,y0N,<-c1d];exact a0m (by omega) (by omega)
  have hI2:=y0Q hI (by omega) _ hvv;have hc0:=c1d L k;rw [<-hc0] at hI2;have hst:=v0R (a0l C ((L.map Lp.c).getD k ⟨#[]⟩)) m;repeat' ((conv=>whnf);first|refine a0a ?_|(apply bRx<;>intro h<;>try (exfalso;(try dsimp only at h);omega)))
  all_goals (conv=>whnf)
  all_goals try (exfalso;omega)
  refine ⟨(k+1,(if a0l C ((L.map Lp.c).getD k ⟨#[]⟩)<m then m else m+1),a0U (a0l C ((L.map Lp.c).getD k ⟨#[]⟩)) ((L.map Lp.c).getD k ⟨#[]⟩) C,a0U (a0l C ((L.map Lp.c).getD k ⟨#[]⟩)) (IntKind.i64.wrap (W.getD (a0l C ((L.map Lp.c).getD k ⟨#[]⟩)) 0+(L.map Lp.n).getD k 0)) W),[0,1,2],[],⟨hk2,(by dsimp only;split<;>omega),hI2⟩,(show n-(k+1)<n-k by omega),⟨rfl,⟨rfl,rfl,rfl,congrArg (fun z=>some (SV.int .i64 z)) (a0i (by omega)),trivial⟩,⟨rfl,?_,trivial⟩⟩⟩;dsimp only;rw [<-hst];rfl
 have ek:k=n:=by omega
 subst ek;have hI2:LgM L L.length m C W:=by rw [hn];exact hI
 repeat' ((conv=>whnf);first|refine a0a ?_|(apply bRx<;>intro h<;>try (exfalso;(try dsimp only at h);omega)))
 all_goals (conv=>whnf)
 all_goals first
  |(exfalso;omega)
  |skip
 refine a0o (fun sn:List Nat=>⟨[(3,.map 2 0),(26,.ptr 3 0 0 0)],[(2,some (.one false (.obj (.map false false m [.strs C] [.sc (.ints .i64 W)] (List.range m) m)))),(3,some (.one false (.obj (.iter 2 0 (List.range m) m sn))))],4⟩) (fun sn=>sn.Nodup/\(∀i∈sn,i<m)/\∀i∈sn,W.getD i 0=0) (fun sn=>m-sn.length) [] [0,1,2,3] [] wHx ⟨h1M,by simp,by simp⟩ ?_;rintro sn ⟨hd,hl,hz⟩;repeat' ((conv=>whnf);first|(refine ⟨⟨rfl,rfl⟩,fun x hx hnx=> ?_,fun hall=> ?_⟩)|refine a0a ?_|(apply bRx<;>intro h<;>try (exfalso;(try dsimp only at h);omega)))
 all_goals (conv=>whnf)
 .refine a0H (l:= [0,1]) rfl ?_ trivial a0b;rw [e1s hI2 hx h];rfl
 .have:=c0k hd hl hx hnx;refine ⟨x::sn,[0,1,2,3],[],⟨h1t.2 ⟨hnx,hd⟩,fun y hy=> ?_,fun y hy=> ?_⟩,by simp only [y0x];omega,⟨rfl,⟨rfl,rfl,trivial⟩,⟨rfl,rfl,trivial⟩⟩⟩
  .rcases v0e.1 hy with rfl|hy
   .exact hx
   .exact hl y hy
  .rcases v0e.1 hy with rfl|hy
   .exact h
   .exact hz y hy
 .refine a0H (l:= [0,1]) rfl ?_ trivial a0b;rw [f1Y hI2 (fun i hi=>hz i (hall i hi))];rfl
end
section
open Go.RowKit Go.Sy Go.Proofs
def y0V (w:World) (e:TypeId) (v:Value) (s:ByteArray):Prop:=
 (v= .slice none 0 0/\s=⟨#[]⟩)\/∃g cap cur,v= .slice (some ⟨g,0,none⟩) s.size cap/\w.heap[g]? =some (.cells cur e (0,0))/\cur.size=cap/\s.size<=cap/\cap<=maxLen/\cur.toList.take s.size=Lib.strCells s
def v0S (w w':World) (e:TypeId) (v v':Value) (s:ByteArray):Prop:=
 ∃g cap cur,v'= .slice (some ⟨g,0,none⟩) s.size cap/\w'.heap[g]? =some (.cells cur e (0,0))/\cur.size=cap/\s.size<=cap/\cap<=maxLen/\cur.toList.take s.size=Lib.strCells s/\(w.heap.size<=g\/v.ownBlock=some g)
theorem e0Z (a b:ByteArray):Lib.strCells (a++b)=Lib.strCells a++Lib.strCells b:=by
 rw [i1R,i1R,i1R,<-Lib.byteCells_append];simp
theorem c1n {P:Program} (w:World) (t u ty e:TypeId) (i:TypeInfo) (ht:P.underlying t=some (.slice e)) (hu:P.underlying u=some .string) (hi:P.info? e=some i) (hz:i.zero=some (.int .u8 0)) (hsize:i.size=1) (hby:i.bytes=1)
  (v:Value) (s0 s:ByteArray) (hv:y0V w e v s0) (h0:0<s.size) (hb:s0.size+s.size<=1000000000):
  ∃v' w',(Builtin.append_ #[t,u] ty #[v,.string s]).run P w= .ok v' w'/\v0S w w' e v v' (s0++s)/\w.grownBy w' v.ownBlock:=by
 have hsz:(s0++s).size=s0.size+s.size:=by simp
 have hcl:∀x:ByteArray,(Lib.strCells x).length=x.size:=Lib.strCells_length;have mx:maxLen=maxLen:=rfl;have grown:∀(W:World) (xs:List Value) (n old:Nat),W.heap.size=w.heap.size->xs=Lib.strCells (s0++s)->n=s0.size+s.size->∀cur:Array Value,cur=xs.toArray++Builtin.zeroCells (Value.int .u8 0).cells (grownCap w n old e-n)->
   cur.size=grownCap w n old e/\(s0++s).size<=grownCap w n old e/\grownCap w n old e<=maxLen/\cur.toList.take (s0++s).size=Lib.strCells (s0++s):=by
  intro W xs n old _ hxs hn cur hcur;have hge:=grownCap_ge w n old e;have hcm:grownCap w n old e<=maxLen:=grownCap_le_maxLen w n old e (by unfold maxLen;omega);have hz1:(Value.int IntKind.u8 0).cells.size=1:=rfl;refine ⟨?_,by omega,hcm,?_⟩
  .rw [hcur,hxs];simp only [i1k,i1W,size_zeroCells,hz1,hcl,hsz];omega
  .rw [hcur,hxs];simp only [h1Y];rw [<-hcl (s0++s)];exact List.take_left
 rcases hv with ⟨rfl,rfl⟩|⟨g,cap,cur,rfl,hg,hcs,hnc,hcm,htake⟩
 .have hr:=run_append_nil_string (P:=P) w t u ty e i (.int .u8 0) ht hu hi hz s (by omega) (by omega) (by rw [hby];omega);have e1:(s.data.map fun b=>Value.int .u8 b.toNat)=(Lib.strCells s).toArray:=by
   apply Array.ext';simp [Lib.strCells]
  rw [e1] at hr;have hs:(⟨#[]⟩:ByteArray)++s=s:=by apply ByteArray.ext;simp
  obtain ⟨k1,k2,k3,k4⟩:=grown w (Lib.strCells s) s.size 0 rfl (by rw [hs]) (by show s.size=0+s.size;omega) _ rfl;rw [hs] at k2 k4;refine ⟨_,_,hr,⟨w.heap.size,_,_,by rw [hs],heap_alloc_new w.drew _,k1,by rw [hs];exact k2,k3,by rw [hs];exact k4,.inl (m0D _)⟩,⟨rfl,rfl,rfl,by simp,fun k hk _=>heap_alloc_old w.drew _ hk⟩⟩
 .by_cases hroom:s0.size+s.size<=cap
  .have hr:=Lib.run_append_room_string (P:=P) w t u ty e i ht hu hi hsize g s0.size cap cur hg s hroom (by omega);refine ⟨_,_,hr,⟨g,cap,_,by rw [hsz],setRow_heap w g cur _ e _ hg,?_,by rw [hsz];exact hroom,hcm,?_,.inr rfl⟩,⟨rfl,rfl,rfl,by simp,fun k _ hk=>setRow_other w g k _ (fun e=>hk (by simp [Value.ownBlock,e]))⟩⟩
   .simp only [i1W,y0A,d1I,h1k,h1H,hcl];omega
   .rw [htake,<-e0Z,<-hcl (s0++s)];exact List.take_left
  .have holds:∀j u,(Lib.strCells s0)[j]? =some u->w.cell? ((⟨g,0,none⟩:Addr).add j)=some u:=by
    intro j u hj;rw [<-htake,h1F] at hj;split at hj
    .have ea:((⟨g,0,none⟩:Addr).add j)=⟨g,j,none⟩:=by
      unfold Addr.add;split
      .rename_i e;subst e;rfl
      .simp
     rw [ea,h1w hg];simpa using hj
    .cases hj
   have hr:=Lib.run_append_grow_string (P:=P) w t u ty e i (.int .u8 0) ht hu hi hz ⟨g,0,none⟩ s0.size cap (Lib.strCells s0) (by rw [hsize,hcl];simp) holds s (by omega) (by omega) (by rw [hby];exact growslice_fits (by omega) (by omega));obtain ⟨k1,k2,k3,k4⟩:=grown w (Lib.strCells (s0++s)) (s0.size+s.size) cap rfl rfl rfl _ rfl;have e2:(Lib.strCells s0).toArray++(Lib.strCells s).toArray=(Lib.strCells (s0++s)).toArray:=by rw [e0Z];simp
   rw [e2] at hr;exact ⟨_,_,hr,⟨w.heap.size,_,_,by rw [hsz],heap_alloc_new w.drew _,k1,k2,k3,k4,.inl (m0D _)⟩,⟨rfl,rfl,rfl,by simp,fun k hk _=>heap_alloc_old w.drew _ hk⟩⟩
theorem t0E {P:Program} {ops:Array Oper} {rest:List Oper} {o:Oper} {a:Act} {Q:Exit->Act->World->Prop} {w:World} (hgd:o.guard=none) (sl x:Operand) (t u:TypeId)
  (ho:o.op= .call { callee:= .builtin .append,args:= #[sl,x],argTypes:= #[t,u]})
  (e:TypeId) (i:TypeInfo) (ht:P.underlying t=some (.slice e)) (hu:P.underlying u=some .string) (hi:P.info? e=some i) (hz:i.zero=some (.int .u8 0))
  (hsize:i.size=1) (hby:i.bytes=1)
  (v:Value) (s0 s:ByteArray) (hs:a.eval sl=v) (hv:y0V w e v s0) (hx:a.eval x= .string s) (h0:0<s.size) (hb:s0.size+s.size<=1000000000)
  (h:∀v' w',v0S w w' e v v' (s0++s)->w.grownBy w' v.ownBlock->wpList P ops Q rest (a.put o.dst v') w'):wpList P ops Q (o::rest) a w:=by
 refine wpList_plain hgd fun K hK=> ?_
 obtain ⟨v',w',hr,h2,h3⟩:=c1n (P:=P) w t u o.type e i ht hu hi hz hsize hby v s0 s hv h0 hb;unfold Oper.wp execOp;simp only [ho,resolve,invoke,builtin,x0G,b1T,o0z,List.map_toArray,e1F,h1W,hs,hx,hr];exact hK _ _ (h v' w' h2 h3)
theorem a1P:(Tryz.prog.info? 95).map (·.size)=some 2:=by kernel_rfl
theorem e1C:liesAt Tryz.prog Tryz.prog.depth 95 (2/Tryz.prog.cellsOf 95) 0 95 1=true:=by kernel_rfl
theorem c1o:Tryz.prog.underlying 92=some (.pointer 95):=by kernel_rfl
theorem e1D:Tryz.prog.underlying 201=some .unsafePointer:=by kernel_rfl
theorem g1S:Tryz.prog.underlying 93=some (.slice 5):=by kernel_rfl
theorem g1a:Tryz.prog.underlying 9=some .string:=by kernel_rfl
theorem g1T:(Tryz.prog.info? 5).map (fun i=>(i.zero,i.size,i.bytes))=some (some (.int .u8 0),1,1):=by kernel_rfl
set_option maxHeartbeats 1000000 in
theorem i0y (b:Nat) (w:World) (h0:w.cell? ⟨b,0,none⟩=some (.pointer (some ⟨b,0,none⟩))):
  Calls Tryz.prog 78 #[.pointer (some ⟨b,0,none⟩)] w fun e w'=>e= .returned (.tuple #[])/\w'=w:=by
 obtain ⟨j,hj,_⟩:=i1i.1 a1P
 go_enter Tryz.func78,Tryz.ntmps78
 go_wp2
 rw [Lib.run_neq_ptr_same w _ c1o hj]
 go_wp2
 go_end0
 exact ⟨rfl,rfl⟩
set_option maxHeartbeats 1000000 in
theorem h0R (b:Nat) (w:World) (h0:w.cell? ⟨b,0,none⟩=some (.pointer none)) (hsh:w.shape? b=some (95,2)) (hfz:w.frozen? ⟨b,0,none⟩=false):
  Calls Tryz.prog 78 #[.pointer (some ⟨b,0,none⟩)] w fun e w'=>e= .returned (.tuple #[])/\w'=w.setCell ⟨b,0,none⟩ (.pointer (some ⟨b,0,none⟩)):=by
 obtain ⟨j,hj,hjs⟩:=i1i.1 a1P
 go_enter Tryz.func78,Tryz.ntmps78
 go_wp2
 rw [Lib.run_to_unsafe w ⟨b,0,none⟩ c1o e1D hj (by rw [hjs];decide) hsh (Nat.zero_lt_succ 1)];simp only [Result.andThen];rw [j1Q]
 go_wp2
 rw [run_callFunc_extern Tryz.func111 (by kernel_rfl) (by kernel_rfl) (by kernel_rfl) (e:=Extern.AbiNoEscape.same) (by kernel_rfl)];rw [Lib.run_noEscape];simp only [Result.andThen];rw [j1Q]
 go_wp2
 rw [Lib.run_from_unsafe w ⟨b,0,none⟩ e1D c1o hj hsh e1C];simp only [Result.andThen];rw [j1Q]
 go_wp2
 go_end0
 exact ⟨rfl,rfl⟩
def y0W (B:Nat->Prop) (w w':World):Prop:=w'.os=w.os/\w'.tape=w.tape/\w'.output=w.output/\w.heap.size<=w'.heap.size/\∀k,k<w.heap.size->¬B k->w'.heap[k]? =w.heap[k]?
set_option maxHeartbeats 2000000 in
theorem h0a (b:Nat) (p v:Value) (s0 s:ByteArray) (w:World) (hb:w.heap[b]? =some (.cells #[p,v] 95 (0,0))) (hp:p= .pointer none\/p= .pointer (some ⟨b,0,none⟩)) (hv:y0V w 5 v s0) (hne:v.ownBlock≠some b) (h0:0<s.size) (hsz:s0.size+s.size<=1000000000):
  Calls Tryz.prog 38 #[.pointer (some ⟨b,0,none⟩),.string s] w fun e w'=>e= .returned (.tuple #[.int .i64 s.size,.nilIface])/\∃v',w'.heap[b]? =some (.cells #[.pointer (some ⟨b,0,none⟩),v'] 95 (0,0))/\v0S w w' 5 v v' (s0++s)/\y0W (fun k=>k=b\/v.ownBlock=some k) w w':=by
 obtain ⟨i0,hi,hi3⟩:=i1i.1 g1T;simp only [Prod.mk.injEq] at hi3;obtain ⟨hz0,hz1,hz2⟩:=hi3;have hlt:b<w.heap.size:=by
  rcases a1K b w.heap.size with h'|h'
  .exact h'
  .simp [j1E h'] at hb
 have cc:Calls Tryz.prog 78 #[.pointer (some ⟨b,0,none⟩)] w fun e w'=>e= .returned (.tuple #[])/\w'.heap[b]? =some (.cells #[.pointer (some ⟨b,0,none⟩),v] 95 (0,0))/\w'.heap.size=w.heap.size/\w'.os=w.os/\w'.tape=w.tape/\w'.output=w.output/\∀k,k≠b->w'.heap[k]? =w.heap[k]?:=by
  rcases hp with rfl|rfl
  .refine (h0R b w (by rw [h1w hb];rfl) (by simp [World.shape?,hb]) (Lib.frozen_of_heap hb 0)).mono ?_;rintro e w' ⟨rfl,rfl⟩;refine ⟨rfl,?_,by simp [World.setCell],rfl,rfl,rfl,fun k hk=> ?_⟩
   .simp [World.setCell,e1m,hb]
   .simp [World.setCell,e1m,Ne.symm hk]
  .refine (i0y b w (by rw [h1w hb];rfl)).mono ?_;rintro e w' ⟨rfl,rfl⟩;exact ⟨rfl,hb,rfl,rfl,rfl,rfl,fun _ _=>rfl⟩
 go_enter Tryz.func38,Tryz.ntmps38
 go_wp2_with (go_at_call 78;refine cc.mono ?_)
 rintro e w1 ⟨rfl,hb1,hs1,ho1,ht1,hu1,hk1⟩;have c0:w1.cell? ⟨b,0,none⟩=some (.pointer (some ⟨b,0,none⟩)):=by rw [h1w hb1];rfl
 have c1:w1.cell? ⟨b,1,none⟩=some v:=by rw [h1w hb1];rfl
 have hv1:y0V w1 5 v s0:=by
  rcases hv with h|⟨g,cap,cur,rfl,hg,h⟩
  .exact .inl h
  .refine .inr ⟨g,cap,cur,rfl,?_,h⟩;rw [hk1 g (fun e=>hne (by rw [e];rfl))];exact hg
 go_wp2_with (at_builtin;refine t0E rfl _ _ 93 9 rfl 5 i0 g1S g1a hi hz0 hz1 hz2 v s0 s rfl hv1 rfl h0 hsz ?_)
 intro v' w2 hrow hgrow;have hb2:w2.heap[b]? =some (.cells #[.pointer (some ⟨b,0,none⟩),v] 95 (0,0)):=by
  rw [hgrow.block b (by omega) (fun e=>hne e.symm)];exact hb1
 have d0:w2.cell? ⟨b,0,none⟩=some (.pointer (some ⟨b,0,none⟩)):=by rw [h1w hb2];rfl
 have d1:w2.cell? ⟨b,1,none⟩=some v:=by rw [h1w hb2];rfl
 have f1:w2.frozen? ⟨b,1,none⟩=false:=Lib.frozen_of_heap hb2 1;obtain ⟨g,cap,cur,rfl,r2,r3,r4,r5,r6,r7⟩:=hrow;have hgb:g≠b:=by
  rcases r7 with r7|r7
  .omega
  .exact fun e=>hne (by rw [r7,e])
 go_wp2
 go_ret2
 refine ⟨rfl,_,?_,⟨g,cap,cur,rfl,?_,r3,r4,r5,r6,by rw [<-hs1];exact r7⟩,?_⟩
 .simp [World.setCell,e1m,hb2]
 .simp [World.setCell,e1m,Ne.symm hgb,r2]
 .refine ⟨?_,?_,?_,?_,fun k hk hn=> ?_⟩
  .show w2.os=w.os;rw [hgrow.os,ho1]
  .show w2.tape=w.tape;rw [hgrow.tape,ht1]
  .show w2.output=w.output;rw [hgrow.output,hu1]
  .have:=hgrow.size;simp [World.setCell];omega
  .have k1:k≠b:=fun e=>hn (.inl e)
   have k2:some k≠v.ownBlock:=fun e=>hn (.inr e.symm)
   have:∀x,(w2.setCell ⟨b,1,none⟩ x).heap[k]? =w2.heap[k]?:=fun x=>by simp [World.setCell,e1m,Ne.symm k1]
   rw [this,hgrow.block k (by omega) k2,hk1 k k1]
theorem g1U:Tryz.prog.underlying 164=some (.pointer 5):=by kernel_rfl
theorem g1V:Tryz.prog.cellsOf 5=1:=by kernel_rfl
set_option maxHeartbeats 2000000 in
theorem y0X (b g cap:Nat) (p:Value) (cur:Array Value) (s:ByteArray) (w:World) (hb:w.heap[b]? =some (.cells #[p,.slice (some ⟨g,0,none⟩) s.size cap] 95 (0,0))) (hg:w.heap[g]? =some (.cells cur 5 (0,0))) (hcs:cur.size=cap) (hnc:s.size<=cap) (hcm:cap<=maxLen) (htake:cur.toList.take s.size=Lib.strCells s) (h0:0<s.size):
  Calls Tryz.prog 43 #[.pointer (some ⟨b,0,none⟩)] w fun e w'=>e= .returned (.string s)/\y0W (fun k=>k=g) w w':=by
 have hl0:s.data.toList≠[]:=by
  intro e;have h1:s.data.toList.length=s.size:=by simp
  rw [e] at h1;simp at h1;omega
 have hll:s.data.toList.length=s.size:=by simp
 have c1:w.drew.cell? ⟨b,1,none⟩=some (.slice (some ⟨g,0,none⟩) s.size cap):=by
  have:w.drew.heap[b]? =some (.cells #[p,.slice (some ⟨g,0,none⟩) s.size cap] 95 (0,0)):=hb;rw [h1w this];rfl
 have hg':w.drew.heap[g]? =some (.cells cur 5 (0,0)):=hg;have hSD:(Builtin.unsafeSliceData_ #[93] 164 #[.slice (some ⟨g,0,none⟩) s.size cap]).run Tryz.prog w.drew= .ok (.pointer (some ⟨g,0,none⟩)) w.drew:=
  Lib.run_unsafeSliceData_row _ _ _ _ _ _ (by omega)
 have hUS:(Builtin.unsafeString_ #[164,3] 9 #[.pointer (some ⟨g,0,none⟩),.int .i64 s.size]).run Tryz.prog w.drew= .ok (.string s) (w.drew.freeze ⟨g,0,none⟩ s.size):=by
  have:=Lib.run_unsafeString_row (P:=Tryz.prog) w.drew 164 3 9 5 g1U g1V g cur.size (by simp [World.shape?,hg']) s.data.toList hl0 (by omega) (by unfold maxLen at hcm;omega) (by
   intro j x hx;have ea:((⟨g,0,none⟩:Addr).add j)=⟨g,j,none⟩:=by
    unfold Addr.add;split
    .rename_i e;subst e;rfl
    .simp
   rw [ea,h1w hg'];have h1:(Lib.strCells s)[j]? =some (.int .u8 x.toNat):=by rw [i1R];simp only [Lib.byteCells,v0g,hx];rfl
   rw [<-htake,h1F] at h1;split at h1
   .simpa using h1
   .cases h1)
  rw [hll] at this;exact this
 have hkeep:y0W (fun k=>k=g) w (w.drew.freeze ⟨g,0,none⟩ s.size):=by
  unfold World.freeze;split
  .exact ⟨rfl,rfl,rfl,m0D _,fun _ _ _=>rfl⟩
  .refine ⟨rfl,rfl,rfl,by simp,fun k hk hn=> ?_⟩;simp only [e1m];rw [if_neg (fun e=>hn e.symm)];rfl
 have mixed:Tryz.prog.follows .mixedOrders=true:=by kernel_rfl
 go_enter Tryz.func43,Tryz.ntmps43
 go_wp2
 go_region_o
 all_goals (go_wp2;go_ret;exact ⟨rfl,hkeep⟩)
end
section
open Go.RowKit Go.Sy Go.Proofs
def k0D (h n:Nat):Option HB:=some (.one false (.obj (.bld 95 h 0 n)))
def c1p:Option HB:=some (.one false (.obj (.bld0 95)))
def g0j (s:ByteArray):Option HB:=some (.one false (.obj (.brow 5 s)))
theorem k0a {h1 h2 h q:Nat} {ro:Bool} {b1 b2 b:Blk} (he:Ent [(h1,some (.one false b1)),(h2,some (.one false b2))] h q ro b):(h=h1/\q=0/\ro=false/\b=b1)\/(h≠h1/\h=h2/\q=0/\ro=false/\b=b2):=by
 rcases a0t.1 he with ⟨e,hb,k1,k2,k3⟩|⟨e,he⟩
 .cases k1;exact .inl ⟨e.symm,k2.1,k3.symm,k2.2⟩
 .rcases a0t.1 he with ⟨e',hb,k1,k2,k3⟩|⟨_,he⟩
  .cases k1;exact .inr ⟨fun x=>e x.symm,e'.symm,k2.1,k3.symm,k2.2⟩
  .obtain ⟨hb,k,_⟩:=he;simp [a0s] at k
theorem v0T {g:G} {w:World} {h1 h2:Nat} {b1 b2:Blk} {β1 β2:Base} (e1:g h1 0=some β1) (B1:BlkAt g β1 false b1 w) (e2:g h2 0=some β2) (B2:BlkAt g β2 false b2 w) (hd:β1.blk≠β2.blk):Holds g [(h1,some (.one false b1)),(h2,some (.one false b2))] w:=by
 refine ⟨?_,?_⟩
 .intro h q ro b he;rcases k0a he with ⟨rfl,rfl,rfl,rfl⟩|⟨_,rfl,rfl,rfl,rfl⟩
  .exact ⟨_,e1,B1⟩
  .exact ⟨_,e2,B2⟩
 .intro h q h' q' b ro' b' β β' hne he he' hg hg' hc hc';rcases k0a he with ⟨rfl,rfl,_,rfl⟩|⟨hx,rfl,rfl,_,rfl⟩
  .rcases k0a he' with ⟨rfl,rfl,_,rfl⟩|⟨_,rfl,rfl,_,rfl⟩
   .exact absurd ⟨rfl,rfl⟩ hne
   .rw [e1] at hg;cases hg;rw [e2] at hg';cases hg';exact hd
  .rcases k0a he' with ⟨rfl,rfl,_,rfl⟩|⟨_,rfl,rfl,_,rfl⟩
   .rw [e2] at hg;cases hg;rw [e1] at hg';cases hg';exact hd.symm
   .exact absurd ⟨rfl,rfl⟩ hne
theorem v0U {g:G} {w w':World} {n r cap m:Nat} {H:a0h} {β:Base} {cur:Array Value} {s:ByteArray} {Bk:Nat->Prop} (hg1:g 1 0=some β) (hcap:0<β.cap) (hoff:β.off=0) (hes:β.es=0) (h1n:1<n) (hu:g.upto n)
  (hb:w'.heap[β.blk]? =some (.cells #[.pointer (some ⟨β.blk,0,none⟩),.slice (some ⟨r,0,none⟩) s.size cap] 95 (0,0))) (hr:w'.heap[r]? =some (.cells cur 5 (0,0))) (hcs:cur.size=cap) (hnc:s.size<=cap) (hcm:cap<=maxLen) (htake:cur.toList.take s.size=Lib.strCells s) (h0:0<s.size)
  (hne:r≠β.blk) (hk:y0W Bk w w') (hBk:∀k,Bk k->f0M g H k) (hW:f0M g H β.blk) (hWr:f0M g H r\/w.heap.size<=r):
  Out g w n H (a0f (.tup [.int .i64 m,.nif]) [(1,k0D n s.size),(n,g0j s)] (n+1)) (.tuple #[.int .i64 m,.nilIface]) w':=by
 obtain ⟨k1,k2,k3,k4,k5⟩:=hk;have lt:∀{k:Nat} {o:Obj},w'.heap[k]? =some o->k<w'.heap.size:=by
  intro k o h;rcases a1K k w'.heap.size with h'|h'
  .exact h'
  .simp [j1E h'] at h
 have g1:(g.add n ⟨r,0,0,cap⟩) 1 0=some β:=by simp only [G.add];rw [if_neg (by omega)];exact hg1
 have gn:(g.add n ⟨r,0,0,cap⟩) n 0=some ⟨r,0,0,cap⟩:=by simp [G.add]
 refine ⟨_,_,n+1,g.add n ⟨r,0,0,cap⟩,⟨rfl,rfl,rfl⟩,h1O _,?_,?_,?_,?_,a0c (a0c a0b),⟨k1,k2,k3,k4,fun k hk hn=>k5 k hk (fun hb=>hn (hBk k hb))⟩,?_⟩
 .intro h q hh;simp only [G.add];rw [if_neg (by omega)];exact hu h q (by omega)
 .intro h q hh;simp only [G.add];rw [if_neg (by omega)]
 .simp only [Rv,Rvs];exact ⟨_,rfl,_,_,rfl,rfl,_,_,rfl,rfl,rfl⟩
 .refine v0T g1 (m0m hes hcap hoff (lt hb) ?_) gn (m0m rfl (by show 0<cap;omega) rfl (lt hr) ?_) hne.symm
  .exact ⟨_,gn,hb⟩
  .exact ⟨cur,hr,hcs,hnc,hcm,by rw [htake,i1R];rfl⟩
 .intro h q b β' he hg hc;rcases k0a he with ⟨rfl,rfl,_,rfl⟩|⟨_,rfl,rfl,_,rfl⟩
  .rw [g1] at hg;cases hg;exact .inl hW
  .rw [gn] at hg;cases hg;exact hWr
theorem q0i (s:ByteArray) (h0:0<s.size) (hs:s.size<=1000000000):FC Tryz.prog 2 38 [.ptr 1 0 0 0,.str s] [(1,c1p)] (a0f (.tup [.int .i64 s.size,.nif]) [(1,k0D 2 s.size),(2,g0j s)] 3):=by
 refine .inl ⟨f0t Tryz.func38 (by kernel_rfl) (by kernel_rfl),fun g w vs hg hu hH hvs=> ?_⟩;obtain ⟨β,hβ,hB⟩:=hH.blk 1 0 false (.obj (.bld0 95)) ⟨_,rfl,⟨rfl,rfl⟩,rfl⟩;obtain ⟨hcap,hoff,hheap⟩:=hB.obj;have hW:f0M g [(1,c1p)] β.blk:=⟨1,0,_,β,⟨_,rfl,⟨rfl,rfl⟩,rfl⟩,hβ,hcap,rfl⟩;have haddr:β.addr 0 0=⟨β.blk,0,none⟩:=by simp [Base.addr,hoff]
 simp only [Rvs,Rv] at hvs;obtain ⟨v,r1,rfl,⟨β',e',rfl⟩,v2,r2,rfl,rfl,rfl⟩:=hvs;rw [hβ] at e';cases e';rw [haddr];have hz:(⟨#[]⟩:ByteArray).size=0:=rfl;have hs0:(⟨#[]⟩:ByteArray)++s=s:=by apply ByteArray.ext;simp
 have hlt:=hB.lt hcap;refine (h0a β.blk (.pointer none) (.slice none 0 0) ⟨#[]⟩ s w hheap (.inl rfl) (.inl ⟨rfl,rfl⟩) (by simp [Value.ownBlock]) h0 (by rw [hz];omega)).mono ?_;rw [hs0];rintro e w' ⟨rfl,v',hb',⟨r,cap,cur,rfl,hr,hcs,hnc,hcm,htake,hr2⟩,hk⟩;have hr3:w.heap.size<=r:=by
  rcases hr2 with h|h
  .exact h
  .cases h
 refine ⟨_,rfl,v0U hβ hcap hoff hB.es (by omega) hu hb' hr hcs hnc hcm htake h0 (by omega) hk ?_ hW (.inr hr3)⟩;rintro k (rfl|h)
 .exact hW
 .cases h
theorem v0V (s0 s:ByteArray) (h0:0<s.size) (hs:s0.size+s.size<=1000000000):FC Tryz.prog 3 38 [.ptr 1 0 0 0,.str s] [(1,k0D 2 s0.size),(2,g0j s0)] (a0f (.tup [.int .i64 s.size,.nif]) [(1,k0D 3 (s0++s).size),(3,g0j (s0++s))] 4):=by
 refine .inl ⟨f0t Tryz.func38 (by kernel_rfl) (by kernel_rfl),fun g w vs hg hu hH hvs=> ?_⟩;have en1:Ent [(1,k0D 2 s0.size),(2,g0j s0)] 1 0 false (.obj (.bld 95 2 0 s0.size)):=⟨_,rfl,⟨rfl,rfl⟩,rfl⟩;have en2:Ent [(1,k0D 2 s0.size),(2,g0j s0)] 2 0 false (.obj (.brow 5 s0)):=⟨_,rfl,⟨rfl,rfl⟩,rfl⟩;obtain ⟨β,hβ,hB⟩:=hH.blk _ _ _ _ en1;obtain ⟨β2,hβ2,hB2⟩:=hH.blk _ _ _ _ en2;obtain ⟨hcap,hoff,β2',e2,hheap⟩:=hB.obj;rw [hβ2] at e2;cases e2;obtain ⟨hcap2,hoff2,cur0,hheap2,j1,j2,j3,j4⟩:=hB2.obj;have hW:f0M g [(1,k0D 2 s0.size),(2,g0j s0)] β.blk:=⟨1,0,_,β,en1,hβ,hcap,rfl⟩;have hW2:f0M g [(1,k0D 2 s0.size),(2,g0j s0)] β2.blk:=⟨2,0,_,β2,en2,hβ2,hcap2,rfl⟩;have hd:β.blk≠β2.blk:=hH.sep 1 0 2 0 _ _ _ β β2 (by omega) en1 en2 hβ hβ2 hcap hcap2;have haddr:β.addr 0 0=⟨β.blk,0,none⟩:=by simp [Base.addr,hoff]
 simp only [Rvs,Rv] at hvs;obtain ⟨v,r1,rfl,⟨β',e',rfl⟩,v2,r2,rfl,rfl,rfl⟩:=hvs;rw [hβ] at e';cases e';rw [haddr];have hlt:=hB.lt hcap;refine (h0a β.blk _ _ s0 s w hheap (.inr rfl) (.inr ⟨β2.blk,β2.cap,cur0,rfl,hheap2,j1,j2,j3,by rw [j4,i1R];rfl⟩) (by simp [Value.ownBlock];exact fun e=>hd e.symm) h0 hs).mono ?_;rintro e w' ⟨rfl,v',hb',⟨r,cap,cur,rfl,hr,hcs,hnc,hcm,htake,hr2⟩,hk⟩;have hr3:f0M g [(1,k0D 2 s0.size),(2,g0j s0)] r\/w.heap.size<=r:=by
  rcases hr2 with h|h
  .exact .inr h
  .simp only [Value.ownBlock,Option.some.injEq] at h;subst h;exact .inl hW2
 refine ⟨_,rfl,v0U hβ hcap hoff hB.es (by omega) hu hb' hr hcs hnc hcm htake (by simp;omega) ?_ hk ?_ hW hr3⟩
 .rcases hr2 with h|h
  .omega
  .simp only [Value.ownBlock,Option.some.injEq] at h;subst h;exact hd.symm
 .rintro k (rfl|h)
  .exact hW
  .simp only [Value.ownBlock,Option.some.injEq] at h;subst h;exact hW2
theorem l0H (s:ByteArray) (h0:0<s.size):FC Tryz.prog 3 43 [.ptr 1 0 0 0] [(1,k0D 2 s.size),(2,g0j s)] (a0f (.str s) [] 3):=by
 refine .inl ⟨f0t Tryz.func43 (by kernel_rfl) (by kernel_rfl),fun g w vs hg hu hH hvs=> ?_⟩;have en1:Ent [(1,k0D 2 s.size),(2,g0j s)] 1 0 false (.obj (.bld 95 2 0 s.size)):=⟨_,rfl,⟨rfl,rfl⟩,rfl⟩;have en2:Ent [(1,k0D 2 s.size),(2,g0j s)] 2 0 false (.obj (.brow 5 s)):=⟨_,rfl,⟨rfl,rfl⟩,rfl⟩;obtain ⟨β,hβ,hB⟩:=hH.blk _ _ _ _ en1;obtain ⟨β2,hβ2,hB2⟩:=hH.blk _ _ _ _ en2;obtain ⟨hcap,hoff,β2',e2,hheap⟩:=hB.obj;rw [hβ2] at e2;cases e2;obtain ⟨hcap2,hoff2,cur0,hheap2,j1,j2,j3,j4⟩:=hB2.obj;have hW2:f0M g [(1,k0D 2 s.size),(2,g0j s)] β2.blk:=⟨2,0,_,β2,en2,hβ2,hcap2,rfl⟩;have haddr:β.addr 0 0=⟨β.blk,0,none⟩:=by simp [Base.addr,hoff]
 simp only [Rvs,Rv] at hvs;obtain ⟨v,r1,rfl,⟨β',e',rfl⟩,rfl⟩:=hvs;rw [hβ] at e';cases e';rw [haddr];refine (y0X β.blk β2.blk β2.cap _ cur0 s w hheap hheap2 j1 j2 j3 (by rw [j4,i1R];rfl) h0).mono ?_;rintro e w' ⟨rfl,k1,k2,k3,k4,k5⟩;refine ⟨_,rfl,.str s,[],3,g,⟨rfl,rfl,rfl⟩,m0D _,hu,fun _ _ _=>rfl,by simp only [Rv],⟨?_,?_⟩,a0b,⟨k1,k2,k3,k4,fun k hk hn=>k5 k hk (fun e=>hn (e▸hW2))⟩,?_⟩
 .intro h q ro b he;obtain ⟨hb,e,_⟩:=he;simp [a0s] at e
 .intro h q h' q' b ro' b' β β' _ he;obtain ⟨hb,e,_⟩:=he;simp [a0s] at e
 .intro h q b β he;obtain ⟨hb,e,_⟩:=he;simp [a0s] at e
end
section
attribute [local irreducible] a0q a0r a0j a0R
theorem c0R {α:Type} {l:List α} {n:Nat} (h:l.length=n):seg 0 n l=l:=by
 unfold seg;rw [j1d,i1D (by omega)]
theorem y0Y (L:List Lp) (n:Nat) (hn:L.length=n) (h1:1<=n) (h2:n<=1000000):FC Tryz.prog 2 239 [.sl 1 0 0 n] [(1,some (.one true (poB n L)))] (a0f (.sl 2 0 0 n) [(2,some (.one false (poB n L)))] 3):=by
 unfold poB;have k1:(L.map Lp.a).length=n:=by rw [b1M,hn]
 have k2:(L.map Lp.n).length=n:=by rw [b1M,hn]
 have k3:(L.map Lp.c).length=n:=by rw [b1M,hn]
 generalize L.map Lp.a=A at*;generalize L.map Lp.n=B at*;generalize L.map Lp.c=C at*;obtain ⟨m,rfl⟩:∃m,n=m+1:=⟨n-1,by omega⟩;refine fEx Tryz.func239 ?_;repeat' ((conv=>whnf);first|refine a0a ?_|(apply bRx<;>intro h<;>try (exfalso;(try dsimp only at h);omega)))
 all_goals (conv=>whnf)
 all_goals (rw [a1J (m+1),c0R k1,c0R k2,c0R k3];exact rOx [0,1,3] (a0c a0b))
theorem i0p (id:ByteArray) (d:Int) (L:List Lp) (n:Nat) (hn:L.length=n) (h1:1<=n) (h2:n<=1000000):FC Tryz.prog 2 234 [.agg [.str id,.int .i64 d,.sl 1 0 0 n]] [(1,some (.one true (poB n L)))] (a0f (.agg [.str id,.int .i64 d,.sl 2 0 0 n]) [(2,some (.one false (poB n L)))] 3):=by
 have c:=y0Y L n hn h1 h2;refine fEx Tryz.func234 ?_;repeat' ((conv=>whnf);first|refine cOx (l:= [0,1]) c ?_|refine a0a ?_|(apply bRx<;>intro h<;>try (exfalso;(try dsimp only at h);omega)))
 all_goals (conv=>whnf)
 all_goals exact rOx [0,1,4] (a0c a0b)
theorem h0b (i:Int) (h1: -9223372036854775808<=i) (h2:i<=9223372036854775807):t0h Tryz.prog glT 40 [.int .i64 i] (.str (b0S i)):=by
 have c:=e0X i h1 h2;have c2:t0h Tryz.prog glT 80 [.int .i64 i] (.str (b0S i)):=by
  refine fEx Tryz.func80 ?_;repeat' ((conv=>whnf);first|refine cGx c ?_|refine a0a ?_|(apply bRx<;>intro h<;>try (exfalso;(try dsimp only at h);omega)))
  all_goals (conv=>whnf)
  exact a0d rfl
 refine fEx Tryz.func40 ?_;repeat' ((conv=>whnf);first|refine cGx c2 ?_|refine a0a ?_|(apply bRx<;>intro h<;>try (exfalso;(try dsimp only at h);omega)))
 all_goals (conv=>whnf)
 exact a0d rfl
theorem lgz (x:UInt8):(ByteArray.mk #[x]).size=1:=rfl
theorem g1b:(⟨#[124]⟩:ByteArray).size=1:=rfl
theorem g1C:(⟨#[47]⟩:ByteArray).size=1:=rfl
def c1q (L:List Lp):Prop:=∀x∈L,x.a.size<=40/\x.c.size<=3
theorem q0j {L:List Lp} (h:c1q L) (k:Nat):(L.getD k lp0).a.size<=40/\(L.getD k lp0).c.size<=3:=by
 rcases a1K k L.length with hk|hk
 .rw [List.getD,j0I hk];exact h _ (b1P hk)
 .rw [List.getD,p0J hk];exact ⟨by decide,by decide⟩
theorem y0Z {p:Lp} (h1:p.a.size<=40) (h2:p.c.size<=3) (h3: -4503599627370496<=p.n/\p.n<=4503599627370496):(poT p).size<=70/\0<(poT p).size:=by
 have:=a0A p.n (by omega) (by omega);unfold poT;simp only [b1U,g1b,g1C];omega
theorem r0T {a c:ByteArray} {n:Int} (h1:a.size<=40) (h2:c.size<=3) (h3: -4503599627370496<=n/\n<=4503599627370496):((⟨#[124]⟩:ByteArray)++a++⟨#[47]⟩++b0S n++⟨#[47]⟩++c).size<=70/\0<((⟨#[124]⟩:ByteArray)++a++⟨#[47]⟩++b0S n++⟨#[47]⟩++c).size:=by
 have:=a0A n (by omega) (by omega);simp only [b1U,g1b,g1C];omega
theorem a1Q (a c:ByteArray) (n:Int):poT ⟨a,n,c⟩=(⟨#[124]⟩:ByteArray)++a++⟨#[47]⟩++b0S n++⟨#[47]⟩++c:=rfl
theorem h0c {e:Le} (hi:e.id.size<=40) (hd:0<=e.date/\e.date<=99999) (hz:c1q e.ps) (hb:v0F e.ps):∀k,(leT e k).size<=70+70*k/\0<(leT e k).size
 |0=>by
  have:=a0A e.date (by omega) (by omega);simp only [leT,b1U,g1b];omega
 |k+1=>by
  have ih:=h0c hi hd hz hb k;have h1:=q0j hz k;have h2:=y0Z h1.1 h1.2 (v0Q hb k);simp only [leT,b1U];omega
attribute [local irreducible] seq ByteArray.extract
set_option maxHeartbeats 1000000 in
theorem o0w (id:ByteArray) (d:Int) (L:List Lp) (n:Nat) (hn:L.length=n) (h16:n<=16) (hi:id.size<=40) (hd:0<=d/\d<=99999) (hz:c1q L) (hb:v0F L):
  FC Tryz.prog 2 246 [.agg [.str id,.int .i64 d,.sl 1 0 0 n]] [(0,some (GB glT)),(1,some (.one true (poB n L)))] (a0f (.str (leT ⟨id,d,L,n⟩ n)) [] 2):=by
 have c1:=h0b d (by omega) (by omega);have hds:=a0A d (by omega) (by omega);have hT:=h0c (e:=⟨id,d,L,n⟩) hi hd hz hb;have c2:=q0i (id++⟨#[124]⟩++b0S d) (hT 0).2 (f1X (hT 0).1 (by decide));unfold poB;refine fEx Tryz.func246 ?_;repeat' ((conv=>whnf);first|refine cGx c1 ?_|refine cOx (l:= [0,3]) c2 ?_|(refine a0g ?_ ?_;(simp only [b1U,lgz,y0u,e1f];omega))|refine a0a ?_|(apply bRx<;>intro h<;>try (exfalso;(try dsimp only at h);omega)))
 all_goals (conv=>whnf)
 refine a0o (fun k:Nat=>⟨[(1,.ptr 2 0 0 0),(3,.ptr 3 0 0 0),(15,.sl 1 0 0 n),(16,.int .i64 n),(17,.int .i64 k)],[(0,some (GB glT)),(1,some (.one true (poB n L))),(2,some (.one false (.cells [.str id,.int .i64 d,.sl 1 0 0 n]))),(3,k0D 4 (leT ⟨id,d,L,n⟩ k).size),(4,g0j (leT ⟨id,d,L,n⟩ k))],5⟩) (fun k=>k<=n) (fun k=>n-k) 0 [0,1,2,3,4] [] wHx (z0h _) ?_;intro k hk;unfold poB;have hTk:=hT k;have hTe:leT ⟨id,d,L,n⟩ (k+1)=leT ⟨id,d,L,n⟩ k++poT ⟨(L.map Lp.a).getD k ⟨#[]⟩,(L.map Lp.n).getD k 0,(L.map Lp.c).getD k ⟨#[]⟩⟩:=by rw [<-j0Z];rfl
 have hTk1:=hT (k+1);by_cases hk2:k<n
 .have h1:=q0j hz k;have h2:=v0Q hb k;rw [j0Z] at h1 h2;dsimp only at h1 h2;have h3:=r0T h1.1 h1.2 h2;rw [a1Q] at hTe;have c3:=c0y ((L.map Lp.n).getD k 0) (by omega) (by omega);have h4:=a0A ((L.map Lp.n).getD k 0) (by omega) (by omega);generalize hT1:leT ⟨id,d,L,n⟩ (k+1)=T1 at*;generalize hT0:leT ⟨id,d,L,n⟩ k=T at*;have c4:=v0V T _ h3.2 (f1X (Nat.add_le_add hTk.1 h3.1) (by omega));rw [<-hTe] at c4;repeat' ((conv=>whnf);first|refine cGx c3 ?_|refine cOx (l:= [0,3,4]) c4 ?_|(refine a0g ?_ ?_;(simp only [b1U,lgz,y0u,e1f];omega))|refine a0a ?_|(apply bRx<;>intro h<;>try (exfalso;(try dsimp only at h);omega)))
  all_goals (conv=>whnf)
  all_goals first
   |(subst hT1;exact ⟨k+1,[0,1,2,3,6],[],hk2,(show n-(k+1)<n-k by omega),⟨rfl,⟨rfl,rfl,rfl,rfl,congrArg (fun z=>some (SV.int .i64 z)) (a0i (by omega)),trivial⟩,⟨gwk rfl,rfl,rfl,rfl,rfl,trivial⟩⟩⟩)
   |(exfalso;omega)
 have ek:k=n:=by omega
 subst ek;have c5:=l0H (leT ⟨id,d,L,k⟩ k) hTk.2;generalize leT ⟨id,d,L,k⟩ k=T at*;repeat' ((conv=>whnf);first|refine cOx (l:= [0,3,4]) c5 ?_|refine a0a ?_|(apply bRx<;>intro h<;>try (exfalso;(try dsimp only at h);omega)))
 all_goals (conv=>whnf)
 all_goals first
  |exact rOx [0,1] a0b
  |(exfalso;omega)
end
section
attribute [local irreducible] a0q a0r a0j a0R
abbrev lgF (a e p t b:Nat) (s:Lg):List SV:= [.map a 0,.sl e 0 0 s.ne,.map p 0,.map t 0,.map b 0,.int .u64 s.dig]
abbrev k0M (s:Lg):Blk:= .obj (.map false false s.na [.strs s.acc] [.sc (.bools (List.replicate s.na true))] (List.range s.na) s.na)
abbrev t0F (s:Lg):Blk:= .obj (.map false false s.ne [.strs (s.ent.map Le.id)] [.sc (.ints .i64 ((List.range s.ne).map Int.ofNat))] (List.range s.ne) s.ne)
theorem f0J (k:Nat):(k:Int).toNat+0=k:=rfl
theorem v0W (n i:Nat):(List.replicate n true).getD i false=decide (i<n):=by
 rw [List.getD,i1f];split
 .rename_i h;rw [decide_eq_true h];rfl
 .rename_i h;rw [decide_eq_false h];rfl
theorem r0U (acc:List ByteArray) (p:Lp) (L:List Lp):poE acc (p::L)=if inL p.a acc then (if e0q p.n p.c=0 then poE acc L else e0q p.n p.c) else 6:=rfl
theorem q0k {acc:List ByteArray} (B:List Lp):∀A:List Lp,poE acc (A++B)=if poE acc A=0 then poE acc B else poE acc A
 | []=>by simp [poE]
 |p::A=>by
  rw [d1H,r0U,r0U];by_cases h:inL p.a acc
  .rw [if_pos h,if_pos h];by_cases h2:e0q p.n p.c=0
   .rw [if_pos h2,if_pos h2];exact q0k B A
   .rw [if_neg h2,if_neg h2,if_neg h2]
  .rw [if_neg h,if_neg h,if_neg (by decide)]
theorem z0a {acc:List ByteArray} {L:List Lp} {k:Nat} (hk:k<L.length) (h:poE acc (L.take k)=0):poE acc (L.take (k+1))=if inL (L.getD k lp0).a acc then e0q (L.getD k lp0).n (L.getD k lp0).c else 6:=by
 rw [q0c hk,q0k,if_pos h];simp only [poE];split
 .split
  .rename_i h2;exact h2.symm
  .rfl
 .rfl
theorem z0b {acc:List ByteArray} {L:List Lp} (k:Nat) (h:poE acc (L.take k)≠0):poE acc L=poE acc (L.take k):=by
 have:=q0k (acc:=acc) (L.drop k) (L.take k);rw [i1o,if_neg h] at this;exact this
def d1L (bal:ByteArray->ByteArray->Int) (x:Lp):Prop:= -4503599627370496<=bal x.a x.c+x.n/\bal x.a x.c+x.n<=4503599627370496
theorem e1E {bal:ByteArray->ByteArray->Int} {L:List Lp} {i:Nat} (hi:i<(chR L L.length).length) (h:¬d1L bal ((chR L L.length).getD i lp0)):q0g bal L=false:=by
 cases e:q0g bal L with
 |false=>rfl
 |true=>
  unfold q0g at e;rw [h1D] at e;refine absurd (of_decide_eq_true (e ((chR L L.length).getD i lp0) ?_)) h;rw [List.getD,j0I hi];exact b1P hi
theorem c1r {bal:ByteArray->ByteArray->Int} {L:List Lp} (h:∀i,i<(chR L L.length).length->d1L bal ((chR L L.length).getD i lp0)):q0g bal L=true:=by
 unfold q0g;rw [h1D];intro x hx;obtain ⟨i,hi,rfl⟩:=h1A hx;have:=h i hi;rw [List.getD,j0I hi] at this;exact decide_eq_true this
attribute [local irreducible] seq ByteArray.extract poE q0g h0Q lgE
abbrev ckH (s:Lg) (r:Nat) (R:List Lp) (n:Nat) (L:List Lp):a0h:= [(1,some (.one true (.cells (lgF 2 3 4 5 6 s)))),(2,some (.one true (k0M s))),(4,some (.one true (t0F s))),(6,some (.one true (t0C r R))),(8,some (.one true (poB n L)))]
theorem z0c (s:Lg) (id:ByteArray) (d:Int) (L:List Lp) (n:Nat) (r:Nat) (R:List Lp) (hs:LgOk s) (hr:R.length=r) (hRv:∀a c,lgV R a c=s.bal a c) (hn:L.length=n):
  FC Tryz.prog 9 244 [.ptr 1 0 0 0,.agg [.str id,.int .i64 d,.sl 8 0 0 n]] (ckH s r R n L) (a0f (.int .i64 (lgE s ⟨id,d,L,n⟩)) [] 9):=by
 have c1:=l0F id;have hne:=hs.ne;have hna:=hs.na;have hidl:(s.ent.map Le.id).length=s.ne:=by rw [b1M,hne]
 unfold ckH lgF k0M t0F poB;by_cases g1:h0u id=false
 .have he:lgE s ⟨id,d,L,n⟩=5:=by unfold lgE;rw [if_pos g1]
  rw [he];rw [g1] at c1;refine fEx Tryz.func244 ?_;repeat' ((conv=>whnf);first|refine cPx c1 ?_|refine a0a ?_|(apply bRx<;>intro h<;>try (exfalso;(try dsimp only at h);omega)))
  all_goals (conv=>whnf)
  all_goals first
   |exact rOx [0,1,2,3,4,5,6,7,8] a0b
   |(exfalso;omega)
 have g1':h0u id=true:=by simpa using g1
 rw [g1'] at c1;by_cases g2:d<0\/99999<d
 .have he:lgE s ⟨id,d,L,n⟩=14:=by unfold lgE;rw [if_neg g1,if_pos g2]
  rw [he];refine fEx Tryz.func244 ?_;repeat' ((conv=>whnf);first|refine cPx c1 ?_|refine a0a ?_|(apply bRx<;>intro h<;>try (exfalso;(try dsimp only at h);omega)))
  all_goals (conv=>whnf)
  all_goals first
   |exact rOx [0,1,2,3,4,5,6,7,8] a0b
   |(exfalso;omega)
 by_cases g3:inL id s.ids
 .have he:lgE s ⟨id,d,L,n⟩=7:=by unfold lgE;rw [if_neg g1,if_neg g2,if_pos g3]
  rw [he];have g3':a0l (s.ent.map Le.id) id<s.ne:=by rw [<-hidl];exact g3
  refine fEx Tryz.func244 ?_;repeat' ((conv=>whnf);first|refine cPx c1 ?_|refine a0a ?_|(apply bRx<;>intro h<;>try (exfalso;(try dsimp only at h);omega)))
  all_goals (conv=>whnf)
  all_goals first
   |exact rOx [0,1,2,3,4,5,6,7,8] a0b
   |(exfalso;omega)
 have g3':¬a0l (s.ent.map Le.id) id<s.ne:=by rw [<-hidl];exact g3
 by_cases g4:n<1\/16<n
 .have he:lgE s ⟨id,d,L,n⟩=4:=by unfold lgE;rw [if_neg g1,if_neg g2,if_neg g3,if_pos g4]
  rw [he];refine fEx Tryz.func244 ?_;repeat' ((conv=>whnf);first|refine cPx c1 ?_|refine a0a ?_|(apply bRx<;>intro h<;>try (exfalso;(try dsimp only at h);omega)))
  all_goals (conv=>whnf)
  all_goals first
   |exact rOx [0,1,2,3,4,5,6,7,8] a0b
   |(exfalso;omega)
 have g5:poE s.acc L≠0->lgE s ⟨id,d,L,n⟩=poE s.acc L:=fun h=>by unfold lgE;rw [if_neg g1,if_neg g2,if_neg g3,if_neg g4,if_pos h]
 have g6:poE s.acc L=0->lgE s ⟨id,d,L,n⟩=if h0Q L=false then 26 else if q0g s.bal L=false then 4 else if 512<=s.ne then 12 else 0:=fun h=>by unfold lgE;rw [if_neg g1,if_neg g2,if_neg g3,if_neg g4,if_neg (fun h'=>h' h)]
 generalize lgE s ⟨id,d,L,n⟩=E at*;refine fEx Tryz.func244 ?_;repeat' ((conv=>whnf);first|refine cPx c1 ?_|refine a0a ?_|(apply bRx<;>intro h<;>try (exfalso;(try dsimp only at h);omega)))
 all_goals (conv=>whnf)
 all_goals first
  |(exfalso;omega)
  |skip
 refine a0o (fun k:Nat=>⟨[(0,.ptr 1 0 0 0),(3,.ptr 9 0 0 0),(47,.sl 8 0 0 n),(48,.int .i64 n),(49,.int .i64 k)],[(1,some (.one true (.cells (lgF 2 3 4 5 6 s)))),(2,some (.one true (k0M s))),(4,some (.one true (t0F s))),(6,some (.one true (t0C r R))),(8,some (.one true (poB n L))),(9,some (.one false (.cells [.str id,.int .i64 d,.sl 8 0 0 n])))],10⟩) (fun k=>k<=n/\poE s.acc (L.take k)=0) (fun k=>n-k) 0 [0,1,2,3,4,5,6,7,8,9] [] wHx ⟨z0h _,by unfold poE;rfl⟩ ?_;rintro k ⟨hk,hz⟩;unfold lgF k0M t0F poB;by_cases hk2:k<n
 .have hnx:=z0a (acc:=s.acc) (L:=L) (k:=k) (by omega) hz;have hst:=z0b (acc:=s.acc) (L:=L) (k+1);rw [j0Z] at hnx;dsimp only at hnx;by_cases hin:inL ((L.map Lp.a).getD k ⟨#[]⟩) s.acc
  .have hin':a0l s.acc ((L.map Lp.a).getD k ⟨#[]⟩)<s.na:=by rw [<-hna];exact hin
   have hrep:=v0W s.na (a0l s.acc ((L.map Lp.a).getD k ⟨#[]⟩));rw [decide_eq_true hin'] at hrep;rw [if_pos hin] at hnx;have c2:=j0T ((L.map Lp.n).getD k 0) ((L.map Lp.c).getD k ⟨#[]⟩);by_cases hm:e0q ((L.map Lp.n).getD k 0) ((L.map Lp.c).getD k ⟨#[]⟩)=0
   .rw [hm] at c2 hnx;repeat' ((conv=>whnf);first|refine cPx c2 ?_|(simp only [f0J,hrep])|refine a0a ?_|(apply bRx<;>intro h<;>try (exfalso;(try dsimp only at h);omega)))
    all_goals (conv=>whnf)
    all_goals first
     |exact ⟨k+1,[0,1,2,3,4,5,6,7,8,9],[],⟨hk2,hnx⟩,(show n-(k+1)<n-k by omega),⟨rfl,⟨rfl,rfl,rfl,rfl,congrArg (fun z=>some (SV.int .i64 z)) (a0i (by omega)),trivial⟩,⟨rfl,rfl,rfl,rfl,rfl,rfl,trivial⟩⟩⟩
     |(exfalso;omega)
   .have hE:=g5 (by rw [hst (by rw [hnx];exact hm),hnx];exact hm);rw [hst (by rw [hnx];exact hm),hnx] at hE;rw [hE];generalize e0q ((L.map Lp.n).getD k 0) ((L.map Lp.c).getD k ⟨#[]⟩)=M at*;repeat' ((conv=>whnf);first|refine cPx c2 ?_|(simp only [f0J,hrep])|refine a0a ?_|(apply bRx<;>intro h<;>try (exfalso;(try dsimp only at h);omega)))
    all_goals (conv=>whnf)
    all_goals first
     |exact rOx [0,1,2,3,4,5,6,7,8] a0b
     |(exfalso;omega)
  .have hin':¬a0l s.acc ((L.map Lp.a).getD k ⟨#[]⟩)<s.na:=by rw [<-hna];exact hin
   have hrep:=v0W s.na (a0l s.acc ((L.map Lp.a).getD k ⟨#[]⟩));rw [decide_eq_false hin'] at hrep;rw [if_neg hin] at hnx;have hE:=g5 (by rw [hst (by rw [hnx];decide),hnx];decide);rw [hst (by rw [hnx];decide),hnx] at hE;rw [hE];repeat' ((conv=>whnf);first|(simp only [f0J,hrep])|refine a0a ?_|(apply bRx<;>intro h<;>try (exfalso;(try dsimp only at h);omega)))
   all_goals (conv=>whnf)
   all_goals first
    |exact rOx [0,1,2,3,4,5,6,7,8] a0b
    |(exfalso;omega)
 have ek:k=n:=by omega
 subst ek;rw [show L.take k=L by rw [<-hn,e1e]] at hz;have hE:=g6 hz;have hbd:=r0P hz;have c3:=q0h L k hn (by omega) hbd;have c4:=l0G L k hn (by omega) hbd;unfold poB at c3 c4;by_cases g7:h0Q L=false
 .rw [if_pos g7] at hE;rw [hE];rw [g7] at c3;repeat' ((conv=>whnf);first|refine cOx (l:= [0,8]) c3 ?_|refine a0a ?_|(apply bRx<;>intro h<;>try (exfalso;(try dsimp only at h);omega)))
  all_goals (conv=>whnf)
  all_goals first
   |exact rOx [0,1,2,3,4,5,6,7,8] a0b
   |(exfalso;omega)
 have g7':h0Q L=true:=by simpa using g7
 rw [if_neg g7] at hE;rw [g7'] at c3;have hno:=fun i hi h=>e1E (bal:=s.bal) (L:=L) (i:=i) hi h
 have hyes:=c1r (bal:=s.bal) (L:=L);have hcb:∀i,-4503599627370496*16<=((chR L L.length).getD i lp0).n/\((chR L L.length).getD i lp0).n<=4503599627370496*16:=by
  intro i;rcases a1K i (chR L L.length).length with hi|hi
  .have h1:=q0e (g0V L L.length) hi;rw [g0i _ _ _ (m0D _),e1e] at h1;have h2:=v0G hbd ((chR L L.length).getD i lp0).a ((chR L L.length).getD i lp0).c;rw [h1] at h2;omega
  .rw [List.getD,p0J hi];exact ⟨by decide,by decide⟩
 rw [hn] at hno hyes hcb;generalize chR L k=C at*;generalize hm:C.length=m at*;repeat' ((conv=>whnf);first|refine cOx (l:= [0,8]) c3 ?_|refine cOx (l:= [0,8]) c4 ?_|refine a0a ?_|(apply bRx<;>intro h<;>try (exfalso;(try dsimp only at h);omega)))
 all_goals (conv=>whnf)
 all_goals first
  |(exfalso;omega)
  |skip
 refine a0o (fun sn:List Nat=>⟨[(0,.ptr 1 0 0 0),(75,.ptr 11 0 0 0)],[(1,some (.one true (.cells (lgF 2 3 4 5 6 s)))),(6,some (.one true (t0C r R))),(10,some (.one false (t0C m C))),(11,some (.one false (.obj (.iter 10 0 (List.range m) m sn))))],12⟩) (fun sn=>sn.Nodup/\(∀i∈sn,i<m)/\∀i∈sn,d1L s.bal (C.getD i lp0)) (fun sn=>m-sn.length) [] [0,1,2,3,4,5,6,7,8,9,10,11] [] wHx ⟨h1M,by simp,by simp⟩ ?_;rintro sn ⟨hd,hl,hz2⟩;unfold lgF;have key:∀x,IntKind.i64.wrap ((R.map Lp.n).getD (b0Y (R.map Lp.a) (R.map Lp.c) ((C.map Lp.a).getD x ⟨#[]⟩) ((C.map Lp.c).getD x ⟨#[]⟩)) 0+(C.map Lp.n).getD x 0)=s.bal (C.getD x lp0).a (C.getD x lp0).c+(C.getD x lp0).n:=by
  intro x;have h1:=hs.rng (C.getD x lp0).a (C.getD x lp0).c;have h2:=hcb x;rw [r0S,hRv,f1D,c1d,y0N];exact a0m (by omega) (by omega)
 repeat' ((conv=>whnf);first|(refine ⟨⟨rfl,rfl⟩,fun x hx hnx=> ?_,fun hall=> ?_⟩)|(rw [key])|refine a0a ?_|(apply bRx<;>intro h<;>try (exfalso;(try dsimp only at h);omega)))
 all_goals (conv=>whnf)
 .have hB:=hno x hx (fun hk=>by unfold d1L at hk;omega);rw [if_pos hB] at hE;rw [hE];exact rOx [0,1,2,3,4,5,6,7,8] a0b
 .have hB:=hno x hx (fun hk=>by unfold d1L at hk;omega);rw [if_pos hB] at hE;rw [hE];exact rOx [0,1,2,3,4,5,6,7,8] a0b
 .have:=c0k hd hl hx hnx;refine ⟨x::sn,[0,1,2,3,4,5,6,7,8,9,10,11],[],⟨h1t.2 ⟨hnx,hd⟩,fun y hy=> ?_,fun y hy=> ?_⟩,by simp only [y0x];omega,⟨rfl,⟨rfl,rfl,trivial⟩,⟨rfl,rfl,rfl,rfl,trivial⟩⟩⟩
  .rcases v0e.1 hy with rfl|hy
   .exact hx
   .exact hl y hy
  .rcases v0e.1 hy with rfl|hy
   .unfold d1L;omega
   .exact hz2 y hy
 .have hB:=hyes fun i hi=>hz2 i (hall i hi)
  rw [if_neg (by rw [hB];decide),if_pos (by omega)] at hE;rw [hE];exact rOx [0,1,2,3,4,5,6,7,8] a0b
 .have hB:=hyes fun i hi=>hz2 i (hall i hi)
  rw [if_neg (by rw [hB];decide),if_neg (by omega)] at hE;rw [hE];exact rOx [0,1,2,3,4,5,6,7,8] a0b
end
section
attribute [local irreducible] a0q a0r a0j a0R
abbrev k0N (f:Nat) (s:Lg):Blk:= .cols s.ne [.sc (.strs (s.ent.map Le.id)),.sc (.ints .i64 (s.ent.map Le.date)),.own f (s.ent.map Le.np)]
def enF (E:List Le) (q:Nat):Blk:=poB (E.getD q le0).np (E.getD q le0).ps
abbrev c0n (ro:Bool) (s:Lg):Option HB:=some (.fam ro (fun x=>x<s.ne) (enF s.ent))
def LgB (bal:ByteArray->ByteArray->Int) (m:Nat):x0F:=fun a c v=>∃R:List Lp,a=R.map Lp.a/\c=R.map Lp.c/\v=R.map Lp.n/\lgD R/\(∀a c,lgV R a c=bal a c)/\R.length<=16*m
theorem v0X {E:List Le} {e:Le}:∀q,q<E.length->enF (E++ [e]) q=enF E q:=by
 intro q hq;unfold enF;rw [List.getD,v0f hq];rfl
theorem v0Y {E:List Le} {e:Le}:enF (E++ [e]) E.length=poB e.np e.ps:=by
 unfold enF;rw [List.getD,v0k (m0D _),h1P];rfl
theorem h0d {H:a0h} {n a b g m k:Nat} {ns:List Nat} {c1 c2:Col} {dom:Nat->Prop} {f F:Nat->Blk} {bg:Blk} (hl:ns.length=m) (h1:c1.len=m+1) (h2:c2.len=m+1) (ha:a<n) (hta:a0s H a=some (.one false (.cols (m+1) [.sc c1,.sc c2,.svs (i0a b ns++ [.sl g 0 0 k])]))) (hb:a0s H b=some (.fam false dom f)) (hdom:∀q,q<m->dom q)
  (hg:a0s H g=some (.one false bg)) (hba:b≠a) (hga:g≠a) (hbg:b≠g) (hF:∀q,q<m->F q=f q) (hFm:F m=bg):
  Relab H n (gdR n m [⟨b,g,F⟩]) (fun _=>0) [(a,some (.one false (.cols (m+1) [.sc c1,.sc c2,.own n (ns++ [k])]))),(n+0,some (.fam false (fun x=>x<m+1) F))] [b,g] 1:=by
 have r0:∀q,q<m->gdR n m [⟨b,g,F⟩] n q=some (b,q):=fun q hq=>e0j (i:=0) (D:= [⟨b,g,F⟩]) rfl hq
 have s0:gdR n m [⟨b,g,F⟩] n m=some (g,0):=d0D (i:=0) (D:= [⟨b,g,F⟩]) rfl;refine f0v (n:=n) (m:=m) (th:=a) [⟨b,g,F⟩] ha hta (d0q ?_) ?_ ?_
 .refine ⟨⟨fun _=>h1,fun i hi=>a0E _⟩,⟨fun _=>h2,fun i hi=>a0E _⟩,⟨fun _=> ?_,v0j hl (m0D _) r0 s0⟩,trivial⟩;show (ns++ [k]).length=m+1;rw [y0A,g1z];omega
 .refine ⟨⟨hba,hga,⟨dom,f,hb,fun q hq=>⟨hdom q hq,.inl (hF q hq)⟩⟩,bg,hg,.inl hFm⟩,trivial⟩
 .show (!(Nat.beq g b||false)&&(!false&&true))=true;have:Nat.beq g b=false:=by
   cases e:Nat.beq g b with
   |false=>rfl
   |true=>exact absurd (j0J e).symm hbg
  rw [this];rfl
theorem o0x (f:Nat) (s:Lg) (e:Le):k0N f (lgP s e)= .cols (s.ne+1) [.sc (.strs (s.ent.map Le.id++ [e.id])),.sc (.ints .i64 (s.ent.map Le.date++ [e.date])),.own f (s.ent.map Le.np++ [e.np])]:=by
 unfold k0N lgP;simp
theorem z0d {s:Lg} {e:Le} {ix:Nat} (hix:ix=s.ne) (hl:s.ent.length=s.ne):
  (some (HB.one false (.obj (.map false false (if ix<s.ne then s.ne else s.ne+1) [.strs (a0U ix e.id (s.ent.map Le.id))] [.sc (.ints .i64 (a0U ix (s.ne:Int) ((List.range s.ne).map Int.ofNat)))] (if ix<s.ne then List.range s.ne else List.range s.ne++ [s.ne]) (if ix<s.ne then s.ne else s.ne+1)))):Option HB)=some (.one false (t0F (lgP s e))):=by
 subst hix;unfold t0F lgP;rw [if_neg (by omega),if_neg (by omega),b0V (by rw [b1M,hl]),b0V (by rw [b1M,List.length_range])];simp only [f1T,e1F,h1W,i1Q];rfl
theorem h0e {c:ByteArray} (h:d0k c=true):c.size<=3:=by
 by_cases e:c.size=3
 .omega
 .rw [d0T e] at h;cases h
theorem q0l {M:Int} (a c:ByteArray):∀{L:List Lp},(∀x∈L,-M<=x.n/\x.n<=M)->0<=M->-(M*(L.length:Int))<=lgS L a c/\lgS L a c<=M*(L.length:Int)
 | [],_,h0=>by simp [lgS]
 |x::L,h,h0=>by
  have i1:=q0l a c (L:=L) (fun y hy=>h y (by simp [hy])) h0;have i2:=h x (by simp);simp only [lgS,y0x];have e:M*((L.length+1:Nat):Int)=M*(L.length:Int)+M:=by rw [Int.natCast_add,Int.mul_add];simp
  rw [e];split<;>omega
attribute [local irreducible] seq ByteArray.extract poE q0g h0Q lgE
abbrev psH (s:Lg) (n:Nat) (L:List Lp):a0h:= [(0,some (GB glT)),(1,some (.one false (.cells (lgF 2 3 4 5 6 s)))),(2,some (.one true (k0M s))),(3,some (.one false (k0N 7 s))),(4,some (.one false (t0F s))),(7,c0n false s),(8,some (.one true (poB n L)))]
abbrev psO (s:Lg):a0h:= [(1,some (.one false (.cells (lgF 2 9 4 5 6 s)))),(9,some (.one false (k0N 10 s))),(4,some (.one false (t0F s))),(10,c0n false s)]
set_option maxHeartbeats 2000000 in
theorem o0y (s:Lg) (id:ByteArray) (d:Int) (L:List Lp) (n:Nat) (r:Nat) (R:List Lp) (hs:LgOk s) (hr:R.length=r) (hRv:∀a c,lgV R a c=s.bal a c) (hRd:lgD R) (hRn:r<=16*s.ne) (hn:L.length=n) (h0:lgE s ⟨id,d,L,n⟩=0):
  FC Tryz.prog 9 238 [.ptr 1 0 0 0,.agg [.str id,.int .i64 d,.sl 8 0 0 n]] ((6,some (.one false (t0C r R)))::psH s n L)
   (fun sv H1 n1=>∃x:BagX,LgB (lgP s ⟨id,d,L,n⟩).bal (s.ne+1) x.a x.c x.v/\a0f (.int .i64 0) ((6,some (.one false x.blk))::psO (lgP s ⟨id,d,L,n⟩)) 11 sv H1 n1):=by
 have c1:=z0c s id d L n r R hs hr hRv hn;obtain ⟨hok,hni,hrg,hfu⟩:=i0G hn h0;rw [h0] at c1;have hid:=hok.id;have hdt:=hok.d;have hn1:=hok.n1;have hn16:=hok.n16;have hps:=hok.ps;dsimp only at hid hdt hn1 hn16 hps;have hbd:=r0P hps;have hsz:c1q L:=fun x hx=>by
  obtain ⟨h1,h2⟩:=d0t.1 hps x hx;exact ⟨(c0z (hs.lab _ h1)).2,(h0e (e0Y h2).1)⟩
 have c2:=l0G L n hn hn16 hbd;have c3:=i0p id d L n hn hn1 (by omega);have c4:=o0w id d L n hn hn16 (c0z hid).2 hdt hsz hbd;have hTz:=(h0c (e:=⟨id,d,L,n⟩) (c0z hid).2 hdt hsz hbd n).1;have c5:=o0u s.dig (leT ⟨id,d,L,n⟩ n) (by omega);have hidl:(s.ent.map Le.id).length=s.ne:=by rw [b1M,hs.ne]
 have hix:a0l (s.ent.map Le.id) id=s.ne:=by
  have h1:=Go.Sy.sidx_le (s.ent.map Le.id) id;have h2:¬a0l (s.ent.map Le.id) id<s.ne:=fun h=>hni (sidx_lt.1 (by rw [hidl];exact h))
  omega
 have hpl:=z0d (s:=s) (e:=⟨id,d,L,n⟩) hix hs.ne;have hcb:∀i,-72057594037927936<=((chR L n).getD i lp0).n/\((chR L n).getD i lp0).n<=72057594037927936:=by
  intro i;rcases a1K i (chR L n).length with hi|hi
  .have h1:=q0e (g0V L n) hi;rw [g0i _ _ _ (by omega)] at h1;have h2:=v0G (j0S hbd n) ((chR L n).getD i lp0).a ((chR L n).getD i lp0).c;rw [h1,d1I,j1S (by omega)] at h2;omega
  .rw [List.getD,p0J hi];exact ⟨by decide,by decide⟩
 have hCd:=g0V L n;have hCn:=v0D L n;have hCv:∀a c,lgV (chR L n) a c=lgS L a c:=fun a c=>by rw [g0i a c n (by omega),<-hn,e1e]
 unfold psO;rw [o0x];generalize chR L n=C at*;generalize hm:C.length=m at*;refine fEx Tryz.func238 ?_;repeat' ((conv=>whnf);first|refine cOx (l:= [0,1,2,3,4,5,6,7,8]) c1 ?_|refine cOx (l:= [0,8]) c2 ?_|refine a0a ?_|(apply bRx<;>intro h<;>try (exfalso;(try dsimp only at h);omega)))
 all_goals (conv=>whnf)
 all_goals first
  |(exfalso;omega)
  |skip
 refine a0o (fun sn:List Nat=>⟨[(0,.ptr 1 0 0 0),(3,.ptr 9 0 0 0),(19,.ptr 11 0 0 0)],[(0,some (GB glT)),(1,some (.one false (.cells (lgF 2 3 4 5 6 s)))),(3,some (.one false (k0N 7 s))),(4,some (.one false (t0F s))),(6,some (.one false (t0C (vsR R C sn).length (vsR R C sn)))),(7,c0n false s),(8,some (.one true (poB n L))),(9,some (.one false (.cells [.str id,.int .i64 d,.sl 8 0 0 n]))),(10,some (.one false (t0C m C))),(11,some (.one false (.obj (.iter 10 0 (List.range m) m sn))))],12⟩) (fun sn=>sn.Nodup/\(∀i∈sn,i<m)) (fun sn=>m-sn.length) [] [0,1,2,3,4,5,6,7,8,9,10,11] [] ⟨rfl,⟨rfl,rfl,rfl,trivial⟩,⟨gwk rfl,rfl,rfl,rfl,by rw [<-hr];rfl,rfl,rfl,rfl,rfl,rfl,trivial⟩⟩ ⟨h1M,by simp⟩ ?_;rintro sn ⟨hd,hl⟩;have hsl:=e0P m sn hd hl;have key:∀x,IntKind.i64.wrap (((vsR R C sn).map Lp.n).getD (b0Y ((vsR R C sn).map Lp.a) ((vsR R C sn).map Lp.c) ((C.map Lp.a).getD x ⟨#[]⟩) ((C.map Lp.c).getD x ⟨#[]⟩)) 0+(C.map Lp.n).getD x 0)=lgV (vsR R C sn) ((C.map Lp.a).getD x ⟨#[]⟩) ((C.map Lp.c).getD x ⟨#[]⟩)+(C.map Lp.n).getD x 0:=by
  intro x;have h1:=hs.rng ((C.map Lp.a).getD x ⟨#[]⟩) ((C.map Lp.c).getD x ⟨#[]⟩);have h2:=hcb x;have h3:=q0l (M:=72057594037927936) ((C.map Lp.a).getD x ⟨#[]⟩) ((C.map Lp.c).getD x ⟨#[]⟩) (L:=sn.map (fun i=>C.getD i lp0)) (fun y hy=>by obtain ⟨i,_,rfl⟩:=f1S.1 hy;exact hcb i) (by decide);rw [b1M] at h3;rw [r0S,q0d,hRv,y0N];exact a0m (by omega) (by omega)
 have hrow:∀x,_:=fun x=>e1B (R:=vsR R C sn) rfl (key x) rfl
 have hli:∀x,b0Y ((vsR R C sn).map Lp.a) ((vsR R C sn).map Lp.c) ((C.map Lp.a).getD x ⟨#[]⟩) ((C.map Lp.c).getD x ⟨#[]⟩)<=(vsR R C sn).length:=fun x=>r0M _ _ _
 have hnxt:∀x,vsR R C (x::sn)=e0W (vsR R C sn) ⟨(C.map Lp.a).getD x ⟨#[]⟩,(C.map Lp.n).getD x 0,(C.map Lp.c).getD x ⟨#[]⟩⟩:=fun x=>by rw [<-j0Z];rfl
 have hfin:(∀i,i<m->i∈sn)->LgB (lgP s ⟨id,d,L,n⟩).bal (s.ne+1) ((vsR R C sn).map Lp.a) ((vsR R C sn).map Lp.c) ((vsR R C sn).map Lp.n):=fun hall=>by
  have h3:=v0E R C sn;refine ⟨vsR R C sn,rfl,rfl,rfl,r0O hRd sn,fun a c=> ?_,by omega⟩;rw [c1e hCd hd (by rw [hm];exact hl) (by rw [hm];exact hall),hRv,hCv];rfl
 generalize hV:vsR R C sn=V at*;repeat' ((conv=>whnf);first|(refine ⟨⟨rfl,rfl⟩,fun x hx hnx=> ?_,fun hall=> ?_⟩)|refine cOx (l:= [0,8]) c3 ?_|refine cOx (l:= [0,12]) c4 ?_|refine cPx c5 ?_|(refine ⟨v0P (hli _),?_⟩)|refine a0a ?_|(apply bRx<;>intro h<;>try (exfalso;(try dsimp only at h);omega)))
 all_goals (conv=>whnf)
 .have:=c0k hd hl hx hnx;refine ⟨x::sn,[0,1,2,3,4,5,6,7,8,9,10,11],[],⟨h1t.2 ⟨hnx,hd⟩,fun y hy=> ?_⟩,by simp only [y0x];omega,⟨rfl,⟨rfl,rfl,rfl,trivial⟩,⟨gwk rfl,rfl,rfl,rfl,?_,rfl,rfl,rfl,rfl,rfl,trivial⟩⟩⟩
  .rcases v0e.1 hy with rfl|hy
   .exact hx
   .exact hl y hy
  .rw [hnxt x];exact hrow x
 .have hb:=hfin hall;refine d0R (fun _ _ _ h=>⟨⟨V.map Lp.a,V.map Lp.c,V.map Lp.n,V.length⟩,hb,h⟩) (e0z (l:= [0,1,2,3,4,5,6,7,8,14,15]) [.relab (gdR 15 s.ne [⟨7,12,enF (s.ent++ [⟨id,d,L,n⟩])⟩]) (fun _=>0) [(14,some (.one false (.cols (s.ne+1) [.sc (.strs (s.ent.map Le.id++ [id])),.sc (.ints .i64 (s.ent.map Le.date++ [d])),.own 15 (s.ent.map Le.np++ [n])]))),(15+0,some (.fam false (fun x=>x<s.ne+1) (enF (s.ent++ [⟨id,d,L,n⟩]))))] [7,12] 1] ?_ (a0c (a0c (a0c (a0c (a0u a0b))))));exact ⟨h0d (by rw [b1M];exact hs.ne) (by show (s.ent.map Le.id++ [id]).length=s.ne+1;simp [hs.ne]) (by show (s.ent.map Le.date++ [d]).length=s.ne+1;simp [hs.ne]) (by omega) rfl rfl (fun q hq=>hq) rfl (by decide) (by decide) (by decide) (fun q hq=>v0X q (by rw [hs.ne];exact hq)) (by rw [<-hs.ne];exact v0Y),rfl,rfl,rfl,rfl,rfl,hpl,rfl,trivial⟩
end
section
attribute [local irreducible] a0q a0r a0j a0R
abbrev z0e (ro:Bool) (s:Lg):Option HB:=some (.one ro (.obj (.bag (LgB s.bal s.ne))))
theorem r0V {s:Lg} {x:BagX} (h:x.ok (LgB s.bal s.ne)):∃R:List Lp,R.length=x.n/\x.blk=t0C x.n R/\lgD R/\(∀a c,lgV R a c=s.bal a c)/\R.length<=16*s.ne:=by
 obtain ⟨a,c,v,n⟩:=x;obtain ⟨⟨R,e1,e2,e3,h1,h2,h3⟩,k1,k2,k3⟩:=h;dsimp only at e1 e2 e3 k1 k2 k3;subst e1;subst e2;subst e3;rw [b1M] at k1;exact ⟨R,k1,rfl,h1,h2,h3⟩
theorem t0G (s:Lg) (id:ByteArray) (d:Int) (L:List Lp) (n:Nat) (hs:LgOk s) (hn:L.length=n) (h0:lgE s ⟨id,d,L,n⟩=0):
  FC Tryz.prog 9 238 [.ptr 1 0 0 0,.agg [.str id,.int .i64 d,.sl 8 0 0 n]] ((6,z0e false s)::psH s n L) (a0f (.int .i64 0) ((6,z0e false (lgP s ⟨id,d,L,n⟩))::psO (lgP s ⟨id,d,L,n⟩)) 11):=by
 refine e1j fun x hx=> ?_
 obtain ⟨R,h1,h2,h3,h4,h5⟩:=r0V hx;rw [h2];exact o0y s id d L n x.n R hs h1 h4 h3 (by omega) hn h0
theorem k0b (s:Lg) (a c:ByteArray) (r:Nat) (R:List Lp) (hR:R.length=r) (h:∀a c,lgV R a c=s.bal a c):FC Tryz.prog 7 34 [.ptr 1 0 0 0,.str a,.str c] [(6,some (.one true (t0C r R))),(1,some (.one true (.cells (lgF 2 3 4 5 6 s))))] (a0f (.int .i64 (s.bal a c)) [] 7):=by
 have hv:(R.map Lp.n).getD (b0Y (R.map Lp.a) (R.map Lp.c) a c) 0=s.bal a c:=(r0S R a c).trans (h a c);rw [<-hv];refine fEx Tryz.func34 ?_;repeat' ((conv=>whnf);first|refine a0a ?_|(apply bRx<;>intro h<;>try (exfalso;(try dsimp only at h);omega)))
 all_goals (conv=>whnf)
 all_goals exact rOx [0,1,2,3,4,5,6] a0b
theorem l0I (s:Lg) (a c:ByteArray):FC Tryz.prog 7 34 [.ptr 1 0 0 0,.str a,.str c] [(6,z0e true s),(1,some (.one true (.cells (lgF 2 3 4 5 6 s))))] (a0f (.int .i64 (s.bal a c)) [] 7):=by
 refine v0d fun x hx=> ?_
 obtain ⟨R,h1,h2,h3,h4,h5⟩:=r0V hx;rw [h2];exact k0b s a c x.n R h1 h4
theorem v0Z (s:Lg):FC Tryz.prog 7 42 [.ptr 1 0 0 0] [(1,some (.one true (.cells (lgF 2 3 4 5 6 s))))] (a0f (.int .u64 s.dig) [] 7):=by
 refine fEx Tryz.func42 ?_;repeat' ((conv=>whnf);first|refine a0a ?_|(apply bRx<;>intro h<;>try (exfalso;(try dsimp only at h);omega)))
 all_goals (conv=>whnf)
 all_goals exact rOx [0,1,2,3,4,5,6] a0b
end
section
attribute [local irreducible] a0q a0r a0j a0R
end
section
attribute [local irreducible] a0q a0r a0j a0R
end
section
attribute [local irreducible] a0q a0r a0j a0R
end
section
attribute [local irreducible] a0q a0r a0j a0R
theorem c0J (k:Nat):(k:Int).toNat+0=k:=rfl
end
end Go.Proofs.YtpkaeknigknbgaaGreatDoor
namespace Go.Sy
open Go.RowKit
theorem l0J (s:ByteArray):s.toList=ofB s:=by
 exact (by simpa using j1V s:s.toList=s.data.toList)
theorem h0f (a b:ByteArray):b0y a b=decide (ofB a<ofB b):=by
 unfold b0y;rw [l0J,l0J,Go.Proofs.bytesLess_eq]
theorem w0a {a b:ByteArray} (h:ofB a=ofB b):a=b:=by rw [<-v0m a,<-v0m b,h]
theorem b0r (a:ByteArray):b0y a a=false:=by rw [h0f];exact decide_eq_false (List.lt_irrefl _)
theorem q0m {a b:ByteArray} (h:b0y a b=true):b0y b a=false:=by
 rw [h0f] at h⊢;exact decide_eq_false (List.lt_asymm (of_decide_eq_true h))
theorem k0c {a b c:ByteArray} (h:b0y a b=true) (k:b0y b c=true):b0y a c=true:=by
 rw [h0f] at*;exact decide_eq_true (List.lt_trans (of_decide_eq_true h) (of_decide_eq_true k))
theorem k0d {a b:ByteArray} (h:b0y a b=false) (hne:a≠b):b0y b a=true:=by
 rw [h0f] at*;have h1:=of_decide_eq_false h;have h2:ofB b<=ofB a:=List.not_lt.1 h1;rcases List.le_iff_lt_or_eq.1 h2 with h3|h3
 .exact decide_eq_true h3
 .exact absurd (w0a h3.symm) hne
theorem d0E {l:List ByteArray} (hd:l.Nodup):(sortS l).Pairwise (fun a b=>b0y a b=true):=by
 have tr:∀a b c:List UInt8,leB a b=true->leB b c=true->leB a c=true:=fun a b c h1 h2=>by simp only [leB,decide_eq_true_eq] at*;exact List.le_trans h1 h2
 have tot:∀a b:List UInt8,(leB a b||leB b a)=true:=fun a b=>by simp only [leB,h1B,decide_eq_true_eq];exact List.le_total a b
 have h1:=j1D tr tot (l.map ofB);have hd2:(sortS l).Nodup:=(c0T l).symm.nodup hd;have h2:(sortS l).Pairwise (fun a b=>leB (ofB a) (ofB b)=true):=by
  unfold sortS;rw [List.pairwise_map];exact h1
 refine (List.Pairwise.and h2 hd2).imp ?_;rintro a b ⟨h3,h4⟩;rw [h0f];simp only [leB,decide_eq_true_eq] at h3;rcases List.le_iff_lt_or_eq.1 h3 with h5|h5
 .exact decide_eq_true h5
 .exact absurd (w0a h5) h4
theorem z0f {l:List ByteArray} (hd:l.Nodup) {i j:Nat} (hij:i<j) (hj:j<l.length):b0y ((sortS l).getD i ⟨#[]⟩) ((sortS l).getD j ⟨#[]⟩)=true:=by
 have hj':j<(sortS l).length:=by rw [b0K];exact hj
 have:=h1u.1 (d0E hd) i j (by omega) hj' hij;simpa [List.getD,hj',show i<(sortS l).length by omega] using this
theorem r0W {l m:List ByteArray} (hp:m.Perm l) (hm:m.Pairwise (fun a b=>b0y a b=true)):sortS l=m:=by
 have hdm:m.Nodup:=hm.imp (fun {a b} h e=>by subst e;rw [b0r] at h;cases h);refine j1A (le:=fun a b=>b0y a b=true) (fun a b _ _ h1 h2=> ?_) (d0E (hp.nodup hdm)) hm ((c0T l).trans hp.symm);rw [q0m h1] at h2;cases h2
end Go.Sy
