/- Several texts in one: St1. -/
import Derived.Test.YtclhnagdmajfkaaGreatDoorP4
import Derived.Shelf.Strings.Split
import Derived.Lib.ParseIntBTie
import Derived.Sort.Walk0
set_option linter.unusedVariables false
set_option linter.unusedSimpArgs false
set_option maxRecDepth 100000
namespace Go.Sy
abbrev n0s:=@List.not_mem_nil
abbrev s0i:=@Nat.pow_le_pow_right
abbrev s0j:=@List.mem_cons_of_mem
abbrev v0J:=@List.mem_cons_self
abbrev v0W:=@Int.natCast_nonneg
abbrev v0m:=@List.getElem?_replicate
abbrev x0B:=@List.take_succ_eq_append_getElem
abbrev z0B:=@List.map_append
abbrev a1n:=@ByteArray.size_append
abbrev a1o:=@List.length_replicate
abbrev a1q:=@Int.tmod_eq_emod_of_nonneg
abbrev b1F:=@List.replicate_succ'
abbrev b1Y:=@Nat.div_div_eq_div_mul
abbrev b1z:=@Nat.pow_succ
abbrev c1r:=@List.mem_of_mem_take
abbrev d1C:=@Int.tdiv_eq_ediv_of_nonneg
abbrev d1G:=@List.range_succ
abbrev d1w:=@List.take_left
abbrev e1C:=@List.ext_getElem?
abbrev e1E:=@Int.le_refl
abbrev e1L:=@Nat.div_le_self
abbrev e1Q:=@Bool.and_false
end Go.Sy
namespace Go.Sy
open Go.RowKit
theorem w0G {n:Int} (h:0<=n) (h':n<=4294967295):IntKind.u32.wrap n=n:=IntWalk.u32_in n ⟨h,h'⟩
theorem n0c {n:Int} (h:0<=n) (h':n<=18446744073709551615):IntKind.u64.wrap n=n:=IntWalk.u64_in n ⟨h,h'⟩
theorem v0q {n:Int} (h:0<=n) (h':n<=255):IntKind.u8.wrap n=n:=IntWalk.u8_in n ⟨h,h'⟩
theorem e0F {k:IntKind} {x:Int} (n:Nat) (h:n<=k.bits):h0d k x (n:Int)=x/2^n:=by
 unfold h0d;rw [o0v,Nat.min_eq_left h,Int.fdiv_eq_ediv_of_nonneg];exact Int.pow_nonneg (by omega)
theorem f0R {x:Int}:h0d .u64 x 8=x/256:=e0F (k:= .u64) 8 (by decide)
theorem e0G {x:Int}:h0d .u64 x 16=x/65536:=e0F (k:= .u64) 16 (by decide)
theorem e0H {x:Int}:h0d .u64 x 32=x/4294967296:=e0F (k:= .u64) 32 (by decide)
theorem e0I {x:Int}:h0d .i64 x 18=x/262144:=e0F (k:= .i64) 18 (by decide)
abbrev a0C:=And.intro @a0e (And.intro @w0G (And.intro @n0c (And.intro @v0q (And.intro @f0R (And.intro @e0G (And.intro @e0H (And.intro @e0I (And.intro @a1q (And.intro @d1C (And.intro @o0v @n0r))))))))))
theorem i0H {s:ByteArray} {x:Int} {n:Nat} (h:s.size=n) (k:x<(n:Int)):x<(s.size:Int):=by rw [h];exact k
theorem z0D {s:ByteArray} {x:Int} {n:Nat} (h:s.size=n) (k:x<=(n:Int)):x<=(s.size:Int):=by rw [h];exact k
def d0n:Nat->Nat->List Int
 |0,_=> []
 |n+1,u=>d0n n (u/10)++ [((48+u%10:Nat):Int)]
theorem a0D:∀n u,(d0n n u).length=n
 |0,_=>rfl
 |n+1,u=>by simp [d0n,a0D n]
theorem o0i:∀(n u i:Nat),i<n->(d0n n u)[i]? =some ((48+u/10^(n-1-i)%10:Nat):Int)
 |0,_,i,h=>by omega
 |n+1,u,i,h=>by
  simp only [d0n];by_cases e:i<n
  .rw [o0x (by rw [a0D];exact e),o0i n (u/10) i e,b1Y,show 10*10^(n-1-i)=10^(n+1-1-i) from by rw [<-Nat.pow_succ'];congr 1;omega]
  .have e':i=n:=by omega
   subst e';rw [m0m (by rw [a0D];exact d0M _),a0D];simp
def c0y (u:Nat):Nat:=if u<10 then 1 else c0y (u/10)+1
termination_by u
decreasing_by omega
theorem d0H (u:Nat):0<c0y u:=by rw [c0y];split<;>omega
theorem h0Z (u:Nat):u<10^c0y u:=by
 induction u using Nat.strongRecOn with
 |_ u ih=>
  rw [c0y];split
  .simpa using ‹u<10›
  .have:=ih (u/10) (by omega);rw [b1z];omega
theorem r0m (u:Nat) (h:1<=u):10^(c0y u-1)<=u:=by
 induction u using Nat.strongRecOn with
 |_ u ih=>
  rw [c0y];split
  .simpa using h
  .have:=ih (u/10) (by omega) (by omega);have hp:=d0H (u/10);rw [show c0y (u/10)+1-1=(c0y (u/10)-1)+1 from by omega,b1z];omega
theorem i0a {u k:Nat} (h1:10^k<=u) (h2:u<10^(k+1)):c0y u=k+1:=by
 have hu:1<=u:=s0e (Nat.one_le_pow _ _ (by omega)) h1;have a:=h0Z u;have b:=r0m u hu;have hp:=d0H u;rcases v0n (c0y u) (k+1) with h|h|h
 .have:10^c0y u<=10^k:=s0i (by omega) (by omega);omega
 .exact h
 .have:10^(k+1)<=10^(c0y u-1):=s0i (by omega) (by omega);omega
def dec (u:Nat):ByteArray:=a0m (d0n (c0y u) u)
def b0P (n:Int):ByteArray:=if n<0 then a0m (45::d0n (c0y n.natAbs) n.natAbs) else dec n.toNat
def c0Y (u:Nat):Nat:=if u=0 then 0 else u.log2+1
theorem n0d (u:Nat):u<2^c0Y u:=by
 unfold c0Y;split
 .omega
 .exact Nat.lt_log2_self
theorem i0b (u:Nat) (h:1<=u):2^(c0Y u-1)<=u:=by
 unfold c0Y;rw [if_neg (by omega),a1m];exact Nat.log2_self_le (by omega)
theorem n0e {u k:Nat} (h1:2^k<=u) (h2:u<2^(k+1)):c0Y u=k+1:=by
 have hu:1<=u:=s0e (Nat.one_le_pow _ _ (by omega)) h1;have a:=n0d u;have b:=i0b u hu;have hp:0<c0Y u:=by unfold c0Y;rw [if_neg (by omega)];omega
 rcases v0n (c0Y u) (k+1) with h|h|h
 .have:2^c0Y u<=2^k:=s0i (by omega) (by omega);omega
 .exact h
 .have:2^(k+1)<=2^(c0Y u-1):=s0i (by omega) (by omega);omega
theorem l0X {u:Nat} (h:u<2^64):c0Y u<=64:=by
 rcases f0m 64 (c0Y u) with h1|h1
 .have hu:1<=u:=by
   rcases i0m u with e|e
   .subst e;simp [c0Y] at h1
   .exact e
  have a:=i0b u hu;have:2^64<=2^(c0Y u-1):=s0i (by omega) (by omega);omega
 .exact h1
theorem p0z (u k:Nat) (h:2^k<=u):c0Y u=k+c0Y (u/2^k):=by
 have h1:1<=u/2^k:=(Nat.one_le_div_iff (Nat.two_pow_pos k)).2 h;have a:=n0d (u/2^k);have b:=i0b (u/2^k) h1;have hp:0<c0Y (u/2^k):=by unfold c0Y;rw [if_neg (by omega)];omega
 have:c0Y u=(k+c0Y (u/2^k)-1)+1:=by
  refine n0e ?_ ?_
  .rw [show k+c0Y (u/2^k)-1=(c0Y (u/2^k)-1)+k from by omega,Nat.pow_add];exact (Nat.le_div_iff_mul_le (Nat.two_pow_pos k)).1 b
  .rw [show k+c0Y (u/2^k)-1+1=c0Y (u/2^k)+k from by omega,Nat.pow_add];exact (y0L (Nat.two_pow_pos k)).1 a
 omega
theorem l0Y:∀L,L<=64->1<=L->10^(L*78913/2^18)<=2^L/\2^L<=10^(L*78913/2^18+1)/\(L*78913/2^18=0\/10^(L*78913/2^18-1)<=2^(L-1)):=by
 decide+kernel
theorem t0N {u:Nat} (h1:1<=u) (h2:u<2^64):c0y u=c0Y u*78913/2^18+(if 10^(c0Y u*78913/2^18)<=u then 1 else 0):=by
 have hp:1<=c0Y u:=by unfold c0Y;rw [if_neg (by omega)];omega
 obtain ⟨a,b,c⟩:=l0Y (c0Y u) (l0X h2) hp;have d:=n0d u;have e:=i0b u h1;generalize c0Y u*78913/2^18=k at*;split
 .exact i0a ‹_› (r0k d b)
 .rcases c with c|c
  .subst c;rename_i h;simp at h;omega
  .have hk:k≠0:=by intro h;subst h;rename_i h;simp at h;omega
   have:=i0a (u:=u) (k:=k-1) (s0e c e) (by rw [show k-1+1=k from by omega];omega);omega
def z0E (s:ByteArray) (n:Nat) (f:Nat->Nat):Bool:=decide (s.size=n)&&(List.range n).all (fun i=>Nat.beq (s.data.toList.getD i 0).toNat (f i))
theorem k0w {s:ByteArray} {n:Nat} {f:Nat->Nat} (h:z0E s n f=true) {i:Nat} (hi:i<n):a0h s (i:Int)=(f i:Int):=by
 unfold z0E at h;simp only [c0q,z0e,q0f] at h;unfold a0h;rw [o0v,c0k (h.2 i hi)]
def smF (i:Nat):Nat:=if i%2=0 then 48+i/20 else 48+i/2%10
theorem f0S {s:ByteArray} (h:z0E s 200 smF=true) {y:Int} (h0:0<=y) (h1:y<100):a0h s (y*2+1)=48+y%10:=by
 have e:y*2+1=((y.toNat*2+1:Nat):Int):=by omega
 rw [e,k0w h (by omega)];unfold smF;rw [if_neg (by omega)];omega
theorem d0I {s:ByteArray} (h:z0E s 200 smF=true) {y:Int} (h0:0<=y) (h1:y<100):a0h s (y*2)=48+y/10:=by
 have e:y*2=((y.toNat*2:Nat):Int):=by omega
 rw [e,k0w h (by omega)];unfold smF;rw [if_pos (by omega)];omega
def n0f (l:List Int) (N o n U m:Nat):List Int:=(List.range N).map (fun x=>if o+n-m<=x/\x<o+n then ((48+U/10^(o+n-1-x)%10:Nat):Int) else l.getD x 0)
theorem i0c (l:List Int) (N o n U m:Nat):(n0f l N o n U m).length=N:=by simp [n0f]
theorem l0Z {l:List Int} {N o n U:Nat} (h:l.length=N):n0f l N o n U 0=l:=by
 apply e1C;intro i;simp only [n0f,f0l];by_cases hi:i<N
 .rw [v0p hi];simp only [g0w];rw [if_neg (by omega),List.getD,d0L (by omega)];rfl
 .rw [f0k (by simp;omega),f0k (by omega)];rfl
theorem a0o {l:List Int} {N o n U m i:Nat} {v:Int} (hm:m<n) (hN:o+n<=N) (hi:i=o+n-m-1) (hv:v=((48+U/10^m%10:Nat):Int)):(n0f l N o n U m).set i v=n0f l N o n U (m+1):=by
 subst hi;apply e1C;intro x;rw [e1B,i0c];by_cases e:o+n-m-1=x
 .subst e;rw [if_pos rfl,if_pos (by omega)];simp only [n0f,f0l];rw [v0p (by omega)];simp only [g0w];rw [if_pos (by omega),hv,show o+n-1-(o+n-m-1)=m from by omega]
 .rw [if_neg e];simp only [n0f,f0l];by_cases hx:x<N
  .rw [v0p hx];simp only [g0w];by_cases h2:o+n-m<=x/\x<o+n
   .rw [if_pos h2,if_pos (by omega)]
   .rw [if_neg h2,if_neg (by omega)]
  .rw [f0k (by simp;omega)];rfl
theorem k0x {l:List Int} {N o n U:Nat} (hN:o+n<=N):seg o n (n0f l N o n U n)=d0n n U:=by
 apply e1C;intro i;unfold seg;by_cases hi:i<n
 .rw [p0N,if_pos hi,a1k,o0i _ _ _ hi];simp only [n0f,f0l];rw [v0p (by omega)];simp only [g0w];rw [if_pos (by omega),show o+n-1-(o+i)=n-1-i from by omega]
 .rw [p0N,if_neg hi,f0k (by rw [a0D];omega)]
theorem a0I (U m j:Nat):U/10^(m+j)=U/10^m/10^j:=by rw [Nat.pow_add,b1Y]
attribute [irreducible] n0f dec b0P
theorem t0O {L:List Int} {n:Nat} {v:Int} (h:0<L.length):seg 0 (1+n) (L.set 0 v)=v::seg 1 n L:=by
 cases L with
 |nil=>simp at h
 |cons x l=>simp [seg,y0W 1 n]
end Go.Sy
namespace Go.Proofs.YtclhnagdmajfkaaGreatDoor
open Go.RowKit Go.Sy
section
attribute [local irreducible] a0u a0v a0j b0b
theorem a0G {k:Nat} (h:k<9223372036854775806):IntKind.i64.wrap ((k:Int)+1)=((k+1:Nat):Int):=by rw [a0e (by omega) (by omega)];rfl
end
section
def auC (c:Int):Bool:=decide ((97<=c/\c<=122)\/(65<=c/\c<=90)\/(48<=c/\c<=57)\/c=95\/c=45)
def auI (s:ByteArray):Bool:=decide (1<=s.size/\s.size<=16)&&(List.range s.size).all (fun i=>auC (a0h s (i:Int)))
theorem o0j {s:ByteArray} (h:s.size<1\/16<s.size):auI s=false:=by
 unfold auI;rw [decide_eq_false (by omega),Bool.false_and]
theorem v0r {s:ByteArray} {k:Nat} (hk:k<s.size) (hc:¬((97<=a0h s (k:Int)/\a0h s (k:Int)<=122)\/(65<=a0h s (k:Int)/\a0h s (k:Int)<=90)\/(48<=a0h s (k:Int)/\a0h s (k:Int)<=57)\/a0h s (k:Int)=95\/a0h s (k:Int)=45)):auI s=false:=by
 unfold auI;rw [Bool.and_eq_false_iff];refine .inr ?_;cases e:(List.range s.size).all (fun i=>auC (a0h s (i:Int))) with
 |false=>rfl
 |true=>
  rw [z0e] at e;exact absurd (of_decide_eq_true (e k (by simpa using hk))) hc
def z0F (s:ByteArray) (k:Nat):Prop:=∀i,i<k->auC (a0h s (i:Int))=true
theorem m0a {s:ByteArray} {k:Nat} (h:z0F s k) (hc:(97<=a0h s (k:Int)/\a0h s (k:Int)<=122)\/(65<=a0h s (k:Int)/\a0h s (k:Int)<=90)\/(48<=a0h s (k:Int)/\a0h s (k:Int)<=57)\/a0h s (k:Int)=95\/a0h s (k:Int)=45):z0F s (k+1):=by
 intro i hi;by_cases e:i=k
 .subst e;unfold auC;exact decide_eq_true hc
 .exact h i (by omega)
theorem n0g {s:ByteArray} (h1:1<=s.size) (h2:s.size<=16) (h:z0F s s.size):auI s=true:=by
 unfold auI;rw [decide_eq_true ⟨h1,h2⟩,z0b,z0e];exact fun i hi=>h i (by simpa using hi)
attribute [irreducible] auI
structure Au where
 id:ByteArray
 cur:ByteArray
 app:Int
 rev:Int
 cle:Int
 exp:Int
 st:Int
 att:Int
 unt:Int
 pa:Int
abbrev Au.s (a:Au):SV:= .agg [.str a.id,.str a.cur,.int .i64 a.app,.int .i64 a.rev,.int .i64 a.cle,.int .i64 a.exp,.int .i64 a.st,.int .i64 a.att,.int .i64 a.unt,.int .i64 a.pa]
def Au.zero:Au:=⟨⟨#[]⟩,⟨#[]⟩,0,0,0,0,0,0,0,0⟩
abbrev t2 (r:Au×Int):SV:= .tup [r.1.s,.int .i64 r.2]
abbrev t3 (r:Au×Int×Int):SV:= .tup [r.1.s,.int .i64 r.2.1,.int .i64 r.2.2]
end
section
theorem v0s (c:UInt8) (r:List UInt8):∀{x:List UInt8},c∉x->Lib.indexByte (x++c::r) c=(x.length:Int)
 | [],_=>by
   show Lib.indexByte (c::r) c=0;unfold Lib.indexByte;rw [if_pos (by simp)]
 |b::x,h=>by
  have h1:b≠c:=fun e=>h (by rw [e];exact v0J ..)
  have h2:=v0s c r (x:=x) (fun e=>h (s0j _ e));rw [i0k];unfold Lib.indexByte;rw [if_neg (by simpa using h1),h2,if_neg (by
   intro e;have:=beq_iff_eq.1 e;omega)]
  simp
theorem j0E (c:UInt8):∀(L:List (List UInt8)) (x:List UInt8),c∉x->(∀y∈L,c∉y)->Lib.splitK [c] 0 L.length (x++Lib.joinTail [c] L)=x::L
 | [],x,hx,_=>by simp [Lib.joinTail,Lib.splitK]
 |y::L,x,hx,hL=>by
  have e:x++Lib.joinTail [c] (y::L)=x++c::(y++Lib.joinTail [c] L):=by simp [Lib.joinTail]
  rw [e,m0j];unfold Lib.splitK;rw [Lib.index_one,v0s c _ hx,if_neg (by
   intro e;have:=beq_iff_eq.1 e;omega)]
  have ih:=j0E c L y (hL y (v0J ..)) (fun z hz=>hL z (s0j _ hz));rw [o0v,n0r,List.take_left' rfl];have e2:(x++c::(y++Lib.joinTail [c] L)).drop (x.length+ [c].length)=y++Lib.joinTail [c] L:=by
   rw [<-b1Z,List.drop_left' rfl];rfl
  rw [e2,ih]
theorem j0F (c:UInt8):∀(L:List (List UInt8)),(∀y∈L,c∉y)->(Lib.joinTail [c] L).count c=L.length
 | [],_=>by simp [Lib.joinTail]
 |y::L,hL=>by
  have e:Lib.joinTail [c] (y::L)=c::(y++Lib.joinTail [c] L):=by simp [Lib.joinTail]
  rw [e,List.count_cons_self,List.count_append,List.count_eq_zero.2 (hL y (v0J ..)),j0F c L (fun z hz=>hL z (s0j _ hz)),m0j];omega
theorem d0x (c:UInt8) (x:ByteArray) (L:List ByteArray) (hx:c∉x.data.toList) (hL:∀y∈L,c∉y.data.toList):
  Lib.countB (a0V (x::L) ⟨#[c]⟩) ⟨#[c]⟩=L.length/\Lib.splitB ⟨#[c]⟩ 0 L.length (a0V (x::L) ⟨#[c]⟩)=x::L:=by
 have hL2:∀y∈L.map (·.data.toList),c∉y:=fun y hy=>by
  obtain ⟨z,hz,rfl⟩:=m0l.1 hy;exact hL z hz
 have e:(a0V (x::L) ⟨#[c]⟩).data.toList=x.data.toList++Lib.joinTail [c] (L.map (·.data.toList)):=by
  unfold a0V;show (Lib.join _ _).toArray.toList=_;rw [d1D,k0N,Lib.join_cons]
 constructor
 .show Lib.count _ [c]=_;rw [e,Lib.count_one,List.count_append,List.count_eq_zero.2 hx,j0F c _ hL2,m0k,i0s]
 .have h:=Lib.splitB_data ⟨#[c]⟩ 0 L.length (a0V (x::L) ⟨#[c]⟩);rw [e] at h;have h2:=j0E c (L.map (·.data.toList)) x.data.toList hx hL2;rw [m0k] at h2;rw [show (⟨#[c]⟩:ByteArray).data.toList= [c] from rfl,h2,<-k0N (f:=fun b:ByteArray=>b.data.toList)] at h;refine List.map_inj_right (f:=fun b:ByteArray=>b.data.toList) (fun a b hab=> ?_)|>.1 h
  cases a;cases b;exact congrArg ByteArray.mk (n0p.1 hab)
abbrev u8L (l:List Int):List UInt8:=l.map (fun x=>UInt8.ofNat x.toNat)
theorem b0Q (l:List Int):(a0m l).data.toList=u8L l:=by simp [a0m]
theorem f0T {A B:ByteArray} (h:A.data.toList=B.data.toList):A=B:=by
 cases A;cases B;rename_i a b;congr 1;exact n0p.1 h
theorem v0t (k:Nat) (h:k<10):(UInt8.ofNat (((48+k:Nat):Int)).toNat).toNat=48+k:=by
 rw [show (((48+k:Nat):Int)).toNat=48+k from rfl,UInt8.toNat_ofNat'];omega
theorem n0h:∀(n u:Nat),u<10^n->∀(acc:Nat) (rest:List UInt8),acc*10^n+u<18446744073709551616->Lib.parseUint10 acc (u8L (d0n n u)++rest)=Lib.parseUint10 (acc*10^n+u) rest
 |0,u,h,acc,rest,_=>by
  have:u=0:=by simpa using h
  subst this;simp [d0n]
 |n+1,u,h,acc,rest,hb=>by
  rw [b1z] at h hb;have e:acc*(10^n*10)=acc*10^n*10:=by rw [Nat.mul_assoc]
  rw [e] at hb;generalize hA:acc*10^n=A at*;have ih:=n0h n (u/10) (by omega) acc (UInt8.ofNat (((48+u%10:Nat):Int)).toNat::rest) (by rw [hA];omega);rw [hA] at ih;simp only [u8L,d0n,z0B,k0N,s0c,r0d,List.singleton_append] at ih⊢;rw [ih];have hd:=v0t (u%10) (by omega);simp only [Lib.parseUint10];rw [hd,if_pos (by omega),if_neg (by omega),if_neg (by omega),b1z,e];congr 1;omega
theorem e0J:∀(n u:Nat) (x:UInt8),x∈u8L (d0n n u)->48<=x.toNat/\x.toNat<=57
 |0,_,x,h=>by simp [d0n] at h
 |n+1,u,x,h=>by
  simp only [u8L,d0n,z0B,k0N,s0c,k0Q,i0p] at h;rcases h with h|rfl
  .exact e0J n _ x h
  .rw [v0t (u%10) (by omega)];omega
theorem z0G (n:Nat) (h:n<9223372036854775808):Lib.parseIntB 64 (dec n).data.toList= .ok (n:Int):=by
 rw [Lib.parseIntB_64];unfold dec;rw [b0Q];have hp:=n0h (c0y n) n (h0Z n) 0 [] (by omega);rw [List.append_nil,b1H,i0s] at hp;have hd:=e0J (c0y n) n;have hl:(u8L (d0n (c0y n) n)).length=c0y n:=by rw [m0k,a0D]
 have h0:=d0H n;generalize u8L (d0n (c0y n) n)=l at*;cases l with
 |nil=>simp at hl;omega
 |cons c r=>
  have hc:=hd c (by simp);simp only [Lib.atoiAll,Lib.parseMag];have hn:¬(c.toNat=43\/c.toNat=45):=by omega
  rw [if_neg hn,if_neg (List.cons_ne_nil _ _),hp];simp only [Lib.parseUint10];rw [if_neg (by omega),if_neg (by omega),if_neg (by omega)]
theorem z0H (n:Nat) (h:n<=9223372036854775808):Lib.parseIntB 64 (a0m (45::d0n (c0y n) n)).data.toList= .ok (-(n:Int)):=by
 rw [Lib.parseIntB_64,b0Q];have hp:=n0h (c0y n) n (h0Z n) 0 [] (by omega);rw [List.append_nil,b1H,i0s] at hp;have hl:(u8L (d0n (c0y n) n)).length=c0y n:=by rw [m0k,a0D]
 have h0:=d0H n;have e:u8L (45::d0n (c0y n) n)=45::u8L (d0n (c0y n) n):=rfl;rw [e];generalize u8L (d0n (c0y n) n)=l at*;have hne:l≠[]:=fun q=>by rw [q] at hl;simp at hl;omega
 simp only [Lib.atoiAll,Lib.parseMag];rw [if_pos (show (45:UInt8).toNat=43\/(45:UInt8).toNat=45 from .inr rfl),if_neg hne,hp];simp only [Lib.parseUint10];rw [if_neg (fun q=>q.1 rfl),if_neg (fun q=>by have:=q.2;omega),if_pos (show (45:UInt8).toNat=45 from rfl)]
theorem r0n {n:Int} (h1: -9223372036854775808<=n) (h2:n<=9223372036854775807):Lib.parseIntB 64 (b0P n).data.toList= .ok n:=by
 unfold b0P;split
 .have:=z0H n.natAbs (by omega);rw [this];congr 1;omega
 .rw [z0G n.toNat (by omega)];congr 1;omega
theorem v0u {s:ByteArray} {c:UInt8} (h:∀k,k<s.size->a0h s (k:Int)≠(c.toNat:Int)):c∉s.data.toList:=by
 intro hm;obtain ⟨k,hk,e⟩:=List.mem_iff_getElem.1 hm;have hk2:k<s.size:=by show k<s.data.size;rw [<-o0w];exact hk
 refine h k hk2 ?_;unfold a0h;rw [o0v,List.getD,d0L hk,e];rfl
theorem c1b (n:Int):(124:UInt8)∉(b0P n).data.toList:=by
 unfold b0P dec;split
 .rw [b0Q];intro hm;rcases d0z.1 (show (124:UInt8)∈(45:UInt8)::u8L (d0n (c0y n.natAbs) n.natAbs) from hm) with h|h
  .revert h;decide
  .have:=e0J _ _ _ h;revert this;decide
 .rw [b0Q];intro hm;have:=e0J _ _ _ hm;revert this;decide
def FrT (s:ByteArray):Prop:=(124:UInt8)∉s.data.toList/\(10:UInt8)∉s.data.toList
theorem w0H {s:ByteArray} (h:auI s=true):FrT s:=by
 unfold auI at h;rw [c0q,z0e] at h;constructor;all_goals
  refine v0u fun k hk=> ?_
  have h1:=h.2 k (q0f.2 hk);unfold auC at h1;have h1:=of_decide_eq_true h1
 .show a0h s (k:Int)≠124;omega
 .show a0h s (k:Int)≠10;omega
theorem g0Q (n:Int):FrT (b0P n):=by
 refine ⟨c1b n,?_⟩;unfold b0P dec;split
 .rw [b0Q];intro hm;rcases d0z.1 (show (10:UInt8)∈(45:UInt8)::u8L (d0n (c0y n.natAbs) n.natAbs) from hm) with h|h
  .revert h;decide
  .have:=e0J _ _ _ h;revert this;decide
 .rw [b0Q];intro hm;have:=e0J _ _ _ hm;revert this;decide
theorem b0X (a b:ByteArray):(a++b).data.toList=a.data.toList++b.data.toList:=by simp
theorem r0o (a:ByteArray):a.data.toList.length=a.size:=by simp
theorem r0p (s:ByteArray) (a b:Nat):(s.extract a b).data.toList=(s.data.toList.take b).drop a:=by
 rw [b1X,e1J,d1E,List.drop_take]
theorem k0y (a b:ByteArray):(a++b).extract 0 a.size=a:=by
 apply f0T;rw [r0p,b0X,List.drop_zero,<-r0o a,d1w]
theorem k0z (a b:ByteArray):(a++b).extract a.size (a++b).size=b:=by
 apply f0T;rw [r0p,<-r0o (a++b),List.take_length,b0X,<-r0o a,List.drop_left]
def lnS:List ByteArray->ByteArray
 | []=>⟨#[]⟩
 |x::L=>x++(⟨#[10]⟩++lnS L)
theorem d0J (a b c:ByteArray):a++b++c=a++(b++c):=by apply f0T;simp only [b0X,r0d]
theorem c1c (a:ByteArray):(⟨#[]⟩:ByteArray)++a=a:=by apply f0T;rw [b0X];rfl
theorem c1d (a:ByteArray):a++(⟨#[]⟩:ByteArray)=a:=by apply f0T;rw [b0X];exact List.append_nil _
theorem k0A:∀A B:List ByteArray,lnS (A++B)=lnS A++lnS B
 | [],B=>(c1c _).symm
 |x::A,B=>by
  show x++(⟨#[10]⟩++lnS (A++B))=x++(⟨#[10]⟩++lnS A)++lnS B;rw [k0A A B];simp only [d0J]
theorem k0B (x:ByteArray):lnS [x]=x++⟨#[10]⟩:=by
 show x++(⟨#[10]⟩++⟨#[]⟩)=_;rw [c1d]
theorem i0d:∀L:List ByteArray,Lib.joinTail [10] (L.map (·.data.toList))++ [10]=10::(lnS L).data.toList
 | []=>rfl
 |y::L=>by
  show Lib.joinTail [10] (y.data.toList::L.map (·.data.toList))++ [10]=10::(y++(⟨#[10]⟩++lnS L)).data.toList;have e:Lib.joinTail [10] (y.data.toList::L.map (·.data.toList))=10::(y.data.toList++Lib.joinTail [10] (L.map (·.data.toList))):=by simp [Lib.joinTail]
  rw [e,b0X,b0X,i0k,r0d,i0d L];rfl
theorem e0n (c:UInt8) (x:ByteArray) (L:List ByteArray):(a0V (x::L) ⟨#[c]⟩).data.toList=x.data.toList++Lib.joinTail [c] (L.map (·.data.toList)):=by
 unfold a0V;show (Lib.join _ _).toArray.toList=_;rw [d1D,k0N,Lib.join_cons]
theorem o0k (x:ByteArray) (L:List ByteArray):lnS (x::L)=a0V (x::L) ⟨#[10]⟩++⟨#[10]⟩:=by
 apply f0T;rw [b0X,e0n,r0d];show (x++(⟨#[10]⟩++lnS L)).data.toList=x.data.toList++(Lib.joinTail [10] (L.map (·.data.toList))++ [10]);rw [i0d,b0X,b0X];rfl
theorem r0q {x:ByteArray} {L:List ByteArray}:0<(lnS (x::L)).size:=by
 rw [o0k];have:(a0V (x::L) ⟨#[10]⟩++⟨#[10]⟩:ByteArray).size=(a0V (x::L) ⟨#[10]⟩).size+1:=by simp;rfl
 omega
theorem f0U {c d:UInt8} (hd:c≠d) {x:ByteArray} {L:List ByteArray} (hx:c∉x.data.toList) (hL:∀y∈L,c∉y.data.toList):c∉(a0V (x::L) ⟨#[d]⟩).data.toList:=by
 rw [e0n];intro h0;rcases k0Q.1 h0 with h|h
 .exact hx h
 clear hx h0;revert h;induction L with
 |nil=>intro h;simp [Lib.joinTail] at h
 |cons y L ih=>
  intro h;have e:Lib.joinTail [d] ((y::L).map (·.data.toList))=d::(y.data.toList++Lib.joinTail [d] (L.map (·.data.toList))):=by simp [Lib.joinTail]
  rw [e] at h;rcases d0z.1 h with h|h
  .exact hd h
  .rcases k0Q.1 h with h|h
   .exact hL y (v0J ..) h
   .exact ih (fun z hz=>hL z (s0j _ hz)) h
end
section
attribute [local irreducible] a0u a0v a0j b0b
def w0I (s:ByteArray) (i:Nat):Prop:=48<=a0h s (i:Int)/\a0h s (i:Int)<=57
instance (s:ByteArray) (i:Nat):Decidable (w0I s i):=by unfold w0I;infer_instance
def p0A (s:ByteArray):Nat->Bool
 |0=>true
 |k+1=>p0A s k&&decide (w0I s k)
def dgB (s:ByteArray):Bool:=p0A s s.size
theorem g0u {s:ByteArray} {k n:Nat} (h:k<n) (hc:¬w0I s k):p0A s n=false:=by
 induction n with
 |zero=>omega
 |succ n ih=>
  simp only [p0A];by_cases e:k=n
  .subst e;simp [hc]
  .rw [ih (by omega)];rfl
theorem m0b {s:ByteArray} {k:Nat} (h:p0A s k=true) (h1:48<=a0h s (k:Int)) (h2:a0h s (k:Int)<=57):p0A s (k+1)=true:=by
 simp only [p0A,h,z0b,decide_eq_true_eq];exact ⟨h1,h2⟩
theorem r0r {s:ByteArray} {k n:Nat} (h:k<n) (hd:p0A s n=true):w0I s k:=by
 by_cases hc:w0I s k
 .exact hc
 .rw [g0u h hc] at hd;cases hd
theorem k0C {s:ByteArray} {k:Nat} (hk:k<s.size) (h:a0h s (k:Int)<128):Utf8.decode s k=((a0h s (k:Int)).toNat,1):=by
 have e:(s.get! k).toNat=(a0h s (k:Int)).toNat:=by
  rw [l0U s k hk,o0v];congr 1;show s.data[k]! =s.data[k];exact getElem!_pos s.data k hk
 unfold Utf8.decode;simp only [n0r];rw [if_pos (by rw [e];have:=f0O s (k:Int);omega),e]
theorem t0P {s:ByteArray} {k:Nat} (hk:k<s.size) (h:¬a0h s (k:Int)<128):128<=(Utf8.decode s k).1:=by
 have e:(s.get! k).toNat=(a0h s (k:Int)).toNat:=by
  rw [l0U s k hk,o0v];congr 1;show s.data[k]! =s.data[k];exact getElem!_pos s.data k hk
 unfold Utf8.decode;simp only [n0r];rw [if_neg (by rw [e];have:=f0O s (k:Int);omega)];have hr:Utf8.runeError=65533:=rfl;split
 .split
  .dsimp only;omega
  .dsimp only;omega
 .split
  .split
   .rename_i hc;simp only [ge_iff_le,c0q,decide_eq_true_eq] at hc;dsimp only;omega
   .dsimp only;omega
  .split
   .split
    .rename_i hc;simp only [ge_iff_le,c0q,decide_eq_true_eq] at hc;dsimp only;omega
    .dsimp only;omega
   .dsimp only;omega
theorem f0V (s:ByteArray):a0y Tryz.prog 224 [.str s] (.bool (dgB s)):=by
 refine fEx Tryz.func224 ?_
 (conv=>whnf)
 refine a0n (fun k:Nat=>⟨[(0,.str s),(6,.ptr 1 0 0 0)],[(1,some (.one false (.obj (.siter s k))))],2⟩) (fun k=>k<=s.size/\p0A s k=true) (fun k=>s.size-k) 0 [0,1] [] wHx ⟨by omega,rfl⟩ ?_;rintro k ⟨hk,hc⟩;repeat' ((conv=>whnf);first|(refine ⟨fun hlt=> ?_,fun hge=> ?_⟩)|refine a0a ?_|(apply bRx<;>intro h<;>try (exfalso;(try dsimp only at h);omega)))
 all_goals (conv=>whnf)
 .have hf:dgB s=false:=by
   refine g0u hlt (fun hd=> ?_);have h:((Utf8.decode s k).1:Int)<48:=h;rw [k0C hlt (by have:=hd.2;omega)] at h;have:=hd.1;simp only at h;omega
  exact a0b (by rw [hf];rfl)
 .have hf:dgB s=false:=by
   refine g0u hlt (fun hd=> ?_);have h2:((Utf8.decode s k).1:Int)>57:=by assumption
   rw [k0C hlt (by have:=hd.2;omega)] at h2;have:=hd.2;simp only at h2;omega
  exact a0b (by rw [hf];rfl)
 .have h1:¬((Utf8.decode s k).1:Int)<48:=by assumption
  have h2:¬((Utf8.decode s k).1:Int)>57:=by assumption
  by_cases hl:a0h s (k:Int)<128
  .rw [k0C hlt hl] at h1 h2⊢;simp only at h1 h2;refine ⟨k+1,[0,1],[],⟨by omega,m0b hc (by omega) (by omega)⟩,by omega,⟨rfl,⟨rfl,rfl,trivial⟩,⟨rfl,trivial⟩⟩⟩
  .have:=t0P hlt hl;exfalso;omega
 .have e:k=s.size:=by omega
  subst e;refine a0b ?_;rw [show dgB s=true from hc];rfl
def luT (s:ByteArray) (k:Nat):Int:=
 let n:=a0h s (k:Int)-48
 if (s.size-k)%2=0 then (if n*2>9 then n*2-9 else n*2) else n
def o0l (s:ByteArray):Nat->Int
 |0=>0
 |k+1=>o0l s k+luT s k
theorem v0v {s:ByteArray} {k:Nat} (h:w0I s k):0<=luT s k/\luT s k<=9:=by
 obtain ⟨h1,h2⟩:=h;unfold luT;dsimp only;split
 .split<;>omega
 .omega
theorem r0s {s:ByteArray}:∀k,p0A s k=true->0<=o0l s k/\o0l s k<=9*k
 |0,_=>by simp [o0l]
 |k+1,h=>by
  have h1:=r0r (b1M k) h;have h0:p0A s k=true:=by simp only [p0A,c0q] at h;exact h.1
  have:=r0s k h0;have:=v0v h1;simp only [o0l];omega
theorem w0J (s:ByteArray) (hd:dgB s=true) (hs:s.size<=1000000):a0y Tryz.prog 294 [.str s] (.int .i64 (o0l s s.size)):=by
 refine fEx Tryz.func294 ?_
 (conv=>whnf)
 refine a0n (fun k:Nat=>⟨[(0,.str s),(3,.int .i64 (o0l s k)),(8,.ptr 1 0 0 0)],[(1,some (.one false (.obj (.siter s k))))],2⟩) (fun k=>k<=s.size/\p0A s k=true) (fun k=>s.size-k) 0 [0,1] [] wHx ⟨by omega,rfl⟩ ?_;rintro k ⟨hk,hc⟩;by_cases hlt:k<s.size
 .have ha:=r0r hlt hd;obtain ⟨h48,h57⟩:=ha;have hde:=k0C hlt (by omega);have hb:=r0s k hc;have hnx:(Utf8.decode s k).1=(a0h s (k:Int)).toNat:=by rw [hde]
  have hpx:(Utf8.decode s k).2=1:=by rw [hde]
  have w1:IntKind.i32.wrap (((Utf8.decode s k).1:Int)-48)=a0h s (k:Int)-48:=by
   rw [hnx,IntWalk.i32_in _ ⟨by omega,by omega⟩];omega
  have w2:IntKind.i64.wrap (a0h s (k:Int)-48)=a0h s (k:Int)-48:=a0e (by omega) (by omega);have w3:IntKind.i64.wrap ((a0h s (k:Int)-48)*2)=(a0h s (k:Int)-48)*2:=a0e (by omega) (by omega);have w4:IntKind.i64.wrap ((a0h s (k:Int)-48)*2-9)=(a0h s (k:Int)-48)*2-9:=a0e (by omega) (by omega);have w5:IntKind.i64.wrap ((s.size:Int)-(k:Int))=((s.size-k:Nat):Int):=by rw [a0e (by omega) (by omega)];omega
  have w6:(((s.size-k:Nat):Int)).tmod 2=(((s.size-k)%2:Nat):Int):=by rw [a1q (by omega)];rfl
  have w7:IntKind.i64.wrap (((s.size-k)%2:Nat):Int)=(((s.size-k)%2:Nat):Int):=a0e (by omega) (by omega);have w8:IntKind.i64.wrap (o0l s k+luT s k)=o0l s (k+1):=by
   have:=v0v (s:=s) (k:=k) ⟨h48,h57⟩;rw [a0e (by omega) (by omega)];rfl
  repeat' ((conv=>whnf);first|(refine ⟨fun _=> ?_,fun hge=>absurd hlt hge⟩)|refine a0a ?_|(apply bRx<;>intro h<;>try (exfalso;(try dsimp only at h);omega)))
  all_goals (conv=>whnf)
  all_goals (rw [hpx];refine ⟨k+1,[0,1],[],⟨hlt,m0b hc h48 h57⟩,by omega,⟨rfl,⟨rfl,congrArg (fun z=>some (SV.int .i64 z)) ?_,rfl,trivial⟩,⟨rfl,trivial⟩⟩⟩)
  .have h':(IntKind.i64.wrap ((s.size:Int)-(k:Int))).tmod 2=0:=by assumption
   have e9:9<IntKind.i64.wrap (IntKind.i64.wrap (IntKind.i32.wrap (((Utf8.decode s k).1:Int)-48))*2):=h;rw [w1,w2,w3] at e9;rw [w5,w6] at h';show IntKind.i64.wrap (o0l s k+IntKind.i64.wrap (IntKind.i64.wrap (IntKind.i64.wrap (IntKind.i32.wrap (((Utf8.decode s k).1:Int)-48))*2)-9))=_;have e:luT s k=(a0h s (k:Int)-48)*2-9:=by unfold luT;dsimp only;rw [if_pos (by omega),if_pos (by omega)]
   rw [w1,w2,w3,w4,<-w8,e]
  .have h':(IntKind.i64.wrap ((s.size:Int)-(k:Int))).tmod 2=0:=by assumption
   have e9:¬9<IntKind.i64.wrap (IntKind.i64.wrap (IntKind.i32.wrap (((Utf8.decode s k).1:Int)-48))*2):=h;rw [w1,w2,w3] at e9;rw [w5,w6] at h';show IntKind.i64.wrap (o0l s k+IntKind.i64.wrap (IntKind.i64.wrap (IntKind.i32.wrap (((Utf8.decode s k).1:Int)-48))*2))=_;have e:luT s k=(a0h s (k:Int)-48)*2:=by unfold luT;dsimp only;rw [if_pos (by omega),if_neg (by omega)]
   rw [w1,w2,w3,<-w8,e]
  .have h':¬(IntKind.i64.wrap ((s.size:Int)-(k:Int))).tmod 2=0:=h;rw [w5,w6] at h';show IntKind.i64.wrap (o0l s k+IntKind.i64.wrap (IntKind.i32.wrap (((Utf8.decode s k).1:Int)-48)))=_;have e:luT s k=(a0h s (k:Int)-48):=by unfold luT;dsimp only;rw [if_neg (by omega)]
   rw [w1,w2,<-w8,e]
 .have e:k=s.size:=by omega
  subst e;repeat' ((conv=>whnf);first|(refine ⟨fun h0=>absurd h0 hlt,fun _=> ?_⟩)|refine a0a ?_|(apply bRx<;>intro h<;>try (exfalso;(try dsimp only at h);omega)))
  all_goals (conv=>whnf)
  all_goals exact a0b rfl
def luB (s:ByteArray):Bool:=dgB s&&decide ((o0l s s.size).tmod 10=0)
theorem t0Q (s:ByteArray) (h0:¬s=⟨#[]⟩) (hs:s.size<=1000000):a0y Tryz.prog 225 [.str s] (.bool (luB s)):=by
 have c1:=f0V s;unfold luB;cases hd:dgB s with
 |false=>
  rw [hd] at c1;refine fEx Tryz.func225 ?_;repeat' ((conv=>whnf);first|refine cPx c1 ?_|refine a0a ?_|(apply bRx<;>intro h<;>try (exfalso;(try dsimp only at h);omega)))
  all_goals (conv=>whnf)
  all_goals first
   |exact a0b rfl
   |(exfalso;exact h0 (by assumption))
 |true=>
  rw [hd] at c1;have c2:=w0J s hd hs;by_cases hm:(o0l s s.size).tmod 10=0
  .rw [decide_eq_true hm];refine fEx Tryz.func225 ?_;repeat' ((conv=>whnf);first|refine cPx c1 ?_|refine cPx c2 ?_|refine a0a ?_|(apply bRx<;>intro h<;>try (exfalso;(try dsimp only at h);omega)))
   all_goals (conv=>whnf)
   all_goals first
    |exact a0b rfl
    |(exfalso;exact h0 (by assumption))
    |exact a0b (congrArg SV.bool (decide_eq_true hm))
  .rw [decide_eq_false hm];refine fEx Tryz.func225 ?_;repeat' ((conv=>whnf);first|refine cPx c1 ?_|refine cPx c2 ?_|refine a0a ?_|(apply bRx<;>intro h<;>try (exfalso;(try dsimp only at h);omega)))
   all_goals (conv=>whnf)
   all_goals first
    |exact a0b rfl
    |(exfalso;exact h0 (by assumption))
    |exact a0b (congrArg SV.bool (decide_eq_false hm))
def c1e (s:ByteArray):Int:=if s.size<12 then 1 else if 19<s.size then 3 else if dgB s=false then 2 else if luB s=false then 9 else 0
theorem r0t (s:ByteArray):a0y Tryz.prog 165 [.str s] (.int .i64 (c1e s)):=by
 have c1:=f0V s;unfold c1e;by_cases h12:s.size<12
 .rw [if_pos h12];refine fEx Tryz.func165 ?_;repeat' ((conv=>whnf);first|refine a0a ?_|(apply bRx<;>intro h<;>try (exfalso;(try dsimp only at h);omega)))
  all_goals (conv=>whnf)
  all_goals exact a0b rfl
 .rw [if_neg h12];by_cases h19:19<s.size
  .rw [if_pos h19];refine fEx Tryz.func165 ?_;repeat' ((conv=>whnf);first|refine a0a ?_|(apply bRx<;>intro h<;>try (exfalso;(try dsimp only at h);omega)))
   all_goals (conv=>whnf)
   all_goals exact a0b rfl
  .rw [if_neg h19];have c2:=t0Q s (fun e=>h12 (by rw [e];decide)) (by omega);cases hd:dgB s with
   |false=>
    rw [hd] at c1;rw [if_pos rfl];refine fEx Tryz.func165 ?_;repeat' ((conv=>whnf);first|refine cPx c1 ?_|refine a0a ?_|(apply bRx<;>intro h<;>try (exfalso;(try dsimp only at h);omega)))
    all_goals (conv=>whnf)
    all_goals exact a0b rfl
   |true=>
    rw [hd] at c1;rw [if_neg (by decide)];cases hl:luB s with
    |false=>
     rw [hl] at c2;rw [if_pos rfl];refine fEx Tryz.func165 ?_;repeat' ((conv=>whnf);first|refine cPx c1 ?_|refine cPx c2 ?_|refine a0a ?_|(apply bRx<;>intro h<;>try (exfalso;(try dsimp only at h);omega)))
     all_goals (conv=>whnf)
     all_goals exact a0b rfl
    |true=>
     rw [hl] at c2;rw [if_neg (by decide)];refine fEx Tryz.func165 ?_;repeat' ((conv=>whnf);first|refine cPx c1 ?_|refine cPx c2 ?_|refine a0a ?_|(apply bRx<;>intro h<;>try (exfalso;(try dsimp only at h);omega)))
     all_goals (conv=>whnf)
     all_goals exact a0b rfl
end
section
attribute [local irreducible] a0u a0v a0j b0b
def mkB (c:Int):Bool:=decide (0<=Lib.indexByte [40,41,123,125,44,59,58,61,60,62,43,45,42,37,46] c.toNat.toUInt8)
theorem r0u (c:Int) (h0:0<=c) (h1:c<128):a0y Tryz.prog 123 [.str ⟨#[40,41,123,125,44,59,58,61,60,62,43,45,42,37,46]⟩,.int .i32 c] (.bool (mkB c)):=by
 refine b0E (vals:= [.string ⟨#[40,41,123,125,44,59,58,61,60,62,43,45,42,37,46]⟩,.int .i32 c]) (v:= .bool (mkB c)) (b0g Tryz.func123 (by kernel_rfl) (by kernel_rfl)) ?_ ?_ ?_
 .intro g vs h;simpa [Rvs,Rv] using h
 .intro g;simp [Rv]
 .intro w;have h:=Tryz.strings_ContainsRune_ascii ⟨#[40,41,123,125,44,59,58,61,60,62,43,45,42,37,46]⟩ c w h0 h1;refine h.mono ?_;rintro e w' ⟨rfl,rfl⟩;exact ⟨rfl,Below.refl _ _⟩
def ltP (c:Int):Prop:=(97<=c/\c<=122)\/(65<=c/\c<=90)
instance (c:Int):Decidable (ltP c):=by unfold ltP;infer_instance
def wdP (c:Int):Prop:=ltP c\/(48<=c/\c<=57)\/c=95
instance (c:Int):Decidable (wdP c):=by unfold wdP;infer_instance
def i0I (c:Int):Int:=if c=32\/c=9\/c=10 then 1 else if ltP c then 2 else if 48<=c/\c<=57 then 3 else if c=95 then 4 else if c=34 then 5 else if c=35 then 6 else if c<=126/\mkB c=true then 7 else 0
theorem i32_in {c:Int} (h0:0<=c) (h1:c<=255):IntKind.i32.wrap c=c:=IntWalk.i32_in _ ⟨by omega,by omega⟩
theorem k0D {c:Int}:i0I c=2↔ltP c:=by
 unfold i0I;by_cases h:ltP c
 .have:¬(c=32\/c=9\/c=10):=by unfold ltP at h;omega
  rw [if_neg this,if_pos h];simp [h]
 .simp only [if_neg h]
  (repeat' split)<;>simp [h]
theorem w0K {c:Int}:(i0I c=2\/i0I c=3\/i0I c=4)↔wdP c:=by
 have e:∀x,i0I c=x->(i0I c=2\/i0I c=3\/i0I c=4↔x=2\/x=3\/x=4):=fun x e=>by rw [e]
 refine (e _ rfl).trans ?_;unfold wdP;by_cases h2:ltP c
 .have:=k0D.2 h2;simp [this,h2]
 .have h2':=h2;unfold ltP at h2';have n2:i0I c≠2:=fun h=>h2 (k0D.1 h)
  have e3:i0I c=3↔(48<=c/\c<=57):=by
   unfold i0I;rw [if_neg h2];(repeat' split)<;>omega
  have e4:i0I c=4↔c=95:=by
   unfold i0I;rw [if_neg h2];(repeat' split)<;>omega
  rw [e3,e4];simp [n2,h2]
theorem a0z (c:Int) (h0:0<=c) (h1:c<=255):a0y Tryz.prog 62 [.int .i32 c] (.int .i64 (i0I c)):=by
 by_cases h126:c<=126
 .have cm:=r0u c h0 (by omega);cases hm:mkB c with
  |true=>
   rw [hm] at cm;unfold i0I ltP;rw [hm];refine fEx Tryz.func62 ?_;repeat' ((conv=>whnf);first|refine cPx cm ?_|refine a0a ?_|(apply bRx<;>intro h<;>try (exfalso;(try dsimp only at h);omega)))
   all_goals (conv=>whnf)
   all_goals (refine a0b (congrArg (SV.int .i64) ?_))
   all_goals first
    |((try simp only [and_true,u0l,and_false,if_false]);(repeat' split)<;>omega)
  |false=>
   rw [hm] at cm;unfold i0I ltP;rw [hm];refine fEx Tryz.func62 ?_;repeat' ((conv=>whnf);first|refine cPx cm ?_|refine a0a ?_|(apply bRx<;>intro h<;>try (exfalso;(try dsimp only at h);omega)))
   all_goals (conv=>whnf)
   all_goals (refine a0b (congrArg (SV.int .i64) ?_))
   all_goals first
    |((try simp only [and_true,u0l,and_false,if_false]);(repeat' split)<;>omega)
 .unfold i0I ltP;refine fEx Tryz.func62 ?_;repeat' ((conv=>whnf);first|refine a0a ?_|(apply bRx<;>intro h<;>try (exfalso;(try dsimp only at h);omega)))
  all_goals (conv=>whnf)
  all_goals (refine a0b (congrArg (SV.int .i64) ?_))
  all_goals first
   |((repeat' split)<;>omega)
theorem d0j (c:Int) (h0:0<=c) (h1:c<=255):a0y Tryz.prog 124 [.int .u8 c] (.bool (decide (wdP c))):=by
 have c1:=a0z c h0 h1;have hw:=w0K (c:=c);rw [show (SV.int .i32 c)=SV.int .i32 (IntKind.i32.wrap c) by rw [i32_in h0 h1]] at c1;generalize i0I c=x at c1 hw;refine fEx Tryz.func124 ?_;repeat' ((conv=>whnf);first|refine cPx c1 ?_|refine a0a ?_|(apply bRx<;>intro h<;>try (exfalso;(try dsimp only at h);omega)))
 all_goals (conv=>whnf)
 all_goals first
  |exact a0b (congrArg SV.bool (decide_eq_true (hw.1 (by omega))).symm)
  |exact a0b (congrArg SV.bool (decide_eq_decide.2 ⟨fun hh=>hw.1 (Or.inr (Or.inr hh)),fun hh=>(hw.2 hh).resolve_left (by omega)|>.resolve_left (by omega)⟩))
def o0m (s:ByteArray):Nat->Bool
 |0=>true
 |k+1=>o0m s k&&decide (wdP (a0h s (k:Int)))
theorem r0v {s:ByteArray} {k:Nat} (h:o0m s k=true) (h1:wdP (a0h s (k:Int))):o0m s (k+1)=true:=by
 simp only [o0m,h,z0b,decide_eq_true_eq];exact h1
theorem p0B {s:ByteArray} {k n:Nat} (h:k<n) (hc:¬wdP (a0h s (k:Int))):o0m s n=false:=by
 induction n with
 |zero=>omega
 |succ n ih=>
  simp only [o0m];by_cases e:k=n
  .subst e;simp [hc]
  .rw [ih (by omega)];rfl
theorem w0L {s:ByteArray} {k n:Nat} (h:k<n) (hd:o0m s n=true):wdP (a0h s (k:Int)):=by
 by_cases hc:wdP (a0h s (k:Int))
 .exact hc
 .rw [p0B h hc] at hd;cases hd
theorem j0G {s:ByteArray}:∀n,o0m s n=false->∃k,k<n/\o0m s k=true/\¬wdP (a0h s (k:Int))
 |0,h=>by simp [o0m] at h
 |n+1,h=>by
  cases hn:o0m s n with
  |false=>obtain ⟨k,h1,h2⟩:=j0G n hn;exact ⟨k,by omega,h2⟩
  |true=>
   refine ⟨n,by omega,hn,fun hw=> ?_⟩;rw [r0v hn hw] at h;cases h
theorem j0H (s:ByteArray) (e:Nat) (he:e<=s.size) (ht:o0m s e=true) (hx:e=s.size\/¬wdP (a0h s (e:Int))) (hs:s.size<=1000000):a0y Tryz.prog 63 [.str s,.int .i64 0] (.str (s.extract 0 e)):=by
 refine fEx Tryz.func63 ?_
 (conv=>whnf)
 refine a0n (fun k:Nat=>⟨[(0,.str s),(1,.int .i64 0),(5,.int .i64 k)],[],1⟩) (fun k=>k<=e) (fun k=>e-k) 0 [0] [] wHx (by omega) ?_;intro k hk;have bd:=f0O s (k:Int);have c:=d0j (a0h s (k:Int)) bd.1 bd.2;by_cases hk2:k<e
 .rw [decide_eq_true (w0L hk2 ht)] at c;repeat' ((conv=>whnf);first|refine cPx c ?_|refine a0a ?_|(apply bRx<;>intro h<;>try (exfalso;(try dsimp only at h);omega)))
  all_goals (conv=>whnf)
  all_goals first
   |exact ⟨k+1,[0],[],by omega,by omega,⟨rfl,⟨rfl,rfl,congrArg (fun z=>some (SV.int .i64 z)) (a0G (by omega)),trivial⟩,trivial⟩⟩
   |(exfalso;omega)
 .have e1:k=e:=by omega
  subst e1;by_cases hsz:k<s.size
  .rw [decide_eq_false (hx.resolve_left (by omega))] at c;repeat' ((conv=>whnf);first|refine cPx c ?_|refine a0a ?_|(apply bRx<;>intro h<;>try (exfalso;(try dsimp only at h);omega)))
   all_goals (conv=>whnf)
   all_goals first
    |exact a0b rfl
    |(exfalso;omega)
  .repeat' ((conv=>whnf);first|refine a0a ?_|(apply bRx<;>intro h<;>try (exfalso;(try dsimp only at h);omega)))
   all_goals (conv=>whnf)
   all_goals first
    |exact a0b rfl
    |(exfalso;omega)
def nmB (s:ByteArray):Bool:=decide (1<=s.size)&&decide (s.size<=16)&&decide (ltP (a0h s 0))&&o0m s s.size
theorem z0I {s:ByteArray} (h:¬s=⟨#[]⟩):1<=s.size:=by
 rcases i0m s.size with h0|h0
 .exfalso;apply h;cases s with|mk d=>
  have:d= #[]:=s0R h0;rw [this]
 .exact h0
theorem n0i (s:ByteArray):s.extract 0 s.size=s:=by
 apply ByteArray.ext;simp
theorem c0j (s:ByteArray):a0y Tryz.prog 27 [.str s] (.bool (nmB s)):=by
 unfold nmB;by_cases h0:s=⟨#[]⟩
 .subst h0;refine fEx Tryz.func27 ?_;repeat' ((conv=>whnf);first|refine a0a ?_|(apply bRx<;>intro h<;>try (exfalso;(try dsimp only at h);omega)))
  all_goals (conv=>whnf)
  all_goals first
   |exact a0b rfl
   |(exfalso;exact h rfl)
 .have hz:=z0I h0;by_cases h16:s.size<=16
  .have bd:=f0O s 0;have c1:=a0z (a0h s 0) bd.1 bd.2;rw [show (SV.int .i32 (a0h s 0))=SV.int .i32 (IntKind.i32.wrap (a0h s 0)) by rw [i32_in bd.1 bd.2]] at c1;by_cases hl:ltP (a0h s 0)
   .rw [k0D.2 hl] at c1;cases hw:o0m s s.size with
    |true=>
     have c2:=j0H s s.size (d0M _) hw (.inl rfl) (by omega);rw [n0i] at c2;rw [decide_eq_true hz,decide_eq_true h16,decide_eq_true hl];refine fEx Tryz.func27 ?_;repeat' ((conv=>whnf);first|refine cPx c1 ?_|refine cPx c2 ?_|refine a0a ?_|(apply bRx<;>intro h<;>try (exfalso;(try dsimp only at h);omega)))
     all_goals (conv=>whnf)
     all_goals first
      |exact a0b rfl
      |(exfalso;exact h0 (by assumption))
      |(exfalso;omega)
      |exact a0b (congrArg SV.bool (decide_eq_true rfl))
    |false=>
     obtain ⟨k,k1,k2,k3⟩:=j0G _ hw;have c2:=j0H s k (by omega) k2 (.inr k3) (by omega);have hsz:(s.extract 0 k).size=k:=by rw [ByteArray.size_extract];omega
     rw [decide_eq_true hz,decide_eq_true h16,decide_eq_true hl];refine fEx Tryz.func27 ?_;repeat' ((conv=>whnf);first|refine cPx c1 ?_|refine cPx c2 ?_|refine a0a ?_|(apply bRx<;>intro h<;>try (exfalso;(try dsimp only at h);omega)))
     all_goals (conv=>whnf)
     all_goals first
      |exact a0b rfl
      |(exfalso;exact h0 (by assumption))
      |(exfalso;omega)
      |exact a0b (congrArg SV.bool (decide_eq_false (by rw [hsz];omega)))
   .have hne:i0I (a0h s 0)≠2:=fun h=>hl (k0D.1 h)
    rw [decide_eq_false hl];generalize i0I (a0h s 0)=x at c1 hne;refine fEx Tryz.func27 ?_;repeat' ((conv=>whnf);first|refine cPx c1 ?_|refine a0a ?_|(apply bRx<;>intro h<;>try (exfalso;(try dsimp only at h);omega)))
    all_goals (conv=>whnf)
    all_goals first
     |(exfalso;exact h0 (by assumption))
     |(exfalso;omega)
     |exact a0b (by rw [e1Q];rfl)
  .rw [decide_eq_false h16];refine fEx Tryz.func27 ?_;repeat' ((conv=>whnf);first|refine a0a ?_|(apply bRx<;>intro h<;>try (exfalso;(try dsimp only at h);omega)))
   all_goals (conv=>whnf)
   all_goals first
    |(exfalso;exact h0 (by assumption))
    |(exfalso;omega)
    |exact a0b (by rw [e1Q];rfl)
end
end Go.Proofs.YtclhnagdmajfkaaGreatDoor
namespace Go.Sy
open Go.RowKit
theorem j0I (s:ByteArray):s.toList=ofB s:=by
 exact (by simpa using e1M s:s.toList=s.data.toList)
theorem e0K (a b:ByteArray):c0J a b=decide (ofB a<ofB b):=by
 unfold c0J;rw [j0I,j0I,Go.Proofs.bytesLess_eq]
theorem w0M {a b:ByteArray} (h:ofB a=ofB b):a=b:=by rw [<-r0j a,<-r0j b,h]
theorem g0R (a:ByteArray):c0J a a=false:=by rw [e0K];exact decide_eq_false (List.lt_irrefl _)
theorem n0j {a b:ByteArray} (h:c0J a b=true):c0J b a=false:=by
 rw [e0K] at h⊢;exact decide_eq_false (List.lt_asymm (of_decide_eq_true h))
theorem i0J {l:List ByteArray} (hd:l.Nodup):(sortS l).Pairwise (fun a b=>c0J a b=true):=by
 have tr:∀a b c:List UInt8,leB a b=true->leB b c=true->leB a c=true:=fun a b c h1 h2=>by simp only [leB,decide_eq_true_eq] at*;exact List.le_trans h1 h2
 have tot:∀a b:List UInt8,(leB a b||leB b a)=true:=fun a b=>by simp only [leB,r0b,decide_eq_true_eq];exact List.le_total a b
 have h1:=List.pairwise_mergeSort tr tot (l.map ofB);have hd2:(sortS l).Nodup:=(j0D l).symm.nodup hd;have h2:(sortS l).Pairwise (fun a b=>leB (ofB a) (ofB b)=true):=by
  unfold sortS;rw [List.pairwise_map];exact h1
 refine (List.Pairwise.and h2 hd2).imp ?_;rintro a b ⟨h3,h4⟩;rw [e0K];simp only [leB,decide_eq_true_eq] at h3;rcases List.le_iff_lt_or_eq.1 h3 with h5|h5
 .exact decide_eq_true h5
 .exact absurd (w0M h5) h4
theorem k0E {l m:List ByteArray} (hp:m.Perm l) (hm:m.Pairwise (fun a b=>c0J a b=true)):sortS l=m:=by
 have hdm:m.Nodup:=hm.imp (fun {a b} h e=>by subst e;rw [g0R] at h;cases h);refine List.Perm.eq_of_pairwise (le:=fun a b=>c0J a b=true) (fun a b _ _ h1 h2=> ?_) (i0J (hp.nodup hdm)) hm ((j0D l).trans hp.symm);rw [n0j h1] at h2;cases h2
end Go.Sy
namespace Go.Proofs.YtclhnagdmajfkaaGreatDoor
open Go.RowKit Go.Sy
section
attribute [local irreducible] a0u a0v a0j b0b
def sHb:ByteArray:=⟨#[104,111,109,101,98,97,110,107]⟩
def sSb:ByteArray:=⟨#[115,104,111,112,98,97,110,107]⟩
def sNw:ByteArray:=⟨#[110,101,116,119,111,114,107]⟩
abbrev stB (ro:Bool) (n:Nat) (l:List ByteArray):Option HB:=some (.one ro (.cols n [.sc (.strs l)]))
theorem c1f (n:Nat) (l:List ByteArray) (s:ByteArray) (h:(n=0/\l= [])\/(n=1/\l= [sHb]/\s=sSb)\/(n=2/\l= [sHb,sSb]/\s=sNw)):FC Tryz.prog 2 100 [.sl 1 0 0 n,.str s] [(1,stB true n l)] (a0d (.int .i64 (-1)) [] 2):=by
 rcases h with ⟨rfl,rfl⟩|⟨rfl,rfl,rfl⟩|⟨rfl,rfl,rfl⟩
 all_goals refine fEx Tryz.func100 ?_
 all_goals repeat' ((conv=>whnf);first|refine a0c 5 ?_|refine a0a ?_|(apply bRx<;>intro h<;>try (exfalso;(try dsimp only at h);omega)))
 all_goals (conv=>whnf)
 all_goals exact rOz [0,1]
theorem z0J (n:Nat) (l:List ByteArray) (s:ByteArray) (h:(n=0/\l= [])\/(n=1/\l= [sHb]/\s=sSb)\/(n=2/\l= [sHb,sSb]/\s=sNw)):FC Tryz.prog 2 60 [.sl 1 0 0 n,.str s] [(1,stB true n l)] (a0d (.bool false) [] 2):=by
 have c:=c1f n l s h;refine fEx Tryz.func60 ?_;repeat' ((conv=>whnf);first|refine cOx (l:= [0,1]) c ?_|refine a0a ?_|(apply bRx<;>intro h<;>try (exfalso;(try dsimp only at h);omega)))
 all_goals (conv=>whnf)
 all_goals exact rOz [0,1]
theorem z0K (s:ByteArray):a0y Tryz.prog 60 [.nsl,.str s] (.bool false):=by
 have c:a0y Tryz.prog 100 [.nsl,.str s] (.int .i64 (-1)):=by
  refine fEx Tryz.func100 ?_;repeat' ((conv=>whnf);first|refine a0c 5 ?_|refine a0a ?_|(apply bRx<;>intro h<;>try (exfalso;(try dsimp only at h);omega)))
  all_goals (conv=>whnf)
  all_goals exact a0b rfl
 refine fEx Tryz.func60 ?_;repeat' ((conv=>whnf);first|refine cPx c ?_|refine a0a ?_|(apply bRx<;>intro h<;>try (exfalso;(try dsimp only at h);omega)))
 all_goals (conv=>whnf)
 all_goals exact a0b rfl
theorem w0N:FC Tryz.prog 2 61 [.sl 1 0 0 3] [(1,stB false 3 [sHb,sSb,sNw])] (a0d (.tup []) [(1,stB false 3 [sHb,sNw,sSb])] 2):=by
 have:=t0I ⟨fun blk off cap ss W hH hblk hsz=>AnyM.slices_Sort_string Tryz.sortS blk off cap ss W hH hblk hsz,fun p cap W=>AnyM.slices_Sort_string_none Tryz.sortS p cap W⟩ (f0Q Tryz.func61 (by kernel_rfl) (by kernel_rfl)) 3 [sHb,sSb,sNw] (by decide);rw [show sortS [sHb,sSb,sNw]= [sHb,sNw,sSb] from k0E ((List.Perm.swap _ _ _).cons _) (by simp only [e0K];decide)] at this;exact this
abbrev ps3:List ByteArray:= [sHb,sNw,sSb]
abbrev pr3:List ByteArray:= [sHb,sSb,sNw]
theorem v0w:FC Tryz.prog 2 25 [.sl 1 0 0 3] [(1,stB true 3 pr3)] (a0d (.tup [.ptr 2 0 0 0,.int .i64 0]) [(2,some (.one false (.cells [.sl 3 0 0 3,.map 4 0]))),(3,stB false 3 ps3),(4,some (.one false (.obj (.map false false 0 [.strs []] [.arrs 16 .i64 []] [] 0))))] 5):=by
 have n0:a0y Tryz.prog 27 [.str sHb] (.bool true):=c0j sHb;have n1:a0y Tryz.prog 27 [.str sSb] (.bool true):=c0j sSb;have n2:a0y Tryz.prog 27 [.str sNw] (.bool true):=c0j sNw;have k0:=z0K sHb;have k1:=z0J 1 [sHb] sSb (.inr (.inl ⟨rfl,rfl,rfl⟩));have k2:=z0J 2 [sHb,sSb] sNw (.inr (.inr ⟨rfl,rfl,rfl⟩));have ks:=w0N;refine fEx Tryz.func25 ?_;repeat' ((conv=>whnf);first|refine a0c 5 ?_|refine cPx n0 ?_|refine cPx n1 ?_|refine cPx n2 ?_|refine cPx k0 ?_|refine cOx (l:= [0,3]) k1 ?_|refine cOx (l:= [0,4]) k1 ?_|refine cOx (l:= [0,5]) k1 ?_|refine cOx (l:= [0,6]) k1 ?_|refine cOx (l:= [0,7]) k1 ?_|refine cOx (l:= [0,8]) k1 ?_|refine cOx (l:= [0,3]) k2 ?_|refine cOx (l:= [0,4]) k2 ?_|refine cOx (l:= [0,5]) k2 ?_|refine cOx (l:= [0,6]) k2 ?_|refine cOx (l:= [0,7]) k2 ?_|refine cOx (l:= [0,8]) k2 ?_|refine cOx (l:= [0,9]) k2 ?_|refine cOx (l:= [0,3]) ks ?_|refine cOx (l:= [0,4]) ks ?_|refine cOx (l:= [0,5]) ks ?_|refine cOx (l:= [0,6]) ks ?_|refine cOx (l:= [0,7]) ks ?_|refine cOx (l:= [0,8]) ks ?_|refine cOx (l:= [0,9]) ks ?_|refine cOx (l:= [0,10]) ks ?_|refine cOx (l:= [0,11]) ks ?_|refine cOx (l:= [0,12]) ks ?_|refine cOx (l:= [0,13]) ks ?_|refine a0a ?_|(apply bRx<;>intro h<;>try (exfalso;(try dsimp only at h);omega)))
 all_goals (conv=>whnf)
 all_goals first
  |exact rOz [0,1,3,9,2]
  |trace_state
end
section
attribute [local irreducible] a0u a0v a0j b0b
def sEu:ByteArray:=⟨#[69,85,82]⟩
theorem z0L:a0y Tryz.prog 119 [.str sEu] (.bool true):=by
 refine fEx Tryz.func119 ?_;repeat' ((conv=>whnf);first|refine a0c 5 ?_|refine a0a ?_|(apply bRx<;>intro h<;>try (exfalso;(try dsimp only at h);omega)))
 all_goals (conv=>whnf)
 all_goals exact a0b rfl
theorem z0M (x:Int) (h: -4503599627370496<=x/\x<=4503599627370496):a0y Tryz.prog 120 [.int .i64 x] (.bool true):=by
 refine fEx Tryz.func120 ?_;repeat' ((conv=>whnf);first|refine a0a ?_|(apply bRx<;>intro h<;>try (exfalso;(try dsimp only at h);omega)))
 all_goals (conv=>whnf)
 all_goals first
  |exact a0b rfl
  |(refine a0b (congrArg SV.bool ?_);simp;omega)
  |trace_state
theorem a0F (x:Int) (h: -4503599627370496<=x/\x<=4503599627370496):a0y Tryz.prog 59 [.agg [.int .i64 x,.str sEu]] (.int .i64 0):=by
 have c0:=z0L;have c1:=z0M x h;refine fEx Tryz.func59 ?_;repeat' ((conv=>whnf);first|refine cPx c0 ?_|refine cPx c1 ?_|refine a0a ?_|(apply bRx<;>intro h<;>try (exfalso;(try dsimp only at h);omega)))
 all_goals (conv=>whnf)
 all_goals first
  |exact a0b rfl
  |trace_state
theorem i0K (x:Int) (h: -4503599627370496<=x/\x<=4503599627370496):a0y Tryz.prog 101 [.int .i64 x] (.bool true):=by
 refine fEx Tryz.func101 ?_;repeat' ((conv=>whnf);first|refine a0a ?_|(apply bRx<;>intro h<;>try (exfalso;(try dsimp only at h);omega)))
 all_goals (conv=>whnf)
 all_goals first
  |exact a0b rfl
  |(refine a0b (congrArg SV.bool ?_);simp;omega)
  |trace_state
theorem y0Z (i:Nat) (s:ByteArray) (h:i=0/\s=sHb\/i=1/\s=sNw\/i=2/\s=sSb):FC Tryz.prog 2 100 [.sl 1 0 0 3,.str s] [(1,stB true 3 ps3)] (a0d (.int .i64 i) [] 2):=by
 rcases h with ⟨rfl,rfl⟩|⟨rfl,rfl⟩|⟨rfl,rfl⟩
 all_goals refine fEx Tryz.func100 ?_
 all_goals repeat' ((conv=>whnf);first|refine a0c 5 ?_|refine a0a ?_|(apply bRx<;>intro h<;>try (exfalso;(try dsimp only at h);omega)))
 all_goals (conv=>whnf)
 all_goals exact rOz [0,1]
abbrev rw3 (h n s:Int):List Int:= [h,n,s,0,0,0,0,0,0,0,0,0,0,0,0,0]
abbrev rmB (ro z:Bool) (h n s:Int) (a ck:Nat):Option HB:=some (.one ro (.obj (bif z then .map false false 1 [.strs [sEu]] [.arrs 16 .i64 [rw3 h n s]] [a] ck else .map false false 0 [.strs []] [.arrs 16 .i64 []] [] ck)))
abbrev bkC (ro:Bool) (hp hm:Nat):Option HB:=some (.one ro (.cells [.sl hp 0 0 3,.map hm 0]))
def nz (p n s:Int):Bool:=decide (¬(p=0/\n=0/\s=0))
structure Rb (z:Bool) (p n s:Int):Prop where
 z:z=false->p=0/\n=0/\s=0
 p: -1000000000000<=p/\p<=1000000000000
 n: -1000000000000<=n/\n<=1000000000000
 s: -1000000000000<=s/\s<=1000000000000
theorem c0H {p n s:Int}:rw3 p n s=rw3 0 0 0↔p=0/\n=0/\s=0:=by simp
theorem w0O {p n s:Int} (h:¬(p=0/\n=0/\s=0)):nz p n s=true:=decide_eq_true h
theorem w0P {p n s:Int} (h:p=0/\n=0/\s=0):nz p n s=false:=decide_eq_false (fun k=>k h)
def mF (m:Nat):ByteArray:=if m=0 then sHb else sSb
def mT (m:Nat):ByteArray:=if m=0 then sSb else if m=1 then sHb else sNw
def mP (m:Nat) (p x:Int):Int:=if m=0 then p-x else if m=1 then p+x else p
def mN (m:Nat) (n x:Int):Int:=if m=2 then n+x else n
def mS (m:Nat) (s x:Int):Int:=if m=0 then s+x else s-x
set_option maxHeartbeats 1000000 in
theorem z0N (z:Bool) (p n s x:Int) (a ck:Nat) (hb:Rb z p n s) (hx:0<=x/\x<=1000000000):∃a' ck',FC Tryz.prog 4 51 [.ptr 1 0 0 0,.str sHb,.str sSb,.agg [.int .i64 x,.str sEu]] [(1,bkC true 2 3),(2,stB true 3 ps3),(3,rmB false z p n s a ck)] (a0d (.int .i64 0) [(3,rmB false (nz (p-x) (n) (s+x)) (p-x) (n) (s+x) a' ck')] 4):=by
 have k0:=y0Z 0 sHb (by decide);have k1:=y0Z 2 sSb (by decide);have km:=a0F x (by omega);have h1:=hb.p;have h2:=hb.n;have h3:=hb.s;have w1:IntKind.i64.wrap (p-x)=p-x:=a0e (by omega) (by omega);have q1:=i0K (IntKind.i64.wrap (p-x)) (by omega);have w2:IntKind.i64.wrap (s+x)=s+x:=a0e (by omega) (by omega);have q2:=i0K (IntKind.i64.wrap (s+x)) (by omega);cases z with
 |false=>
  obtain ⟨rfl,rfl,rfl⟩:=hb.z rfl;refine ⟨ck,ck+1,?_⟩;by_cases e:0-x=0/\(0:Int)=0/\0+x=0
  .rw [w0P e,<-w1,<-w2];refine fEx Tryz.func51 ?_;repeat' ((conv=>whnf);first|refine cPx km ?_|refine cPx q1 ?_|refine cPx q2 ?_|refine cOx (l:= [0,2]) k0 ?_|refine cOx (l:= [0,2]) k1 ?_|refine a0a ?_|(apply bRx<;>intro h<;>try (exfalso;(try dsimp only at h);omega)))
   all_goals (conv=>whnf)
   all_goals first
    |exact rOz [0,1,2,3]
    |(exfalso;have h2:=c0H.1 (show rw3 (IntKind.i64.wrap (0-x)) (0) (IntKind.i64.wrap (0+x))=rw3 0 0 0 from h);omega)
    |(exfalso;exact h (c0H.2 ⟨by omega,by omega,by omega⟩:rw3 (IntKind.i64.wrap (0-x)) (0) (IntKind.i64.wrap (0+x))=rw3 0 0 0))
  .rw [w0O e,<-w1,<-w2];refine fEx Tryz.func51 ?_;repeat' ((conv=>whnf);first|refine cPx km ?_|refine cPx q1 ?_|refine cPx q2 ?_|refine cOx (l:= [0,2]) k0 ?_|refine cOx (l:= [0,2]) k1 ?_|refine a0a ?_|(apply bRx<;>intro h<;>try (exfalso;(try dsimp only at h);omega)))
   all_goals (conv=>whnf)
   all_goals first
    |exact rOz [0,1,2,3]
    |(exfalso;have h2:=c0H.1 (show rw3 (IntKind.i64.wrap (0-x)) (0) (IntKind.i64.wrap (0+x))=rw3 0 0 0 from h);omega)
    |(exfalso;exact h (c0H.2 ⟨by omega,by omega,by omega⟩:rw3 (IntKind.i64.wrap (0-x)) (0) (IntKind.i64.wrap (0+x))=rw3 0 0 0))
 |true=>
  refine ⟨a,ck,?_⟩;by_cases e:p-x=0/\n=0/\s+x=0
  .rw [w0P e,<-w1,<-w2];refine fEx Tryz.func51 ?_;repeat' ((conv=>whnf);first|refine cPx km ?_|refine cPx q1 ?_|refine cPx q2 ?_|refine cOx (l:= [0,2]) k0 ?_|refine cOx (l:= [0,2]) k1 ?_|refine a0a ?_|(apply bRx<;>intro h<;>try (exfalso;(try dsimp only at h);omega)))
   all_goals (conv=>whnf)
   all_goals first
    |exact rOz [0,1,2,3]
    |(exfalso;have h2:=c0H.1 (show rw3 (IntKind.i64.wrap (p-x)) (n) (IntKind.i64.wrap (s+x))=rw3 0 0 0 from h);omega)
    |(exfalso;exact h (c0H.2 ⟨by omega,by omega,by omega⟩:rw3 (IntKind.i64.wrap (p-x)) (n) (IntKind.i64.wrap (s+x))=rw3 0 0 0))
  .rw [w0O e,<-w1,<-w2];refine fEx Tryz.func51 ?_;repeat' ((conv=>whnf);first|refine cPx km ?_|refine cPx q1 ?_|refine cPx q2 ?_|refine cOx (l:= [0,2]) k0 ?_|refine cOx (l:= [0,2]) k1 ?_|refine a0a ?_|(apply bRx<;>intro h<;>try (exfalso;(try dsimp only at h);omega)))
   all_goals (conv=>whnf)
   all_goals first
    |exact rOz [0,1,2,3]
    |(exfalso;have h2:=c0H.1 (show rw3 (IntKind.i64.wrap (p-x)) (n) (IntKind.i64.wrap (s+x))=rw3 0 0 0 from h);omega)
    |(exfalso;exact h (c0H.2 ⟨by omega,by omega,by omega⟩:rw3 (IntKind.i64.wrap (p-x)) (n) (IntKind.i64.wrap (s+x))=rw3 0 0 0))
set_option maxHeartbeats 1000000 in
theorem z0O (z:Bool) (p n s x:Int) (a ck:Nat) (hb:Rb z p n s) (hx:0<=x/\x<=1000000000):∃a' ck',FC Tryz.prog 4 51 [.ptr 1 0 0 0,.str sSb,.str sHb,.agg [.int .i64 x,.str sEu]] [(1,bkC true 2 3),(2,stB true 3 ps3),(3,rmB false z p n s a ck)] (a0d (.int .i64 0) [(3,rmB false (nz (p+x) (n) (s-x)) (p+x) (n) (s-x) a' ck')] 4):=by
 have k0:=y0Z 2 sSb (by decide);have k1:=y0Z 0 sHb (by decide);have km:=a0F x (by omega);have h1:=hb.p;have h2:=hb.n;have h3:=hb.s;have w1:IntKind.i64.wrap (s-x)=s-x:=a0e (by omega) (by omega);have q1:=i0K (IntKind.i64.wrap (s-x)) (by omega);have w2:IntKind.i64.wrap (p+x)=p+x:=a0e (by omega) (by omega);have q2:=i0K (IntKind.i64.wrap (p+x)) (by omega);cases z with
 |false=>
  obtain ⟨rfl,rfl,rfl⟩:=hb.z rfl;refine ⟨ck,ck+1,?_⟩;by_cases e:0+x=0/\(0:Int)=0/\0-x=0
  .rw [w0P e,<-w1,<-w2];refine fEx Tryz.func51 ?_;repeat' ((conv=>whnf);first|refine cPx km ?_|refine cPx q1 ?_|refine cPx q2 ?_|refine cOx (l:= [0,2]) k0 ?_|refine cOx (l:= [0,2]) k1 ?_|refine a0a ?_|(apply bRx<;>intro h<;>try (exfalso;(try dsimp only at h);omega)))
   all_goals (conv=>whnf)
   all_goals first
    |exact rOz [0,1,2,3]
    |(exfalso;have h2:=c0H.1 (show rw3 (IntKind.i64.wrap (0+x)) (0) (IntKind.i64.wrap (0-x))=rw3 0 0 0 from h);omega)
    |(exfalso;exact h (c0H.2 ⟨by omega,by omega,by omega⟩:rw3 (IntKind.i64.wrap (0+x)) (0) (IntKind.i64.wrap (0-x))=rw3 0 0 0))
  .rw [w0O e,<-w1,<-w2];refine fEx Tryz.func51 ?_;repeat' ((conv=>whnf);first|refine cPx km ?_|refine cPx q1 ?_|refine cPx q2 ?_|refine cOx (l:= [0,2]) k0 ?_|refine cOx (l:= [0,2]) k1 ?_|refine a0a ?_|(apply bRx<;>intro h<;>try (exfalso;(try dsimp only at h);omega)))
   all_goals (conv=>whnf)
   all_goals first
    |exact rOz [0,1,2,3]
    |(exfalso;have h2:=c0H.1 (show rw3 (IntKind.i64.wrap (0+x)) (0) (IntKind.i64.wrap (0-x))=rw3 0 0 0 from h);omega)
    |(exfalso;exact h (c0H.2 ⟨by omega,by omega,by omega⟩:rw3 (IntKind.i64.wrap (0+x)) (0) (IntKind.i64.wrap (0-x))=rw3 0 0 0))
 |true=>
  refine ⟨a,ck,?_⟩;by_cases e:p+x=0/\n=0/\s-x=0
  .rw [w0P e,<-w1,<-w2];refine fEx Tryz.func51 ?_;repeat' ((conv=>whnf);first|refine cPx km ?_|refine cPx q1 ?_|refine cPx q2 ?_|refine cOx (l:= [0,2]) k0 ?_|refine cOx (l:= [0,2]) k1 ?_|refine a0a ?_|(apply bRx<;>intro h<;>try (exfalso;(try dsimp only at h);omega)))
   all_goals (conv=>whnf)
   all_goals first
    |exact rOz [0,1,2,3]
    |(exfalso;have h2:=c0H.1 (show rw3 (IntKind.i64.wrap (p+x)) (n) (IntKind.i64.wrap (s-x))=rw3 0 0 0 from h);omega)
    |(exfalso;exact h (c0H.2 ⟨by omega,by omega,by omega⟩:rw3 (IntKind.i64.wrap (p+x)) (n) (IntKind.i64.wrap (s-x))=rw3 0 0 0))
  .rw [w0O e,<-w1,<-w2];refine fEx Tryz.func51 ?_;repeat' ((conv=>whnf);first|refine cPx km ?_|refine cPx q1 ?_|refine cPx q2 ?_|refine cOx (l:= [0,2]) k0 ?_|refine cOx (l:= [0,2]) k1 ?_|refine a0a ?_|(apply bRx<;>intro h<;>try (exfalso;(try dsimp only at h);omega)))
   all_goals (conv=>whnf)
   all_goals first
    |exact rOz [0,1,2,3]
    |(exfalso;have h2:=c0H.1 (show rw3 (IntKind.i64.wrap (p+x)) (n) (IntKind.i64.wrap (s-x))=rw3 0 0 0 from h);omega)
    |(exfalso;exact h (c0H.2 ⟨by omega,by omega,by omega⟩:rw3 (IntKind.i64.wrap (p+x)) (n) (IntKind.i64.wrap (s-x))=rw3 0 0 0))
set_option maxHeartbeats 1000000 in
theorem z0P (z:Bool) (p n s x:Int) (a ck:Nat) (hb:Rb z p n s) (hx:0<=x/\x<=1000000000):∃a' ck',FC Tryz.prog 4 51 [.ptr 1 0 0 0,.str sSb,.str sNw,.agg [.int .i64 x,.str sEu]] [(1,bkC true 2 3),(2,stB true 3 ps3),(3,rmB false z p n s a ck)] (a0d (.int .i64 0) [(3,rmB false (nz (p) (n+x) (s-x)) (p) (n+x) (s-x) a' ck')] 4):=by
 have k0:=y0Z 2 sSb (by decide);have k1:=y0Z 1 sNw (by decide);have km:=a0F x (by omega);have h1:=hb.p;have h2:=hb.n;have h3:=hb.s;have w1:IntKind.i64.wrap (s-x)=s-x:=a0e (by omega) (by omega);have q1:=i0K (IntKind.i64.wrap (s-x)) (by omega);have w2:IntKind.i64.wrap (n+x)=n+x:=a0e (by omega) (by omega);have q2:=i0K (IntKind.i64.wrap (n+x)) (by omega);cases z with
 |false=>
  obtain ⟨rfl,rfl,rfl⟩:=hb.z rfl;refine ⟨ck,ck+1,?_⟩;by_cases e:(0:Int)=0/\0+x=0/\0-x=0
  .rw [w0P e,<-w1,<-w2];refine fEx Tryz.func51 ?_;repeat' ((conv=>whnf);first|refine cPx km ?_|refine cPx q1 ?_|refine cPx q2 ?_|refine cOx (l:= [0,2]) k0 ?_|refine cOx (l:= [0,2]) k1 ?_|refine a0a ?_|(apply bRx<;>intro h<;>try (exfalso;(try dsimp only at h);omega)))
   all_goals (conv=>whnf)
   all_goals first
    |exact rOz [0,1,2,3]
    |(exfalso;have h2:=c0H.1 (show rw3 (0) (IntKind.i64.wrap (0+x)) (IntKind.i64.wrap (0-x))=rw3 0 0 0 from h);omega)
    |(exfalso;exact h (c0H.2 ⟨by omega,by omega,by omega⟩:rw3 (0) (IntKind.i64.wrap (0+x)) (IntKind.i64.wrap (0-x))=rw3 0 0 0))
  .rw [w0O e,<-w1,<-w2];refine fEx Tryz.func51 ?_;repeat' ((conv=>whnf);first|refine cPx km ?_|refine cPx q1 ?_|refine cPx q2 ?_|refine cOx (l:= [0,2]) k0 ?_|refine cOx (l:= [0,2]) k1 ?_|refine a0a ?_|(apply bRx<;>intro h<;>try (exfalso;(try dsimp only at h);omega)))
   all_goals (conv=>whnf)
   all_goals first
    |exact rOz [0,1,2,3]
    |(exfalso;have h2:=c0H.1 (show rw3 (0) (IntKind.i64.wrap (0+x)) (IntKind.i64.wrap (0-x))=rw3 0 0 0 from h);omega)
    |(exfalso;exact h (c0H.2 ⟨by omega,by omega,by omega⟩:rw3 (0) (IntKind.i64.wrap (0+x)) (IntKind.i64.wrap (0-x))=rw3 0 0 0))
 |true=>
  refine ⟨a,ck,?_⟩;by_cases e:p=0/\n+x=0/\s-x=0
  .rw [w0P e,<-w1,<-w2];refine fEx Tryz.func51 ?_;repeat' ((conv=>whnf);first|refine cPx km ?_|refine cPx q1 ?_|refine cPx q2 ?_|refine cOx (l:= [0,2]) k0 ?_|refine cOx (l:= [0,2]) k1 ?_|refine a0a ?_|(apply bRx<;>intro h<;>try (exfalso;(try dsimp only at h);omega)))
   all_goals (conv=>whnf)
   all_goals first
    |exact rOz [0,1,2,3]
    |(exfalso;have h2:=c0H.1 (show rw3 (p) (IntKind.i64.wrap (n+x)) (IntKind.i64.wrap (s-x))=rw3 0 0 0 from h);omega)
    |(exfalso;exact h (c0H.2 ⟨by omega,by omega,by omega⟩:rw3 (p) (IntKind.i64.wrap (n+x)) (IntKind.i64.wrap (s-x))=rw3 0 0 0))
  .rw [w0O e,<-w1,<-w2];refine fEx Tryz.func51 ?_;repeat' ((conv=>whnf);first|refine cPx km ?_|refine cPx q1 ?_|refine cPx q2 ?_|refine cOx (l:= [0,2]) k0 ?_|refine cOx (l:= [0,2]) k1 ?_|refine a0a ?_|(apply bRx<;>intro h<;>try (exfalso;(try dsimp only at h);omega)))
   all_goals (conv=>whnf)
   all_goals first
    |exact rOz [0,1,2,3]
    |(exfalso;have h2:=c0H.1 (show rw3 (p) (IntKind.i64.wrap (n+x)) (IntKind.i64.wrap (s-x))=rw3 0 0 0 from h);omega)
    |(exfalso;exact h (c0H.2 ⟨by omega,by omega,by omega⟩:rw3 (p) (IntKind.i64.wrap (n+x)) (IntKind.i64.wrap (s-x))=rw3 0 0 0))
theorem r0w (m:Nat) (hm:m<3) (z:Bool) (p n s x:Int) (a ck:Nat) (hb:Rb z p n s) (hx:0<=x/\x<=1000000000):∃a' ck',FC Tryz.prog 4 51 [.ptr 1 0 0 0,.str (mF m),.str (mT m),.agg [.int .i64 x,.str sEu]] [(1,bkC true 2 3),(2,stB true 3 ps3),(3,rmB false z p n s a ck)] (a0d (.int .i64 0) [(3,rmB false (nz (mP m p x) (mN m n x) (mS m s x)) (mP m p x) (mN m n x) (mS m s x) a' ck')] 4):=by
 have h:m=0\/m=1\/m=2:=by omega
 rcases h with rfl|rfl|rfl
 .exact z0N z p n s x a ck hb hx
 .exact z0O z p n s x a ck hb hx
 .exact z0P z p n s x a ck hb hx
end
section
def sM1:ByteArray:=⟨#[109,49]⟩
def sCd:ByteArray:=⟨#[52,48,48,48,48,48,48,48,48,48,48,48,48,48,48,50]⟩
structure Rc where
 k:Int
 id:ByteArray
 au:ByteArray
 ac:ByteArray
 is:ByteArray
 me:ByteArray
 ca:ByteArray
 am:Int
 cu:ByteArray
 da:Int
 ct:Int
 fi:Bool
abbrev Rc.s (r:Rc):SV:= .agg [.int .i64 r.k,.str r.id,.str r.au,.str r.ac,.str r.is,.str r.me,.str r.ca,.int .i64 r.am,.str r.cu,.int .i64 r.da,.int .i64 r.ct,.bool r.fi]
abbrev rcC (R:List Rc):List BCol:= [.sc (.ints .i64 (R.map Rc.k)),.sc (.strs (R.map Rc.id)),.sc (.strs (R.map Rc.au)),.sc (.strs (R.map Rc.ac)),.sc (.strs (R.map Rc.is)),.sc (.strs (R.map Rc.me)),.sc (.strs (R.map Rc.ca)),.sc (.ints .i64 (R.map Rc.am)),.sc (.strs (R.map Rc.cu)),.sc (.ints .i64 (R.map Rc.da)),.sc (.ints .i64 (R.map Rc.ct)),.sc (.bools (R.map Rc.fi))]
abbrev rcB (ro:Bool) (n:Nat) (R:List Rc):Option HB:=some (.one ro (.cols n (rcC R)))
abbrev rcG (R:List Rc) (i:Nat):Rc:=⟨(R.map Rc.k).getD i 0,(R.map Rc.id).getD i ⟨#[]⟩,(R.map Rc.au).getD i ⟨#[]⟩,(R.map Rc.ac).getD i ⟨#[]⟩,(R.map Rc.is).getD i ⟨#[]⟩,(R.map Rc.me).getD i ⟨#[]⟩,(R.map Rc.ca).getD i ⟨#[]⟩,(R.map Rc.am).getD i 0,(R.map Rc.cu).getD i ⟨#[]⟩,(R.map Rc.da).getD i 0,(R.map Rc.ct).getD i 0,(R.map Rc.fi).getD i false⟩
theorem d0K {α β:Type} (f:α->β) (d:β) (L:List α) {i:Nat} (h:i<L.length):(L.map f).getD i d=f L[i]:=by
 rw [List.getD,f0l,d0L h];rfl
theorem o0n {R:List Rc} {i:Nat} (h:i<R.length):rcG R i=R[i]:=by
 unfold rcG;simp only [d0K _ _ R h]
def mkR (k:Int) (id:ByteArray) (a:Int):Rc:=⟨k,id,⟨#[]⟩,sSb,sHb,sM1,sCd,a,sEu,0,5411,true⟩
def d0V (r:Rc):Prop:=∃k id a,r=mkR k id a/\(k=1\/k=2)/\auI id=true/\1<=a/\a<=1000000000
theorem r0x {R:List Rc} (hR:∀r∈R,d0V r) {i:Nat} (h:i<R.length):d0V (rcG R i):=by
 rw [o0n h];exact hR _ (o0z h)
def rcP (r:Rc):List ByteArray:= [b0P r.k,r.id,r.au,r.ac,r.is,r.me,r.ca,b0P r.am,r.cu,b0P r.da,b0P r.ct,if r.fi=true then ⟨#[49]⟩ else ⟨#[48]⟩]
def rcT (r:Rc):ByteArray:=a0V (rcP r) ⟨#[124]⟩
def rcL (r:Rc):ByteArray:=a0V [⟨#[82]⟩,rcT r] ⟨#[124]⟩
theorem i0L:FrT sHb/\FrT sSb/\FrT sEu/\FrT sM1/\FrT sCd/\FrT ⟨#[]⟩/\FrT ⟨#[49]⟩/\FrT ⟨#[48]⟩/\FrT ⟨#[82]⟩/\FrT ⟨#[72]⟩/\FrT ⟨#[84]⟩/\FrT ⟨#[67]⟩:=by
 unfold FrT;refine ⟨⟨?_,?_⟩,⟨?_,?_⟩,⟨?_,?_⟩,⟨?_,?_⟩,⟨?_,?_⟩,⟨?_,?_⟩,⟨?_,?_⟩,⟨?_,?_⟩,⟨?_,?_⟩,⟨?_,?_⟩,⟨?_,?_⟩,⟨?_,?_⟩⟩<;>decide
theorem k0F {r:Rc} (h:d0V r):∀p∈rcP r,FrT p:=by
 obtain ⟨k,id,a,rfl,hk,hi,ha⟩:=h;obtain ⟨c1,c2,c3,c4,c5,c6,c7,c8,c9⟩:=i0L;intro p hp;simp only [rcP,mkR,d0z,n0s,or_false,if_true] at hp;rcases hp with rfl|rfl|rfl|rfl|rfl|rfl|rfl|rfl|rfl|rfl|rfl|rfl
 .exact g0Q _
 .exact w0H hi
 .exact c6
 .exact c2
 .exact c1
 .exact c4
 .exact c5
 .exact g0Q _
 .exact c3
 .exact g0Q _
 .exact g0Q _
 .exact c7
theorem r0y {r:Rc} (h:d0V r):Lib.countB (rcT r) ⟨#[124]⟩=11/\Lib.splitB ⟨#[124]⟩ 0 11 (rcT r)=rcP r:=by
 have hf:=k0F h;unfold rcT;unfold rcP at hf⊢;exact d0x 124 _ [_,_,_,_,_,_,_,_,_,_,_] (hf _ (v0J ..)).1 (fun y hy=>(hf y (s0j _ hy)).1)
theorem b0p (c:UInt8) (x y:ByteArray) (L:List ByteArray):a0V (x::y::L) ⟨#[c]⟩=x++(⟨#[c]⟩++a0V (y::L) ⟨#[c]⟩):=by
 apply f0T;rw [e0n,b0X,b0X,e0n];have e:Lib.joinTail [c] ((y::L).map (·.data.toList))=c::(y.data.toList++Lib.joinTail [c] (L.map (·.data.toList))):=by simp [Lib.joinTail]
 rw [e];rfl
theorem b0F (c:UInt8) (x:ByteArray):a0V [x] ⟨#[c]⟩=x:=by
 apply f0T;rw [e0n];simp [Lib.joinTail]
theorem v0x (r:Rc):rcL r=a0V (⟨#[82]⟩::rcP r) ⟨#[124]⟩:=by
 unfold rcL;rw [b0p,b0F];unfold rcT rcP;exact (b0p 124 _ _ _).symm
theorem w0Q (r:Rc):(rcL r).extract 2 (rcL r).size=rcT r:=by
 unfold rcL;rw [b0p,b0F,<-d0J];have h:=k0z (⟨#[82]⟩++⟨#[124]⟩) (rcT r);rw [show (⟨#[82]⟩++⟨#[124]⟩:ByteArray).size=2 from rfl] at h;exact h
theorem r0z {r:Rc} (h:d0V r):Lib.countB (rcL r) ⟨#[124]⟩=12/\Lib.splitB ⟨#[124]⟩ 0 12 (rcL r)=⟨#[82]⟩::rcP r:=by
 have hf:=k0F h;rw [v0x];have h:=d0x 124 ⟨#[82]⟩ (rcP r) i0L.2.2.2.2.2.2.2.2.1.1 (fun y hy=>(hf y hy).1);rw [show (rcP r).length=12 from rfl] at h;exact h
theorem t0R {r:Rc} (h:d0V r):(10:UInt8)∉(rcL r).data.toList:=by
 rw [v0x];exact f0U (by decide) i0L.2.2.2.2.2.2.2.2.1.2 (fun y hy=>(k0F h y hy).2)
def b0Z (q:Int):List Rc->Int
 | []=>0
 |r::R=>(if r.k=q then r.am else 0)+b0Z q R
theorem o0o (q:Int):∀A B:List Rc,b0Z q (A++B)=b0Z q A+b0Z q B
 | [],B=>by simp [b0Z]
 |r::A,B=>by simp only [i0k,b0Z,o0o q A B];omega
theorem f0j (q:Int):∀R:List Rc,(∀r∈R,d0V r)->0<=b0Z q R/\b0Z q R<=1000000000*(R.length:Int)
 | [],_=>⟨e1E _,e1E _⟩
 |r::R,h=>by
  have ih:=f0j q R (fun x hx=>h x (s0j _ hx));obtain ⟨k,id,a,e,hk,hi,h1,h2⟩:=h r (v0J ..);have ha:r.am=a:=by rw [e];rfl
  simp only [b0Z,m0j];split<;>omega
def hdL (id:ByteArray):ByteArray:=a0V [⟨#[72]⟩,id,sSb,b0P 0] ⟨#[124]⟩
def trP (R:List Rc):List ByteArray:= [⟨#[84]⟩,b0P R.length,b0P (b0Z 1 R),b0P (b0Z 2 R),b0P (2*R.length)]
def trL (R:List Rc):ByteArray:=a0V (trP R) ⟨#[124]⟩
def ahL (id:ByteArray) (R:List Rc):List ByteArray:=hdL id::(R.map rcL++ [trL R])
def ckL (x:ByteArray):ByteArray:=a0V [⟨#[67]⟩,x] ⟨#[124]⟩
def hdP (id:ByteArray):List ByteArray:= [⟨#[72]⟩,id,sSb,b0P 0]
theorem r0A {id:ByteArray} (h:FrT id):Lib.countB (hdL id) ⟨#[124]⟩=3/\Lib.splitB ⟨#[124]⟩ 0 3 (hdL id)=hdP id:=by
 refine d0x 124 _ [id,sSb,b0P 0] i0L.2.2.2.2.2.2.2.2.2.1.1 ?_;intro y hy;simp only [d0z,n0s,or_false] at hy;rcases hy with rfl|rfl|rfl
 .exact h.1
 .exact i0L.2.1.1
 .exact (g0Q _).1
theorem t0S {id:ByteArray} (h:FrT id):(10:UInt8)∉(hdL id).data.toList:=by
 refine f0U (by decide) i0L.2.2.2.2.2.2.2.2.2.1.2 ?_;intro y hy;simp only [d0z,n0s,or_false] at hy;rcases hy with rfl|rfl|rfl
 .exact h.2
 .exact i0L.2.1.2
 .exact (g0Q _).2
theorem r0B (R:List Rc):Lib.countB (trL R) ⟨#[124]⟩=4/\Lib.splitB ⟨#[124]⟩ 0 4 (trL R)=trP R:=by
 refine d0x 124 _ [_,_,_,_] i0L.2.2.2.2.2.2.2.2.2.2.1.1 ?_;intro y hy;simp only [d0z,n0s,or_false] at hy;rcases hy with rfl|rfl|rfl|rfl<;>exact (g0Q _).1
theorem t0T (R:List Rc):(10:UInt8)∉(trL R).data.toList:=by
 refine f0U (by decide) i0L.2.2.2.2.2.2.2.2.2.2.1.2 ?_;intro y hy;simp only [d0z,n0s,or_false] at hy;rcases hy with rfl|rfl|rfl|rfl<;>exact (g0Q _).2
theorem t0U {x:ByteArray} (h:FrT x):(10:UInt8)∉(ckL x).data.toList:=by
 refine f0U (by decide) i0L.2.2.2.2.2.2.2.2.2.2.2.2 ?_;intro y hy;simp only [d0z,n0s,or_false] at hy;subst hy;exact h.2
theorem r0C (x:ByteArray):ckL x=(⟨#[67,124]⟩:ByteArray)++x:=by
 unfold ckL;rw [b0p,b0F,<-d0J];congr 1
def flT (id:ByteArray) (R:List Rc) (x:ByteArray):ByteArray:=lnS (ahL id R++ [ckL x])
theorem r0D (id:ByteArray) (R:List Rc) (x:ByteArray):flT id R x=a0V (hdL id::(R.map rcL++ [trL R,ckL x])) ⟨#[10]⟩++⟨#[10]⟩:=by
 unfold flT ahL;rw [<-o0k];simp
theorem r0E {id:ByteArray} {R:List Rc} {x:ByteArray} (hi:FrT id) (hR:∀r∈R,d0V r) (hx:FrT x):
  Lib.countB (a0V (hdL id::(R.map rcL++ [trL R,ckL x])) ⟨#[10]⟩) ⟨#[10]⟩=R.length+2/\Lib.splitB ⟨#[10]⟩ 0 (R.length+2) (a0V (hdL id::(R.map rcL++ [trL R,ckL x])) ⟨#[10]⟩)=hdL id::(R.map rcL++ [trL R,ckL x]):=by
 have h:=d0x 10 (hdL id) (R.map rcL++ [trL R,ckL x]) (t0S hi) (by
  intro y hy;rcases k0Q.1 hy with hy|hy
  .obtain ⟨r,hr,rfl⟩:=m0l.1 hy;exact t0R (hR r hr)
  .simp only [d0z,n0s,or_false] at hy;rcases hy with rfl|rfl
   .exact t0T R
   .exact t0U hx)
 have e:(R.map rcL++ [trL R,ckL x]).length=R.length+2:=by simp
 rw [e] at h;exact h
end
section
attribute [local irreducible] a0u a0v a0j b0b
theorem r0F (s:ByteArray):a0y Tryz.prog 164 [.str s] (.bool (auI s)):=by
 by_cases h:s.size<1\/16<s.size
 .rw [o0j h];refine fEx Tryz.func164 ?_;repeat' ((conv=>whnf);first|refine a0a ?_|(apply bRx<;>intro h<;>try (exfalso;(try dsimp only at h);omega)))
  all_goals (conv=>whnf)
  all_goals first
   |exact a0b rfl
   |(exfalso;omega)
 refine fEx Tryz.func164 ?_;repeat' ((conv=>whnf);first|refine a0a ?_|(apply bRx<;>intro h<;>try (exfalso;(try dsimp only at h);omega)))
 all_goals (conv=>whnf)
 all_goals first
  |(exfalso;omega)
  |skip
 refine a0n (fun k:Nat=>⟨[(0,.str s),(14,.int .i64 s.size),(15,.int .i64 k)],[],1⟩) (fun k=>k<=s.size/\z0F s k) (fun k=>s.size-k) 0 [0] [] wHx ⟨by omega,fun i hi=>by omega⟩ ?_;rintro k ⟨hk,hc⟩;repeat' ((conv=>whnf);first|refine a0a ?_|(apply bRx<;>intro h<;>try (exfalso;(try dsimp only at h);omega)))
 all_goals (conv=>whnf)
 all_goals first
  |exact a0b (by rw [v0r (k:=k) (by omega) (by omega)];rfl)
  |exact ⟨k+1,[0],[],⟨by omega,m0a hc (by omega)⟩,by omega,⟨rfl,⟨rfl,rfl,congrArg (fun z=>some (SV.int .i64 z)) (a0G (by omega)),trivial⟩,trivial⟩⟩
  |skip
 have e:k=s.size:=by omega
 subst e;exact a0b (by rw [n0g (by omega) (by omega) hc];rfl)
theorem r0G (s:ByteArray):a0y Tryz.prog 71 [.str s] (.bool (auI s)):=by
 by_cases h:s.size<1\/16<s.size
 .rw [o0j h];refine fEx Tryz.func71 ?_;repeat' ((conv=>whnf);first|refine a0a ?_|(apply bRx<;>intro h<;>try (exfalso;(try dsimp only at h);omega)))
  all_goals (conv=>whnf)
  all_goals first
   |exact a0b rfl
   |(exfalso;omega)
 refine fEx Tryz.func71 ?_;repeat' ((conv=>whnf);first|refine a0a ?_|(apply bRx<;>intro h<;>try (exfalso;(try dsimp only at h);omega)))
 all_goals (conv=>whnf)
 all_goals first
  |(exfalso;omega)
  |skip
 refine a0n (fun k:Nat=>⟨[(0,.str s),(14,.int .i64 s.size),(15,.int .i64 k)],[],1⟩) (fun k=>k<=s.size/\z0F s k) (fun k=>s.size-k) 0 [0] [] wHx ⟨by omega,fun i hi=>by omega⟩ ?_;rintro k ⟨hk,hc⟩;repeat' ((conv=>whnf);first|refine a0a ?_|(apply bRx<;>intro h<;>try (exfalso;(try dsimp only at h);omega)))
 all_goals (conv=>whnf)
 all_goals first
  |exact a0b (by rw [v0r (k:=k) (by omega) (by omega)];rfl)
  |exact ⟨k+1,[0],[],⟨by omega,m0a hc (by omega)⟩,by omega,⟨rfl,⟨rfl,rfl,congrArg (fun z=>some (SV.int .i64 z)) (a0G (by omega)),trivial⟩,trivial⟩⟩
  |skip
 have e:k=s.size:=by omega
 subst e;exact a0b (by rw [n0g (by omega) (by omega) hc];rfl)
theorem r0H (s:ByteArray) (h:s=sSb\/s=sHb):a0y Tryz.prog 27 [.str s] (.bool true):=by
 have c:=c0j s
 rwa [show nmB s=true by rcases h with rfl|rfl<;>decide] at c
theorem z0Q:a0y Tryz.prog 165 [.str sCd] (.int .i64 0):=by
 have c:=r0t sCd
 rwa [show c1e sCd=0 by decide] at c
theorem w0R (r:Rc) (h:d0V r):a0y Tryz.prog 89 [r.s] (.int .i64 0):=by
 obtain ⟨k,id,a,rfl,hk,hi,ha⟩:=h;unfold mkR;refine fEx Tryz.func89 ?_;repeat' ((conv=>whnf);first|refine a0a ?_|(apply bRx<;>intro h<;>try (exfalso;(try dsimp only at h);omega)))
 all_goals (conv=>whnf)
 all_goals first
  |exact a0b rfl
  |trace_state
theorem t0V (r:Rc) (h:d0V r):a0y Tryz.prog 90 [r.s] (.int .i64 0):=by
 obtain ⟨k,id,a,rfl,hk,hi,ha⟩:=h;have c:=r0F id;rw [hi] at c;have c2:=r0F sM1;rw [show auI sM1=true by unfold auI;decide] at c2;have d:=r0H sSb (.inl rfl);have e:=r0H sHb (.inr rfl);unfold mkR;refine fEx Tryz.func90 ?_;repeat' ((conv=>whnf);first|refine cPx c ?_|refine cPx c2 ?_|refine cPx d ?_|refine cPx e ?_|refine a0a ?_|(apply bRx<;>intro h<;>try (exfalso;(try dsimp only at h);omega)))
 all_goals (conv=>whnf)
 all_goals first
  |exact a0b rfl
  |trace_state
theorem w0S (r:Rc) (h:d0V r):a0y Tryz.prog 91 [r.s] (.int .i64 0):=by
 obtain ⟨k,id,a,rfl,hk,hi,ha⟩:=h;have c:=z0Q;unfold mkR;refine fEx Tryz.func91 ?_;repeat' ((conv=>whnf);first|refine cPx c ?_|refine a0a ?_|(apply bRx<;>intro h<;>try (exfalso;(try dsimp only at h);omega)))
 all_goals (conv=>whnf)
 all_goals first
  |exact a0b rfl
  |trace_state
theorem r0I (r:Rc) (h:d0V r):a0y Tryz.prog 92 [r.s] (.int .i64 0):=by
 obtain ⟨k,id,a,rfl,hk,hi,h1,h2⟩:=h;have c:=a0F a (by omega);unfold mkR;refine fEx Tryz.func92 ?_;repeat' ((conv=>whnf);first|refine cPx c ?_|refine a0a ?_|(apply bRx<;>intro h<;>try (exfalso;(try dsimp only at h);omega)))
 all_goals (conv=>whnf)
 all_goals first
  |exact a0b rfl
  |trace_state
theorem r0J (r:Rc) (h:d0V r):a0y Tryz.prog 93 [r.s] (.int .i64 0):=by
 obtain ⟨k,id,a,rfl,hk,hi,h1,h2⟩:=h;unfold mkR;refine fEx Tryz.func93 ?_;repeat' ((conv=>whnf);first|refine a0a ?_|(apply bRx<;>intro h<;>try (exfalso;(try dsimp only at h);omega)))
 all_goals (conv=>whnf)
 all_goals first
  |exact a0b rfl
  |trace_state
theorem w0T (r:Rc) (h:d0V r):a0y Tryz.prog 94 [r.s] (.int .i64 0):=by
 obtain ⟨k,id,a,rfl,hk,hi,h1,h2⟩:=h;unfold mkR;refine fEx Tryz.func94 ?_;repeat' ((conv=>whnf);first|refine a0a ?_|(apply bRx<;>intro h<;>try (exfalso;(try dsimp only at h);omega)))
 all_goals (conv=>whnf)
 all_goals first
  |exact a0b rfl
  |trace_state
theorem f0W (r:Rc) (h:d0V r):a0y Tryz.prog 43 [r.s] (.int .i64 0):=by
 have c1:=w0R r h;have c2:=t0V r h;have c3:=w0S r h;have c4:=r0I r h;have c5:=r0J r h;have c6:=w0T r h;clear h;obtain ⟨k,id,au,ac,is,me,ca,am,cu,da,ct,fi⟩:=r;refine fEx Tryz.func43 ?_;repeat' ((conv=>whnf);first|refine a0c 8 ?_|refine cPx c1 ?_|refine cPx c2 ?_|refine cPx c3 ?_|refine cPx c4 ?_|refine cPx c5 ?_|refine cPx c6 ?_|refine a0a ?_|(apply bRx<;>intro h<;>try (exfalso;(try dsimp only at h);omega)))
 all_goals (conv=>whnf)
 all_goals first
  |exact a0b rfl
  |exact rOz [0]
  |trace_state
end
section
attribute [local irreducible] a0u a0v a0j b0b
abbrev ttB (ro:Bool) (n D C h:Int):Option HB:=some (.one ro (.obj (.map false true 1 [.strs [sSb]] [.sc (.ints .i64 [n]),.sc (.ints .i64 [D]),.sc (.ints .i64 [C]),.sc (.ints .i64 [h])] [0] 1)))
abbrev tt0 (ro:Bool):Option HB:=some (.one ro (.obj (.map false true 0 [.strs []] [.sc (.ints .i64 []),.sc (.ints .i64 []),.sc (.ints .i64 []),.sc (.ints .i64 [])] [] 0)))
abbrev opB (ro o:Bool):Option HB:=some (.one ro (.obj (bif o then .map false false 1 [.strs [sSb]] [.svs [.nsl]] [0] 1 else .map false false 0 [.strs []] [.svs []] [] 0)))
abbrev inX (ro:Bool) (fs:SV):Option HB:=some (.one ro (.cells [.map 2 0,fs,.map 4 0,.map 5 0]))
theorem z0R:FC Tryz.prog 6 28 [.ptr 1 0 0 0,.str sSb] [(1,inX true .nsl),(2,tt0 true)] (a0d (.bool false) [] 6):=by
 refine fEx Tryz.func28 ?_;repeat' ((conv=>whnf);first|refine a0a ?_|(apply bRx<;>intro h<;>try (exfalso;(try dsimp only at h);omega)))
 all_goals (conv=>whnf)
 all_goals first
  |exact rOz [0,1,2,3,4,5]
  |trace_state
theorem z0S:FC Tryz.prog 2 8 [.sl 1 0 0 1] [(1,some (.one true (.cols 1 [.sc (.strs [sSb])])))] (a0d (.tup [.ptr 2 0 0 0,.int .i64 0]) [(2,some (.one false (.cells [.map 3 0,.nsl,.map 4 0,.map 5 0]))),(3,ttB false 0 0 0 0),(4,some (.one false (.obj (.map true false 0 [.strs [],.strs []] [.sc (.bools [])] [] 0)))),(5,opB false false)] 6):=by
 have c:=r0H sSb (.inl rfl);have d:=z0R;refine fEx Tryz.func8 ?_;repeat' ((conv=>whnf);first|refine a0c 3 ?_|refine cPx c ?_|refine cOx (l:= [0,5,2,1,3,4]) d ?_|refine a0a ?_|(apply bRx<;>intro h<;>try (exfalso;(try dsimp only at h);omega)))
 all_goals (conv=>whnf)
 all_goals first
  |exact rOz [0,1,5,2,3,4]
  |trace_state
theorem z0T:FC Tryz.prog 2 160 [.nsl,.fn 163 [.ptr 1 0 0 0]] [] (a0d (.int .i64 (-1)) [] 2):=by
 refine fEx Tryz.func160 ?_;repeat' ((conv=>whnf);first|refine a0c 3 ?_|refine a0a ?_|(apply bRx<;>intro h<;>try (exfalso;(try dsimp only at h);omega)))
 all_goals (conv=>whnf)
 all_goals first
  |exact rOz [0,1]
  |trace_state
theorem z0U:FC Tryz.prog 2 162 [.nsl,.fn 163 [.ptr 1 0 0 0]] [] (a0d .nsl [] 2):=by
 have c:=z0T;refine fEx Tryz.func162 ?_;repeat' ((conv=>whnf);first|refine cOx (l:= [0,1]) c ?_|refine a0a ?_|(apply bRx<;>intro h<;>try (exfalso;(try dsimp only at h);omega)))
 all_goals (conv=>whnf)
 all_goals first
  |exact rOz [0,1]
  |trace_state
theorem r0K (id:ByteArray) (o:Bool) (n:Nat):FC Tryz.prog 6 88 [.ptr 1 0 0 0,.str sSb,.str id] [(1,inX true (.sl 3 0 0 n)),(5,opB false o)] (a0d (.tup []) [(5,opB false true)] 6):=by
 have c:=z0U;cases o;all_goals refine fEx Tryz.func88 ?_
 all_goals repeat' ((conv=>whnf);first|refine cOx (l:= [0,6]) c ?_|refine a0a ?_|(apply bRx<;>intro h<;>try (exfalso;(try dsimp only at h);omega)))
 all_goals (conv=>whnf)
 all_goals first
  |exact rOz [0,1,2,3,4,5]
  |trace_state
end
end Go.Proofs.YtclhnagdmajfkaaGreatDoor
namespace Go.Sy
open Go.RowKit
theorem sidx_le (l:List ByteArray) (s:ByteArray):d0f l s<=l.length:=by
 induction l with
 |nil=>simp [d0f]
 |cons x l ih=>
  simp only [d0f,seq];by_cases h:x=s
  .rw [decide_eq_true h];simp
  .rw [decide_eq_false h];simp;exact ih
theorem sidx_lt {l:List ByteArray} {s:ByteArray}:d0f l s<l.length↔s∈l:=by
 induction l with
 |nil=>simp [d0f]
 |cons x l ih=>
  simp only [d0f,seq];by_cases h:x=s
  .rw [decide_eq_true h];simp [h]
  .rw [decide_eq_false h];have:¬s=x:=fun e=>h e.symm
   simp [this,ih]
end Go.Sy
namespace Go.Proofs.YtclhnagdmajfkaaGreatDoor
open Go.RowKit Go.Sy
section
attribute [local irreducible] a0u a0v a0j b0b
theorem k0G (k:Nat):(k:Int).toNat+0=k:=rfl
theorem r0L (n i:Nat):(List.replicate n true).getD i false=decide (i<n):=by
 rw [List.getD,v0m];by_cases h:i<n
 .rw [if_pos h,decide_eq_true h];rfl
 .rw [if_neg h,decide_eq_false h];rfl
theorem m0c {α:Type} {l:List α} {n:Nat} (h:l.length=n) (x:α):c0x n x l=l++ [x]:=by unfold c0x;rw [if_neg (by omega)]
theorem e0o {a b:ByteArray}:seq a b=true↔a=b:=by unfold seq;exact decide_eq_true_iff
abbrev seB (ro:Bool) (k:Nat) (L:List ByteArray):Option HB:=some (.one ro (.obj (.map false false k [.strs (L.take k)] [.sc (.bools (List.replicate k true))] (List.range k) k)))
theorem v0y {L:List ByteArray} {k:Nat} (hk:k<L.length) (hix:d0f (L.take k) (L.getD k ⟨#[]⟩)=k):
  (some (HB.one false (.obj (.map false false (if d0f (L.take k) (L.getD k ⟨#[]⟩)<k then k else k+1) [.strs (c0x (d0f (L.take k) (L.getD k ⟨#[]⟩)) (L.getD k ⟨#[]⟩) (L.take k))] [.sc (.bools (c0x (d0f (L.take k) (L.getD k ⟨#[]⟩)) true (List.replicate k true)))] (if d0f (L.take k) (L.getD k ⟨#[]⟩)<k then List.range k else List.range k++ [k]) (if d0f (L.take k) (L.getD k ⟨#[]⟩)<k then k else k+1)))):Option HB)
   =seB false (k+1) L:=by
 unfold seB;rw [hix];simp only [w0z,if_false];rw [m0c (l:=L.take k) (by rw [m0z];omega),m0c (l:=List.replicate k true) (by simp),d1G,b1F,List.take_add_one,List.getD,d0L hk];rfl
theorem j0J {L:List ByteArray} (hn:L.Nodup) {k:Nat} (hk:k<L.length):d0f (L.take k) (L.getD k ⟨#[]⟩)=k:=by
 have hl:(L.take k).length=k:=by rw [m0z];omega
 have h1:=Go.Sy.sidx_le (L.take k) (L.getD k ⟨#[]⟩);have h2:¬d0f (L.take k) (L.getD k ⟨#[]⟩)<(L.take k).length:=by
  rw [Go.Sy.sidx_lt];intro hm;rw [List.getD,d0L hk,o0y] at hm;obtain ⟨i,hi,e⟩:=t0H hm;rw [List.getElem_take] at e;have hik:i<k:=by omega
  exact List.pairwise_iff_getElem.1 hn i k (by omega) hk hik e
 omega
attribute [local irreducible] seq ByteArray.extract
theorem t0W (R:List Rc) (n:Nat) (hn:R.length=n) (hR:∀r∈R,d0V r) (hd:(R.map Rc.id).Nodup) (h20:n<=100) (id:ByteArray) (hid:auI id=true):FC Tryz.prog 2 31 [.agg [.str id,.str sSb,.int .i64 0,.sl 1 0 0 n]] [(1,rcB true n R)] (a0d (.int .i64 0) [] 2):=by
 have c1:=r0G id;rw [hid] at c1;have c2:=r0H sSb (.inl rfl);refine fEx Tryz.func31 ?_;repeat' ((conv=>whnf);first|refine cPx c1 ?_|refine cPx c2 ?_|refine a0a ?_|(apply bRx<;>intro h<;>try (exfalso;(try dsimp only at h);omega)))
 all_goals (conv=>whnf)
 all_goals first
  |(exfalso;omega)
  |skip
 refine a0n (fun k:Nat=>⟨[(1,.ptr 2 0 0 0),(3,.map 3 0),(31,.sl 1 0 0 n),(32,.int .i64 n),(33,.int .i64 k)],[(1,rcB true n R),(2,some (.one false (.cells [.str id,.str sSb,.int .i64 0,.sl 1 0 0 n]))),(3,seB false k (R.map Rc.id))],4⟩) (fun k=>k<=n) (fun k=>n-k) 0 [0,1,2,3] [] wHx (k0R _) ?_;rintro k hk;by_cases hk2:k<n
 .have ok:=r0x hR (show k<R.length by omega);have c:=f0W _ ok;have hac:seq ((R.map Rc.ac).getD k ⟨#[]⟩) sSb=true:=by
   obtain ⟨k',id',a',e,_⟩:=ok;exact e0o.2 (congrArg Rc.ac e)
  have hfr:=j0J hd (show k<(R.map Rc.id).length by rw [m0k];omega);have hrow:=v0y (L:=R.map Rc.id) (k:=k) (by rw [m0k];omega) hfr;have hrep:(List.replicate k true).getD (d0f ((R.map Rc.id).take k) ((R.map Rc.id).getD k ⟨#[]⟩)) false=false:=by rw [r0L,hfr];exact decide_eq_false (w0z k)
  repeat' ((conv=>whnf);first|(simp only [k0G,hac])|(simp only [k0G,hrep])|refine cPx c ?_|refine a0a ?_|(apply bRx<;>intro h<;>try (exfalso;(try dsimp only at h);omega)))
  all_goals (conv=>whnf)
  all_goals first
   |exact ⟨k+1,[0,1,2,3],[],hk2,(show n-(k+1)<n-k by omega),⟨rfl,⟨rfl,rfl,rfl,rfl,congrArg (fun z=>some (SV.int .i64 z)) (a0G (by omega)),trivial⟩,⟨rfl,rfl,hrow,trivial⟩⟩⟩
   |(exfalso;omega)
   |trace_state
 .have ek:k=n:=by omega
  subst ek;repeat' ((conv=>whnf);first|refine a0a ?_|(apply bRx<;>intro h<;>try (exfalso;(try dsimp only at h);omega)))
  all_goals (conv=>whnf)
  all_goals first
   |exact rOz [0,1]
   |(exfalso;omega)
   |trace_state
end
section
attribute [local irreducible] a0u a0v a0j b0b
theorem t0X:a0y Tryz.prog 147 [.str sCd] (.int .i64 2):=by
 refine fEx Tryz.func147 ?_;repeat' ((conv=>whnf);first|refine a0c 10 ?_|refine a0a ?_|(apply bRx<;>intro h<;>try (exfalso;(try dsimp only at h);omega)))
 all_goals (conv=>whnf)
 all_goals first
  |exact a0b rfl
  |trace_state
theorem t0Y (L:List ByteArray) (n:Nat) (h:∀k,k<n->L.getD k ⟨#[]⟩=sCd) (hn:n<=100):FC Tryz.prog 2 77 [.sl 1 0 0 n] [(1,some (.one true (.cols n [.sc (.strs L)])))] (a0d (.int .i64 (2*(n:Int))) [] 2):=by
 refine fEx Tryz.func77 ?_;repeat' ((conv=>whnf);first|refine a0a ?_|(apply bRx<;>intro h<;>try (exfalso;(try dsimp only at h);omega)))
 all_goals (conv=>whnf)
 refine a0n (fun k:Nat=>⟨[(3,.int .i64 (2*(k:Int))),(6,.sl 1 0 0 n),(7,.int .i64 n),(8,.int .i64 k)],[(1,some (.one true (.cols n [.sc (.strs L)])))],2⟩) (fun k=>k<=n) (fun k=>n-k) 0 [0,1] [] wHx (k0R _) ?_;rintro k hk;by_cases hk2:k<n
 .have c:=t0X;rw [<-h k hk2] at c;repeat' ((conv=>whnf);first|refine cPx c ?_|refine a0a ?_|(apply bRx<;>intro h<;>try (exfalso;(try dsimp only at h);omega)))
  all_goals (conv=>whnf)
  all_goals first
   |exact ⟨k+1,[0,1],[],hk2,(show n-(k+1)<n-k by omega),⟨rfl,⟨congrArg (fun z=>some (SV.int .i64 z)) (by rw [a0e (n:=2*(k:Int)+2) (by omega) (by omega),a1q (by omega),Int.emod_eq_of_lt (by omega) (by omega)];omega),rfl,rfl,congrArg (fun z=>some (SV.int .i64 z)) (a0G (by omega)),trivial⟩,⟨rfl,trivial⟩⟩⟩
   |(exfalso;omega)
   |trace_state
 .have ek:k=n:=by omega
  subst ek;repeat' ((conv=>whnf);first|refine a0a ?_|(apply bRx<;>intro h<;>try (exfalso;(try dsimp only at h);omega)))
  all_goals (conv=>whnf)
  all_goals first
   |exact rOz [0,1]
   |(exfalso;omega)
   |trace_state
def b1C (r:Rc):Prop:=(r.k=1\/r.k=2)/\1<=r.am/\r.am<=1000000000/\r.ca=sCd
theorem w0U {r:Rc} (h:d0V r):b1C r:=by
 obtain ⟨k,id,a,rfl,hk,hi,h1,h2⟩:=h;exact ⟨hk,h1,h2,rfl⟩
theorem w0V (q:Int):∀R:List Rc,(∀r∈R,b1C r)->0<=b0Z q R/\b0Z q R<=1000000000*(R.length:Int)
 | [],_=>⟨e1E _,e1E _⟩
 |r::R,h=>by
  have ih:=w0V q R (fun x hx=>h x (s0j _ hx));obtain ⟨hk,h1,h2,_⟩:=h r (v0J ..);simp only [b0Z,m0j];split<;>omega
theorem m0d (q:Int) {R:List Rc} {k:Nat} (h:k<R.length):b0Z q (R.take (k+1))=b0Z q (R.take k)+(if (R.map Rc.k).getD k 0=q then (R.map Rc.am).getD k 0 else 0):=by
 rw [x0B h,o0o,d0K _ _ R h,d0K _ _ R h];simp only [b0Z];omega
abbrev toS (n D C h:Int):SV:= .agg [.int .i64 n,.int .i64 D,.int .i64 C,.int .i64 h]
set_option maxHeartbeats 1000000 in
theorem r0M (R:List Rc) (n:Nat) (hn:R.length=n) (hR:∀r∈R,b1C r) (h20:n<=100):FC Tryz.prog 2 35 [.sl 1 0 0 n] [(1,rcB true n R)] (a0d (toS n (b0Z 1 R) (b0Z 2 R) (2*(n:Int))) [] 2):=by
 have hca:∀k,k<n->(R.map Rc.ca).getD k ⟨#[]⟩=sCd:=by
  intro k hk;rw [d0K _ _ R (by omega)];exact (hR _ (o0z _)).2.2.2
 have ct:=t0Y (R.map Rc.ca) n hca h20;refine fEx Tryz.func35 ?_;repeat' ((conv=>whnf);first|refine a0a ?_|(apply bRx<;>intro h<;>try (exfalso;(try dsimp only at h);omega)))
 all_goals (conv=>whnf)
 refine a0n (fun k:Nat=>⟨[(2,.ptr 2 0 0 0),(3,.ptr 3 0 0 0),(4,.sl 4 0 0 k),(14,.sl 1 0 0 n),(15,.int .i64 n),(16,.int .i64 k)],[(1,rcB true n R),(2,some (.one false (.cells [.int .i64 0,.int .i64 0,.int .i64 0,.int .i64 0]))),(3,some (.one false (.cells [.int .i64 n,.int .i64 (b0Z 1 (R.take k)),.int .i64 (b0Z 2 (R.take k)),.int .i64 0]))),(4,some (.one false (.cols k [.sc (.strs ((R.map Rc.ca).take k))])))],5⟩) (fun k=>k<=n) (fun k=>n-k) 0 [0,1,2,3,4] [] wHx (k0R _) ?_;rintro k hk;by_cases hk2:k<n
 .obtain ⟨hkk,ha1,ha2,hc⟩:=hR _ (o0z (show k<R.length by omega));have s1:=m0d 1 (R:=R) (k:=k) (by omega);have s2:=m0d 2 (R:=R) (k:=k) (by omega);have b1:=w0V 1 (R.take k) (fun r hr=>hR r (c1r hr));have b2:=w0V 2 (R.take k) (fun r hr=>hR r (c1r hr));have hl:(R.take k).length=k:=by rw [m0z];omega
  rw [hl] at b1 b2;have hcs:(R.map Rc.ca).take k++ [(R.map Rc.ca).getD k ⟨#[]⟩]=(R.map Rc.ca).take (k+1):=by
   rw [x0B (by rw [m0k];omega),List.getD,d0L (by rw [m0k];omega)];rfl
  have e1:(R.map Rc.k).getD k 0=R[k].k:=d0K _ _ R (by omega);have e2:(R.map Rc.am).getD k 0=R[k].am:=d0K _ _ R (by omega);rw [<-e2] at ha1 ha2;rw [<-e1] at hkk;clear e1 e2;generalize b0Z 1 (R.take k)=D at*;generalize b0Z 2 (R.take k)=C at*;have hcol:=congrArg (fun l=>some (HB.one false (.cols (k+1) [.sc (.strs l)]))) hcs;rcases hkk with hkk|hkk
  .have hrow:some (HB.one false (.cells [.int .i64 n,.int .i64 (IntKind.i64.wrap (D+(R.map Rc.am).getD k 0)),.int .i64 C,.int .i64 0]))=some (HB.one false (.cells [.int .i64 n,.int .i64 (b0Z 1 (R.take (k+1))),.int .i64 (b0Z 2 (R.take (k+1))),.int .i64 0])):=by
    rw [s1,s2,hkk,if_pos rfl,if_neg (by decide),Int.add_zero,a0e (by omega) (by omega)]
   repeat' ((conv=>whnf);first|(simp only [k0G,hkk])|(simp only [k0G])|refine a0a ?_|(apply bRx<;>intro h<;>try (exfalso;(try dsimp only at h);omega)))
   all_goals (conv=>whnf)
   all_goals first
    |exact ⟨k+1,[0,1,2,3,7],[],hk2,(show n-(k+1)<n-k by omega),⟨rfl,⟨rfl,rfl,rfl,rfl,rfl,congrArg (fun z=>some (SV.int .i64 z)) (a0G (by omega)),trivial⟩,⟨rfl,rfl,hrow,hcol,trivial⟩⟩⟩
    |(exfalso;omega)
    |trace_state
  .have hrow:some (HB.one false (.cells [.int .i64 n,.int .i64 D,.int .i64 (IntKind.i64.wrap (C+(R.map Rc.am).getD k 0)),.int .i64 0]))=some (HB.one false (.cells [.int .i64 n,.int .i64 (b0Z 1 (R.take (k+1))),.int .i64 (b0Z 2 (R.take (k+1))),.int .i64 0])):=by
    rw [s1,s2,hkk,if_pos rfl,if_neg (by decide),Int.add_zero,a0e (by omega) (by omega)]
   repeat' ((conv=>whnf);first|(simp only [k0G,hkk])|(simp only [k0G])|refine a0a ?_|(apply bRx<;>intro h<;>try (exfalso;(try dsimp only at h);omega)))
   all_goals (conv=>whnf)
   all_goals first
    |exact ⟨k+1,[0,1,2,3,7],[],hk2,(show n-(k+1)<n-k by omega),⟨rfl,⟨rfl,rfl,rfl,rfl,rfl,congrArg (fun z=>some (SV.int .i64 z)) (a0G (by omega)),trivial⟩,⟨rfl,rfl,hrow,hcol,trivial⟩⟩⟩
    |(exfalso;omega)
    |trace_state
 .have ek:k=n:=by omega
  subst ek;rw [t0F (by omega:R.length<=k),t0F (by rw [m0k];omega)];repeat' ((conv=>whnf);first|refine cOx (l:= [0,4]) ct ?_|refine a0a ?_|(apply bRx<;>intro h<;>try (exfalso;(try dsimp only at h);omega)))
  all_goals (conv=>whnf)
  all_goals first
   |exact rOz [0,1]
   |(exfalso;omega)
   |trace_state
end
section
attribute [local irreducible] a0u a0v a0j b0b
abbrev fiB (ro:Bool) (n:Nat) (F:List ByteArray):Option HB:=some (.one ro (.cols n [.sc (.strs (List.replicate n sSb)),.sc (.strs F)]))
abbrev reB (ro:Bool) (m:Nat) (I:List ByteArray):Option HB:=some (.one ro (.obj (.map true false m [.strs (List.replicate m sSb),.strs I] [.sc (.bools (List.replicate m true))] (List.range m) m)))
theorem o0p (n:Nat) (c D C h:Int):FC Tryz.prog 6 28 [.ptr 1 0 0 0,.str sSb] [(1,inX true (.sl 3 0 0 n)),(2,ttB true c D C h)] (a0d (.bool true) [] 6):=by
 refine fEx Tryz.func28 ?_;repeat' ((conv=>whnf);first|refine a0a ?_|(apply bRx<;>intro h<;>try (exfalso;(try dsimp only at h);omega)))
 all_goals (conv=>whnf)
 all_goals first
  |exact rOz [0,1,2,3,4,5]
  |trace_state
theorem t0Z (n:Nat) (c D C h c' D' C' h':Int):FC Tryz.prog 6 42 [.ptr 1 0 0 0,.str sSb,toS c' D' C' h'] [(1,inX true (.sl 3 0 0 n)),(2,ttB false c D C h)] (a0d (.tup []) [(2,ttB false (IntKind.i64.wrap (c+c')) (IntKind.i64.wrap (D+D')) (IntKind.i64.wrap (C+C')) ((IntKind.i64.wrap (h+h')).tmod 100000000))] 6):=by
 refine fEx Tryz.func42 ?_;repeat' ((conv=>whnf);first|refine a0a ?_|(apply bRx<;>intro h<;>try (exfalso;(try dsimp only at h);omega)))
 all_goals (conv=>whnf)
 all_goals first
  |exact rOz [0,1,2,3,4,5]
  |trace_state
theorem u0a {α:Type} {n k:Nat} (h:k<n) (x d:α):(List.replicate n x).getD k d=x:=by
 rw [List.getD,v0m,if_pos h];rfl
attribute [local irreducible] seq
theorem r0N (F:List ByteArray) (n p:Nat) (hn:n<=1000) (id:ByteArray) (hp:p<=n) (hlt:∀k,k<p->F.getD k ⟨#[]⟩≠id) (heq:p<n->F.getD p ⟨#[]⟩=id):FC Tryz.prog 2 85 [.sl 1 0 0 n,.agg [.str sSb,.str id]] [(1,fiB true n F)] (a0d (.int .i64 (if p<n then (p:Int) else-1)) [] 2):=by
 refine fEx Tryz.func85 ?_;repeat' ((conv=>whnf);first|refine a0a ?_|(apply bRx<;>intro h<;>try (exfalso;(try dsimp only at h);omega)))
 all_goals (conv=>whnf)
 refine a0n (fun k:Nat=>⟨[(0,.sl 1 0 0 n),(3,.ptr 2 0 0 0),(7,.int .i64 n),(8,.int .i64 k)],[(1,fiB true n F),(2,some (.one false (.cells [.str sSb,.str id])))],3⟩) (fun k=>k<=p) (fun k=>n-k) 0 [0,1,2] [] wHx (k0R _) ?_;rintro k hk;by_cases hk2:k<n
 .have q1:seq sSb ((List.replicate n sSb).getD k ⟨#[]⟩)=true:=by rw [u0a hk2];exact e0o.2 rfl
  by_cases hkp:k<p
  .have q2:seq id (F.getD k ⟨#[]⟩)=false:=by
    cases hb:seq id (F.getD k ⟨#[]⟩) with
    |false=>rfl
    |true=>exact absurd (e0o.1 hb).symm (hlt k hkp)
   repeat' ((conv=>whnf);first|(simp only [k0G,q1,q2,e1Q,Bool.and_true,z0b])|refine a0a ?_|(apply bRx<;>intro h<;>try (exfalso;(try dsimp only at h);omega)))
   all_goals (conv=>whnf)
   all_goals first
    |exact ⟨k+1,[0,1,2],[],by omega,(show n-(k+1)<n-k by omega),⟨rfl,⟨rfl,rfl,rfl,congrArg (fun z=>some (SV.int .i64 z)) (a0G (by omega)),trivial⟩,⟨rfl,rfl,trivial⟩⟩⟩
    |(exfalso;omega)
    |trace_state
  .have ep:k=p:=by omega
   subst ep;have q2:seq id (F.getD k ⟨#[]⟩)=true:=e0o.2 (heq hk2).symm;rw [if_pos hk2];repeat' ((conv=>whnf);first|(simp only [k0G,q1,q2,e1Q,Bool.and_true,z0b])|refine a0a ?_|(apply bRx<;>intro h<;>try (exfalso;(try dsimp only at h);omega)))
   all_goals (conv=>whnf)
   all_goals first
    |exact rOz [0,1]
    |(exfalso;omega)
    |trace_state
 .have ep:p=n:=by omega
  have ek:k=n:=by omega
  subst ep ek;rw [if_neg (by omega)];repeat' ((conv=>whnf);first|refine a0a ?_|(apply bRx<;>intro h<;>try (exfalso;(try dsimp only at h);omega)))
  all_goals (conv=>whnf)
  all_goals first
   |exact rOz [0,1]
   |(exfalso;omega)
   |trace_state
theorem g0S (F:List ByteArray) (n p:Nat) (hn:n<=1000) (id:ByteArray) (hp:p<=n) (hlt:∀k,k<p->F.getD k ⟨#[]⟩≠id) (heq:p<n->F.getD p ⟨#[]⟩=id):FC Tryz.prog 2 40 [.sl 1 0 0 n,.agg [.str sSb,.str id]] [(1,fiB true n F)] (a0d (.bool (decide (p<n))) [] 2):=by
 have c:=r0N F n p hn id hp hlt heq;have e:decide ((0:Int)<=(if p<n then (p:Int) else-1))=decide (p<n):=by
  by_cases h:p<n
  .rw [if_pos h,decide_eq_true h,decide_eq_true (by omega)]
  .rw [if_neg h,decide_eq_false h,decide_eq_false (by omega)]
 clear hlt heq;generalize (if p<n then (p:Int) else-1)=z at*;rw [<-e];refine fEx Tryz.func40 ?_;repeat' ((conv=>whnf);first|refine cOx (l:= [0,1]) c ?_|refine a0a ?_|(apply bRx<;>intro h<;>try (exfalso;(try dsimp only at h);omega)))
 all_goals (conv=>whnf)
 all_goals first
  |exact rOz [0,1]
  |trace_state
theorem k0H (id:ByteArray):∀F:List ByteArray,∃p,p<=F.length/\(∀k,k<p->F.getD k ⟨#[]⟩≠id)/\(p<F.length->F.getD p ⟨#[]⟩=id)/\(p<F.length↔id∈F)
 | []=>⟨0,d0M _,fun k hk=>absurd hk (s0d _),fun h=>absurd h (s0d _),by simp⟩
 |x::F=>by
  by_cases e:x=id
  .exact ⟨0,k0R _,fun k hk=>absurd hk (s0d _),fun _=>e,by simp [e]⟩
  .obtain ⟨p,h1,h2,h3,h4⟩:=k0H id F;refine ⟨p+1,by simp;omega,fun k hk=> ?_,fun h=>h3 (by simpa using h),?_⟩
   .cases k with
    |zero=>exact e
    |succ k=>exact h2 k (by omega)
   .have:¬id=x:=fun q=>e q.symm
    simp [this,h4]
end
section
attribute [local irreducible] a0u a0v a0j b0b
theorem c1g {s:ByteArray} (h:z0E s 256 c0Y=true) {x:Int} (h0:0<=x) (h1:x<256):a0h s x=(c0Y x.toNat:Int):=by
 have:=k0w h (i:=x.toNat) (by omega);rw [<-this,Int.toNat_of_nonneg h0]
theorem p0C {u:Nat} (h:u<256):c0Y u<=8:=by
 rcases f0m 8 (c0Y u) with h1|h1
 .have hu:1<=u:=by
   rcases i0m u with e|e
   .subst e;simp [c0Y] at h1
   .exact e
  have a:=i0b u hu;have:2^8<=2^(c0Y u-1):=s0i (by omega) (by omega);omega
 .exact h1
theorem w0W {u c:Nat} {x:Int} (hx:x=((u/2^c:Nat):Int)) (h:c=0\/2^c<=u):(c:Int)+(c0Y x.toNat:Int)=(c0Y u:Int):=by
 subst hx;rw [o0v];rcases h with rfl|h
 .simp
 .rw [p0z u c h];omega
theorem d0c {u c:Nat} {x n:Int} (hn:n=(c:Int)) (hc:c<=56) (hx:x=((u/2^c:Nat):Int)) (h:c=0\/2^c<=u) (h1:x<256):IntKind.i64.wrap (n+IntKind.i64.wrap (c0Y x.toNat:Int))=(c0Y u:Int):=by
 have hb:=p0C (u:=x.toNat) (by omega);rw [a0e (n:=(c0Y x.toNat:Int)) (by omega) (by omega),a0e (by omega) (by omega),hn];exact w0W hx h
theorem p0D (u:Nat) (hu:u<18446744073709551616):a0y Tryz.prog 192 [.int .u64 u] (.int .i64 (c0Y u)):=by
 refine fEx Tryz.func192 ?_;repeat' ((conv=>whnf);first|(refine a0f ⟨by (try simp only [f0R,e0G,e0H,e0I] at*);(try simp (disch:=omega) only [a0C]);omega,i0H (n:=256) (by kernel_rfl) (by (try simp only [f0R,e0G,e0H,e0I] at*);(try simp (disch:=omega) only [a0C]);omega)⟩ ?_)|refine a0a ?_|(apply bRx<;>intro h<;>try (exfalso;(try dsimp only at h);omega)))
 all_goals (conv=>whnf)
 all_goals refine a0b ?_
 all_goals simp only [e0P]
 all_goals (try simp only [f0R,e0G,e0H,e0I] at*)
 all_goals rw [c1g (by kernel_rfl) (by (try simp (disch:=omega) only [a0C]);omega) (by (try simp (disch:=omega) only [a0C]);omega)]
 all_goals refine congrArg (SV.int .i64) ?_
 .exact d0c (c:=56) (by first|rfl|((try simp (disch:=omega) only [a0C]);omega)) (by omega) (by (try simp (disch:=omega) only [a0C]);omega) (by omega) (by (try simp (disch:=omega) only [a0C]);omega)
 .exact d0c (c:=48) (by first|rfl|((try simp (disch:=omega) only [a0C]);omega)) (by omega) (by (try simp (disch:=omega) only [a0C]);omega) (by omega) (by (try simp (disch:=omega) only [a0C]);omega)
 .exact d0c (c:=40) (by first|rfl|((try simp (disch:=omega) only [a0C]);omega)) (by omega) (by (try simp (disch:=omega) only [a0C]);omega) (by omega) (by (try simp (disch:=omega) only [a0C]);omega)
 .exact d0c (c:=32) (by first|rfl|((try simp (disch:=omega) only [a0C]);omega)) (by omega) (by (try simp (disch:=omega) only [a0C]);omega) (by omega) (by (try simp (disch:=omega) only [a0C]);omega)
 .exact d0c (c:=24) (by first|rfl|((try simp (disch:=omega) only [a0C]);omega)) (by omega) (by (try simp (disch:=omega) only [a0C]);omega) (by omega) (by (try simp (disch:=omega) only [a0C]);omega)
 .exact d0c (c:=16) (by first|rfl|((try simp (disch:=omega) only [a0C]);omega)) (by omega) (by (try simp (disch:=omega) only [a0C]);omega) (by omega) (by (try simp (disch:=omega) only [a0C]);omega)
 .exact d0c (c:=8) (by first|rfl|((try simp (disch:=omega) only [a0C]);omega)) (by omega) (by (try simp (disch:=omega) only [a0C]);omega) (by omega) (by (try simp (disch:=omega) only [a0C]);omega)
 .exact d0c (c:=0) (by first|rfl|((try simp (disch:=omega) only [a0C]);omega)) (by omega) (by (try simp (disch:=omega) only [a0C]);omega) (by omega) (by (try simp (disch:=omega) only [a0C]);omega)
theorem i0M (n:Nat) (hn:n<=64):a0y Tryz.prog 285 [.int .i64 n] (.int .i64 (n*78913/262144:Nat)):=by
 refine fEx Tryz.func285 ?_;repeat' ((conv=>whnf);first|refine a0a ?_|(apply bRx<;>intro h<;>try (exfalso;(try dsimp only at h);omega)))
 all_goals (conv=>whnf)
 all_goals refine a0b ?_
 all_goals simp only [e0P]
 all_goals (try simp (disch:=omega) only [a0C])
 all_goals rfl
theorem p0E (b:Bool):a0y Tryz.prog 286 [.bool b] (.int .i64 (if b=true then 1 else 0)):=by
 refine fEx Tryz.func286 ?_;repeat' ((conv=>whnf);first|refine a0a ?_|(apply bRx<;>intro h<;>try (exfalso;(try dsimp only at h);omega)))
 all_goals (conv=>whnf)
 all_goals exact a0b (by simp [e0P,h,cv])
end
section
attribute [local irreducible] a0u a0v a0j b0b
def v0z:List Int:= [1,10,100,1000,10000,100000,1000000,10000000,100000000,1000000000,10000000000,100000000000,1000000000000,10000000000000,100000000000000,1000000000000000,10000000000000000,100000000000000000,1000000000000000000,10000000000000000000]
theorem u0b:∀k,k<20->v0z.getD k 0=((10^k:Nat):Int):=by decide+kernel
theorem e0U (u:Nat) (h1:1<=u) (hu:u<18446744073709551616):f0h Tryz.prog glT 210 [.int .u64 u] (.int .i64 (c0y u)):=by
 have c1:=p0D u hu;have hb:=l0X (u:=u) hu;have c2:=i0M (c0Y u) hb;have hk:c0Y u*78913/262144<20:=by omega
 have hn:=t0N h1 hu;have hp:=u0b _ hk;refine fEx Tryz.func210 ?_;generalize c0Y u*78913/262144=k at*;repeat' ((conv=>whnf);first|refine cPx c1 ?_|refine cPx c2 ?_|refine cPx (p0E _) ?_|refine a0a ?_|(apply bRx<;>intro h<;>try (exfalso;(try dsimp only at h);omega)))
 all_goals (conv=>whnf)
 all_goals refine a0b ?_
 all_goals simp only [e0P]
 all_goals refine congrArg (SV.int .i64) ?_
 have e:∀b:Bool,b=decide ((v0z.getD k 0)<=(u:Int))->IntKind.i64.wrap ((k:Int)+if b=true then 1 else 0)=(c0y u:Int):=by
  intro b hb;subst hb;rw [hn,hp];by_cases h:10^k<=u
  .have h':((10^k:Nat):Int)<=(u:Int):=Int.ofNat_le.2 h;rw [if_pos h,decide_eq_true h',if_pos rfl,a0e (by omega) (by omega)];rfl
  .have h':¬((10^k:Nat):Int)<=(u:Int):=fun x=>h (Int.ofNat_le.1 x)
   rw [if_neg h,decide_eq_false h',if_neg (by simp),a0e (by omega) (by omega)];rfl
 exact e _ rfl
theorem r0O:∀n,n<100->(n<10->d0n (c0y n) n= [((48+n:Nat):Int)])/\(¬n<10->d0n (c0y n) n= [((48+n/10:Nat):Int),((48+n%10:Nat):Int)]):=by
 intro n hn;constructor
 .intro h;rw [c0y,if_pos h];simp [d0n];omega
 .intro h;rw [c0y,if_neg h,c0y,if_pos (by omega)];simp [d0n];omega
theorem f0X {s:ByteArray} {a n:Nat} (h:a+n<=s.size) (l:List Int) (hl:l.length=n) (hg:∀i,i<n->a0h s ((a+i:Nat):Int)=l.getD i 0):s.extract a (a+n)=a0m l:=by
 have h1:s.data.toList.length=s.size:=by simp
 have:(s.extract a (a+n)).data.toList=(a0m l).data.toList:=by
  unfold a0m;simp only [b1X,e1J,d1E];apply e1C;intro i;by_cases hi:i<n
  .rw [p0N,if_pos (by omega),a1k,d0L (by omega)];rw [f0l,d0L (by omega)];simp only [g0w,Option.some.injEq];have hh:=hg i hi;unfold a0h at hh;rw [o0v,List.getD,d0L (by omega),List.getD,d0L (by omega)] at hh;simp only [o0y] at hh;rw [<-hh,o0v];exact (UInt8.ofNat_toNat).symm
  .rw [p0N,if_neg (by omega),f0k (by simp;omega)]
 have e2:∀x y:ByteArray,x.data.toList=y.data.toList->x=y:=by
  intro x y h;cases x;cases y;simp at h;congr
 exact e2 _ _ this
theorem p0F (n:Nat) (hn:n<100):a0y Tryz.prog 209 [.int .i64 n] (.str (dec n)):=by
 obtain ⟨d1,d2⟩:=r0O n hn;refine fEx Tryz.func209 ?_;repeat' ((conv=>whnf);first|(refine a0f ⟨by (try simp (disch:=omega) only [a0C]);omega,by (try simp (disch:=omega) only [a0C]);omega,z0D (n:=36) (by kernel_rfl) (by (try simp (disch:=omega) only [a0C]);omega)⟩ ?_)|(refine a0f ⟨by (try simp (disch:=omega) only [a0C]);omega,by (try simp (disch:=omega) only [a0C]);omega,z0D (n:=200) (by kernel_rfl) (by (try simp (disch:=omega) only [a0C]);omega)⟩ ?_)|refine a0a ?_|(apply bRx<;>intro h<;>try (exfalso;(try dsimp only at h);omega)))
 all_goals (conv=>whnf)
 all_goals refine a0b ?_
 all_goals simp only [e0P]
 all_goals refine congrArg SV.str ?_
 all_goals unfold dec
 .rw [d1 (by omega),show (IntKind.i64.wrap ((n:Int)+1)).toNat=n+1 from by (try simp (disch:=omega) only [a0C]);omega];refine f0X (n:=1) (by show n+1<=36;omega) _ rfl ?_;intro i hi;have e:i=0:=by omega
  subst e;refine Eq.trans (k0w (n:=36) (f:=fun i=>if i<10 then 48+i else 87+i) (by kernel_rfl) (i:=n+0) (by omega)) ?_;rw [if_pos (by omega)];rfl
 .rw [d2 (by omega),show (IntKind.i64.wrap ((n:Int)*2)).toNat=n*2 from by (try simp (disch:=omega) only [a0C]);omega,show (IntKind.i64.wrap (IntKind.i64.wrap ((n:Int)*2)+2)).toNat=n*2+2 from by (try simp (disch:=omega) only [a0C]);omega];refine f0X (n:=2) (by show n*2+2<=200;omega) _ rfl ?_;intro i hi;rcases (show i=0\/i=1 by omega) with rfl|rfl
  .rw [show ((n*2+0:Nat):Int)=(n:Int)*2 by omega,d0I (by kernel_rfl) (by omega) (by omega)];rfl
  .rw [show ((n*2+1:Nat):Int)=(n:Int)*2+1 by omega,f0S (by kernel_rfl) (by omega) (by omega)];rfl
set_option maxHeartbeats 2000000 in
theorem d0y (l:List Int) (N o n U:Nat) (hl:l.length=N) (hN:o+n<=N) (hN2:N<=1000) (hU:U<10^n) (hU2:U<18446744073709551616):
  FC Tryz.prog 2 211 [.sl 1 0 o n,.int .u64 U] [(1,some (.one false (.cols N [.sc (.ints .u8 l)])))] (a0d (.tup []) [(1,some (.one false (.cols N [.sc (.ints .u8 (n0f l N o n U n))])))] 2):=by
 refine fEx Tryz.func211 ?_
 (conv=>whnf)
 refine a0n (fun m:Nat=>⟨[(0,.sl 1 0 o n),(1,.int .u64 (U/10^m:Nat)),(4,.int .i64 (n-m:Nat))],[(1,some (.one false (.cols N [.sc (.ints .u8 (n0f l N o n U m))])))],2⟩) (fun m=>m<=n) (fun m=>n-m) 0 [0,1] [] ⟨rfl,⟨rfl,?_,rfl,trivial⟩,⟨?_,trivial⟩⟩ (by omega) ?_
 .simp only [Nat.pow_zero,Nat.div_one];rfl
 .rw [l0Z hl];rfl
 intro m hm;have hu:U/10^m<=U:=e1L _ _;have hdm:U/10^m<10^(n-m):=by
  rw [y0L (Nat.pow_pos (by omega)),<-Nat.pow_add,show n-m+m=n from by omega];exact hU
 generalize hq:U/10^m=q at*;by_cases h8:8<=n-m
 .repeat' ((conv=>whnf);first|(refine a0f ⟨by (try simp (disch:=omega) only [a0C]);omega,i0H (n:=200) (by kernel_rfl) (by (try simp (disch:=omega) only [a0C]);omega)⟩ ?_)|(refine a0f ⟨by (try simp (disch:=omega) only [a0C]);omega,by (try simp (disch:=omega) only [a0C]);omega⟩ ?_)|(refine a0f (by (try simp (disch:=omega) only [a0C]);omega) ?_)|refine a0a ?_|(apply bRx<;>intro h<;>try (exfalso;(try dsimp only at h);omega)))
  all_goals (conv=>whnf)
  refine ⟨m+8,[0,1],[],by omega,by omega,⟨rfl,⟨rfl,?_,?_,trivial⟩,⟨?_,trivial⟩⟩⟩
  .refine congrArg (fun z=>some (SV.int .u64 z)) ?_
   (try simp (disch:=omega) only [a0C])
   simp only [a0I,hq,Nat.reducePow];omega
  .refine congrArg (fun z=>some (SV.int .i64 z)) ?_
   (try simp (disch:=omega) only [a0C])
   omega
  .refine congrArg (fun z=>some (HB.one false (.cols N [.sc (.ints .u8 z)]))) ?_;rw [a0o (m:=m),a0o (m:=m+1),a0o (m:=m+2),a0o (m:=m+3),a0o (m:=m+4),a0o (m:=m+5),a0o (m:=m+6),a0o (m:=m+7)];all_goals first|omega|((try simp (disch:=omega) only [a0C]);omega)|((try simp (disch:=omega) only [a0C]);rw [f0S (by kernel_rfl) (by omega) (by omega)];simp only [a0I,hq,Nat.reducePow];omega)|((try simp (disch:=omega) only [a0C]);rw [d0I (by kernel_rfl) (by omega) (by omega)];simp only [a0I,hq,Nat.reducePow];omega)
 .have hk:n-m=0\/n-m=1\/n-m=2\/n-m=3\/n-m=4\/n-m=5\/n-m=6\/n-m=7:=by omega
  rcases hk with hk|hk|hk|hk|hk|hk|hk|hk
  .obtain rfl:n=m+0:=by omega
   have hk':q<10^0:=by simpa [hk] using hdm
   repeat' ((conv=>whnf);first|(refine a0f ⟨by (try simp (disch:=omega) only [a0C]);omega,i0H (n:=200) (by kernel_rfl) (by (try simp (disch:=omega) only [a0C]);omega)⟩ ?_)|(refine a0f ⟨by (try simp (disch:=omega) only [a0C]);omega,by (try simp (disch:=omega) only [a0C]);omega⟩ ?_)|(refine a0f (by (try simp (disch:=omega) only [a0C]);omega) ?_)|((refine g0P (fun h=> ?_) (fun h=> ?_))<;>try (exfalso;revert h;(try simp (disch:=omega) only [a0C]);omega))|refine a0a ?_|(apply bRx<;>intro h<;>try (exfalso;(try dsimp only at h);omega)))
   all_goals (conv=>whnf)
   refine d0i (l:= [0,1]) rfl rfl ⟨?_,trivial⟩ (a0k a0t);refine congrArg (fun z=>some (HB.one false (.cols N [.sc (.ints .u8 z)]))) ?_;rfl
  .obtain rfl:n=m+1:=by omega
   have hk':q<10^1:=by simpa [hk] using hdm
   repeat' ((conv=>whnf);first|(refine a0f ⟨by (try simp (disch:=omega) only [a0C]);omega,i0H (n:=200) (by kernel_rfl) (by (try simp (disch:=omega) only [a0C]);omega)⟩ ?_)|(refine a0f ⟨by (try simp (disch:=omega) only [a0C]);omega,by (try simp (disch:=omega) only [a0C]);omega⟩ ?_)|(refine a0f (by (try simp (disch:=omega) only [a0C]);omega) ?_)|((refine g0P (fun h=> ?_) (fun h=> ?_))<;>try (exfalso;revert h;(try simp (disch:=omega) only [a0C]);omega))|refine a0a ?_|(apply bRx<;>intro h<;>try (exfalso;(try dsimp only at h);omega)))
   all_goals (conv=>whnf)
   refine d0i (l:= [0,1]) rfl rfl ⟨?_,trivial⟩ (a0k a0t);refine congrArg (fun z=>some (HB.one false (.cols N [.sc (.ints .u8 z)]))) ?_;rw [a0o (m:=m)];all_goals first|omega|((try simp (disch:=omega) only [a0C]);omega)|((try simp (disch:=omega) only [a0C]);rw [f0S (by kernel_rfl) (by omega) (by omega)];simp only [a0I,hq,Nat.reducePow];omega)|((try simp (disch:=omega) only [a0C]);rw [d0I (by kernel_rfl) (by omega) (by omega)];simp only [a0I,hq,Nat.reducePow];omega)|((try simp (disch:=omega) only [a0C]);simp only [a0I,hq,Nat.reducePow];omega)
  .obtain rfl:n=m+2:=by omega
   have hk':q<10^2:=by simpa [hk] using hdm
   repeat' ((conv=>whnf);first|(refine a0f ⟨by (try simp (disch:=omega) only [a0C]);omega,i0H (n:=200) (by kernel_rfl) (by (try simp (disch:=omega) only [a0C]);omega)⟩ ?_)|(refine a0f ⟨by (try simp (disch:=omega) only [a0C]);omega,by (try simp (disch:=omega) only [a0C]);omega⟩ ?_)|(refine a0f (by (try simp (disch:=omega) only [a0C]);omega) ?_)|((refine g0P (fun h=> ?_) (fun h=> ?_))<;>try (exfalso;revert h;(try simp (disch:=omega) only [a0C]);omega))|refine a0a ?_|(apply bRx<;>intro h<;>try (exfalso;(try dsimp only at h);omega)))
   all_goals (conv=>whnf)
   refine d0i (l:= [0,1]) rfl rfl ⟨?_,trivial⟩ (a0k a0t);refine congrArg (fun z=>some (HB.one false (.cols N [.sc (.ints .u8 z)]))) ?_;rw [a0o (m:=m),a0o (m:=m+1)];all_goals first|omega|((try simp (disch:=omega) only [a0C]);omega)|((try simp (disch:=omega) only [a0C]);rw [f0S (by kernel_rfl) (by omega) (by omega)];simp only [a0I,hq,Nat.reducePow];omega)|((try simp (disch:=omega) only [a0C]);rw [d0I (by kernel_rfl) (by omega) (by omega)];simp only [a0I,hq,Nat.reducePow];omega)|((try simp (disch:=omega) only [a0C]);simp only [a0I,hq,Nat.reducePow];omega)
  .obtain rfl:n=m+3:=by omega
   have hk':q<10^3:=by simpa [hk] using hdm
   repeat' ((conv=>whnf);first|(refine a0f ⟨by (try simp (disch:=omega) only [a0C]);omega,i0H (n:=200) (by kernel_rfl) (by (try simp (disch:=omega) only [a0C]);omega)⟩ ?_)|(refine a0f ⟨by (try simp (disch:=omega) only [a0C]);omega,by (try simp (disch:=omega) only [a0C]);omega⟩ ?_)|(refine a0f (by (try simp (disch:=omega) only [a0C]);omega) ?_)|((refine g0P (fun h=> ?_) (fun h=> ?_))<;>try (exfalso;revert h;(try simp (disch:=omega) only [a0C]);omega))|refine a0a ?_|(apply bRx<;>intro h<;>try (exfalso;(try dsimp only at h);omega)))
   all_goals (conv=>whnf)
   refine d0i (l:= [0,1]) rfl rfl ⟨?_,trivial⟩ (a0k a0t);refine congrArg (fun z=>some (HB.one false (.cols N [.sc (.ints .u8 z)]))) ?_;rw [a0o (m:=m),a0o (m:=m+1),a0o (m:=m+2)];all_goals first|omega|((try simp (disch:=omega) only [a0C]);omega)|((try simp (disch:=omega) only [a0C]);rw [f0S (by kernel_rfl) (by omega) (by omega)];simp only [a0I,hq,Nat.reducePow];omega)|((try simp (disch:=omega) only [a0C]);rw [d0I (by kernel_rfl) (by omega) (by omega)];simp only [a0I,hq,Nat.reducePow];omega)|((try simp (disch:=omega) only [a0C]);simp only [a0I,hq,Nat.reducePow];omega)
  .obtain rfl:n=m+4:=by omega
   have hk':q<10^4:=by simpa [hk] using hdm
   repeat' ((conv=>whnf);first|(refine a0f ⟨by (try simp (disch:=omega) only [a0C]);omega,i0H (n:=200) (by kernel_rfl) (by (try simp (disch:=omega) only [a0C]);omega)⟩ ?_)|(refine a0f ⟨by (try simp (disch:=omega) only [a0C]);omega,by (try simp (disch:=omega) only [a0C]);omega⟩ ?_)|(refine a0f (by (try simp (disch:=omega) only [a0C]);omega) ?_)|((refine g0P (fun h=> ?_) (fun h=> ?_))<;>try (exfalso;revert h;(try simp (disch:=omega) only [a0C]);omega))|refine a0a ?_|(apply bRx<;>intro h<;>try (exfalso;(try dsimp only at h);omega)))
   all_goals (conv=>whnf)
   refine d0i (l:= [0,1]) rfl rfl ⟨?_,trivial⟩ (a0k a0t);refine congrArg (fun z=>some (HB.one false (.cols N [.sc (.ints .u8 z)]))) ?_;rw [a0o (m:=m),a0o (m:=m+1),a0o (m:=m+2),a0o (m:=m+3)];all_goals first|omega|((try simp (disch:=omega) only [a0C]);omega)|((try simp (disch:=omega) only [a0C]);rw [f0S (by kernel_rfl) (by omega) (by omega)];simp only [a0I,hq,Nat.reducePow];omega)|((try simp (disch:=omega) only [a0C]);rw [d0I (by kernel_rfl) (by omega) (by omega)];simp only [a0I,hq,Nat.reducePow];omega)|((try simp (disch:=omega) only [a0C]);simp only [a0I,hq,Nat.reducePow];omega)
  .obtain rfl:n=m+5:=by omega
   have hk':q<10^5:=by simpa [hk] using hdm
   repeat' ((conv=>whnf);first|(refine a0f ⟨by (try simp (disch:=omega) only [a0C]);omega,i0H (n:=200) (by kernel_rfl) (by (try simp (disch:=omega) only [a0C]);omega)⟩ ?_)|(refine a0f ⟨by (try simp (disch:=omega) only [a0C]);omega,by (try simp (disch:=omega) only [a0C]);omega⟩ ?_)|(refine a0f (by (try simp (disch:=omega) only [a0C]);omega) ?_)|((refine g0P (fun h=> ?_) (fun h=> ?_))<;>try (exfalso;revert h;(try simp (disch:=omega) only [a0C]);omega))|refine a0a ?_|(apply bRx<;>intro h<;>try (exfalso;(try dsimp only at h);omega)))
   all_goals (conv=>whnf)
   refine d0i (l:= [0,1]) rfl rfl ⟨?_,trivial⟩ (a0k a0t);refine congrArg (fun z=>some (HB.one false (.cols N [.sc (.ints .u8 z)]))) ?_;rw [a0o (m:=m),a0o (m:=m+1),a0o (m:=m+2),a0o (m:=m+3),a0o (m:=m+4)];all_goals first|omega|((try simp (disch:=omega) only [a0C]);omega)|((try simp (disch:=omega) only [a0C]);rw [f0S (by kernel_rfl) (by omega) (by omega)];simp only [a0I,hq,Nat.reducePow];omega)|((try simp (disch:=omega) only [a0C]);rw [d0I (by kernel_rfl) (by omega) (by omega)];simp only [a0I,hq,Nat.reducePow];omega)|((try simp (disch:=omega) only [a0C]);simp only [a0I,hq,Nat.reducePow];omega)
  .obtain rfl:n=m+6:=by omega
   have hk':q<10^6:=by simpa [hk] using hdm
   repeat' ((conv=>whnf);first|(refine a0f ⟨by (try simp (disch:=omega) only [a0C]);omega,i0H (n:=200) (by kernel_rfl) (by (try simp (disch:=omega) only [a0C]);omega)⟩ ?_)|(refine a0f ⟨by (try simp (disch:=omega) only [a0C]);omega,by (try simp (disch:=omega) only [a0C]);omega⟩ ?_)|(refine a0f (by (try simp (disch:=omega) only [a0C]);omega) ?_)|((refine g0P (fun h=> ?_) (fun h=> ?_))<;>try (exfalso;revert h;(try simp (disch:=omega) only [a0C]);omega))|refine a0a ?_|(apply bRx<;>intro h<;>try (exfalso;(try dsimp only at h);omega)))
   all_goals (conv=>whnf)
   refine d0i (l:= [0,1]) rfl rfl ⟨?_,trivial⟩ (a0k a0t);refine congrArg (fun z=>some (HB.one false (.cols N [.sc (.ints .u8 z)]))) ?_;rw [a0o (m:=m),a0o (m:=m+1),a0o (m:=m+2),a0o (m:=m+3),a0o (m:=m+4),a0o (m:=m+5)];all_goals first|omega|((try simp (disch:=omega) only [a0C]);omega)|((try simp (disch:=omega) only [a0C]);rw [f0S (by kernel_rfl) (by omega) (by omega)];simp only [a0I,hq,Nat.reducePow];omega)|((try simp (disch:=omega) only [a0C]);rw [d0I (by kernel_rfl) (by omega) (by omega)];simp only [a0I,hq,Nat.reducePow];omega)|((try simp (disch:=omega) only [a0C]);simp only [a0I,hq,Nat.reducePow];omega)
  .obtain rfl:n=m+7:=by omega
   have hk':q<10^7:=by simpa [hk] using hdm
   repeat' ((conv=>whnf);first|(refine a0f ⟨by (try simp (disch:=omega) only [a0C]);omega,i0H (n:=200) (by kernel_rfl) (by (try simp (disch:=omega) only [a0C]);omega)⟩ ?_)|(refine a0f ⟨by (try simp (disch:=omega) only [a0C]);omega,by (try simp (disch:=omega) only [a0C]);omega⟩ ?_)|(refine a0f (by (try simp (disch:=omega) only [a0C]);omega) ?_)|((refine g0P (fun h=> ?_) (fun h=> ?_))<;>try (exfalso;revert h;(try simp (disch:=omega) only [a0C]);omega))|refine a0a ?_|(apply bRx<;>intro h<;>try (exfalso;(try dsimp only at h);omega)))
   all_goals (conv=>whnf)
   refine d0i (l:= [0,1]) rfl rfl ⟨?_,trivial⟩ (a0k a0t);refine congrArg (fun z=>some (HB.one false (.cols N [.sc (.ints .u8 z)]))) ?_;rw [a0o (m:=m),a0o (m:=m+1),a0o (m:=m+2),a0o (m:=m+3),a0o (m:=m+4),a0o (m:=m+5),a0o (m:=m+6)];all_goals first|omega|((try simp (disch:=omega) only [a0C]);omega)|((try simp (disch:=omega) only [a0C]);rw [f0S (by kernel_rfl) (by omega) (by omega)];simp only [a0I,hq,Nat.reducePow];omega)|((try simp (disch:=omega) only [a0C]);rw [d0I (by kernel_rfl) (by omega) (by omega)];simp only [a0I,hq,Nat.reducePow];omega)|((try simp (disch:=omega) only [a0C]);simp only [a0I,hq,Nat.reducePow];omega)
end
section
attribute [local irreducible] a0u a0v a0j b0b
theorem k0I {u:Nat} (h:u<18446744073709551616):c0y u<=20:=by
 rcases f0m 20 (c0y u) with h1|h1
 .have hu:1<=u:=by
   rcases i0m u with e|e
   .subst e;rw [c0y,if_pos (by omega)] at h1;omega
   .exact e
  have a:=r0m u hu;have:10^20<=10^(c0y u-1):=s0i (by omega) (by omega);omega
 .exact h1
theorem e0p (i:Int) (h1: -9223372036854775808<=i) (h2:i<=9223372036854775807):f0h Tryz.prog glT 145 [.int .i64 i,.int .i64 10] (.str (b0P i)):=by
 refine fEx Tryz.func145 ?_;by_cases hs:0<=i/\i<100
 .have c:=p0F i.toNat (by omega);rw [Int.toNat_of_nonneg hs.1] at c;repeat' ((conv=>whnf);first|refine cPx c ?_|refine a0a ?_|(apply bRx<;>intro h<;>try (exfalso;(try dsimp only at h);omega)))
  all_goals (conv=>whnf)
  all_goals refine a0b ?_
  unfold b0P;rw [if_neg (by omega)];rfl
 .by_cases hi:i<0
  .have e:IntKind.u64.wrap (0-IntKind.u64.wrap i)=(i.natAbs:Int):=by
    simp only [IntKind.wrap,IntKind.bits,IntKind.signed];simp;omega
   have hb:i.natAbs<18446744073709551616:=by omega
   have hn:=k0I hb;have hp:=d0H i.natAbs;have c2:=e0U i.natAbs (by omega) hb;rw [<-e] at c2;have en:(IntKind.i64.wrap (1+(c0y i.natAbs:Int))).toNat=1+c0y i.natAbs:=by (try simp (disch:=omega) only [a0C]);omega
   have en':(IntKind.i64.wrap (1+(c0y i.natAbs:Int))).toNat-Int.toNat 1=c0y i.natAbs:=by rw [en];simp
   have c3:=d0y (List.replicate 24 0) 24 (Int.toNat 1) ((IntKind.i64.wrap (1+(c0y i.natAbs:Int))).toNat-Int.toNat 1) i.natAbs rfl (by rw [en'];show 1+_<=24;omega) (by omega) (by rw [en'];exact h0Z _) hb;rw [<-e] at c3;repeat' ((conv=>whnf);first|refine cGx c2 ?_|refine cOx (l:= [0,1]) c3 ?_|(refine a0f ⟨by (try simp (disch:=omega) only [a0C]);omega,by (try simp (disch:=omega) only [a0C]);omega,by (try simp (disch:=omega) only [a0C]);omega⟩ ?_)|(refine a0f (by (try simp (disch:=omega) only [a0C]);omega) ?_)|refine a0a ?_|(apply bRx<;>intro h<;>try (exfalso;(try dsimp only at h);omega)))
   all_goals (conv=>whnf)
   all_goals refine a0b ?_
   unfold b0P;rw [if_pos hi];refine congrArg SV.str (congrArg a0m ?_);rw [en',en];refine Eq.trans (t0O (n:=c0y i.natAbs) (by rw [i0c];omega)) ?_;rw [show Int.toNat 1=1 from rfl,k0x (by omega)]
  .have e:IntKind.u64.wrap i=(i.toNat:Int):=by (try simp (disch:=omega) only [a0C]);omega
   have hb:i.toNat<18446744073709551616:=by omega
   have hn:=k0I hb;have hp:=d0H i.toNat;have c2:=e0U i.toNat (by omega) hb;rw [<-e] at c2;have en:(IntKind.i64.wrap (1+(c0y i.toNat:Int))).toNat=1+c0y i.toNat:=by (try simp (disch:=omega) only [a0C]);omega
   have en':(IntKind.i64.wrap (1+(c0y i.toNat:Int))).toNat-Int.toNat 1=c0y i.toNat:=by rw [en];simp
   have c3:=d0y (List.replicate 24 0) 24 (Int.toNat 1) ((IntKind.i64.wrap (1+(c0y i.toNat:Int))).toNat-Int.toNat 1) i.toNat rfl (by rw [en'];show 1+_<=24;omega) (by omega) (by rw [en'];exact h0Z _) hb;rw [<-e] at c3;repeat' ((conv=>whnf);first|refine cGx c2 ?_|refine cOx (l:= [0,1]) c3 ?_|(refine a0f ⟨by (try simp (disch:=omega) only [a0C]);omega,by (try simp (disch:=omega) only [a0C]);omega,by (try simp (disch:=omega) only [a0C]);omega⟩ ?_)|(refine a0f (by (try simp (disch:=omega) only [a0C]);omega) ?_)|refine a0a ?_|(apply bRx<;>intro h<;>try (exfalso;(try dsimp only at h);omega)))
   all_goals (conv=>whnf)
   all_goals refine a0b ?_
   unfold b0P dec;rw [if_neg hi];refine congrArg SV.str (congrArg a0m ?_);rw [en',show Int.toNat 1=1 from rfl,k0x (by omega)]
theorem c0p (i:Int) (h1: -9223372036854775808<=i) (h2:i<=9223372036854775807):f0h Tryz.prog glT 75 [.int .i64 i,.int .i64 10] (.str (b0P i)):=by
 have c:=e0p i h1 h2;refine fEx Tryz.func75 ?_;repeat' ((conv=>whnf);first|refine cGx c ?_|refine a0a ?_|(apply bRx<;>intro h<;>try (exfalso;(try dsimp only at h);omega)))
 all_goals (conv=>whnf)
 all_goals exact a0b rfl
theorem a0R (i:Int) (h1: -9223372036854775808<=i) (h2:i<=9223372036854775807):(b0P i).size<=21:=by
 have h3:=k0I (u:=i.natAbs) (by omega);have h4:=k0I (u:=i.toNat) (by omega);unfold b0P dec;split
 .simp [a0m,ByteArray.size,a0D];omega
 .simp [a0m,ByteArray.size,a0D];omega
end
section
attribute [local irreducible] a0u a0v a0j b0b
theorem e0q (i:Int) (h1: -9223372036854775808<=i) (h2:i<=9223372036854775807):f0h Tryz.prog glT 33 [.int .i64 i] (.str (b0P i)):=by
 have c:=e0p i h1 h2;have c2:f0h Tryz.prog glT 74 [.int .i64 i] (.str (b0P i)):=by
  refine fEx Tryz.func74 ?_;repeat' ((conv=>whnf);first|refine cGx c ?_|refine a0a ?_|(apply bRx<;>intro h<;>try (exfalso;(try dsimp only at h);omega)))
  all_goals (conv=>whnf)
  exact a0b rfl
 refine fEx Tryz.func33 ?_;repeat' ((conv=>whnf);first|refine cGx c2 ?_|refine a0a ?_|(apply bRx<;>intro h<;>try (exfalso;(try dsimp only at h);omega)))
 all_goals (conv=>whnf)
 exact a0b rfl
theorem u0c (n:Nat) (L:List ByteArray) (sep:ByteArray) (h0:0<n) (hN:n<=1000000) (hlen:(a0V L sep).size<=140737488355328):
  FC Tryz.prog 2 76 [.sl 1 0 0 n,.str sep] [(1,some (.one true (.cols n [.sc (.strs L)])))] (a0d (.str (a0V L sep)) [] 2):=
 w0F (fun bk o c xs sep w h1 h2 h3 h4 h5=>Tryz.strings_Join bk o c xs sep w h1 h2 h3 h4 h5) (f0Q Tryz.func76 (by kernel_rfl) (by kernel_rfl)) n L sep h0 hN hlen
theorem w0X {s:ByteArray} (h:auI s=true):1<=s.size/\s.size<=16:=by
 unfold auI at h;rw [c0q] at h;exact of_decide_eq_true h.1
theorem p0G (c:UInt8) (x y:ByteArray) (L:List ByteArray):(a0V (x::y::L) ⟨#[c]⟩).size=x.size+1+(a0V (y::L) ⟨#[c]⟩).size:=by
 rw [b0p,a1n,a1n];show _+(1+_)=_;omega
theorem o0q {r:Rc} (h:d0V r):1<=(rcT r).size/\(rcT r).size<=200:=by
 obtain ⟨k,id,a,rfl,hk,hi,h1,h2⟩:=h;have z1:=a0R k (by omega) (by omega);have z2:=a0R a (by omega) (by omega);have z3:=a0R 0 (by omega) (by omega);have z4:=a0R 5411 (by omega) (by omega);have z5:=w0X hi;unfold rcT rcP mkR;dsimp only;rw [if_pos rfl];simp only [p0G,b0F];rw [show sSb.size=8 from rfl,show sHb.size=8 from rfl,show sM1.size=2 from rfl,show sCd.size=16 from rfl,show sEu.size=3 from rfl,show (⟨#[]⟩:ByteArray).size=0 from rfl,show (⟨#[49]⟩:ByteArray).size=1 from rfl];omega
set_option maxHeartbeats 1000000 in
theorem r0P (r:Rc) (h:d0V r):f0h Tryz.prog glT 34 [r.s] (.tup [.str (rcT r),.int .i64 0]):=by
 have c1:=f0W r h;have hz:=o0q h;obtain ⟨k,id,a,rfl,hk,hi,h1,h2⟩:=h;have g1:=e0q k (by omega) (by omega);have g2:=c0p a (by omega) (by omega);have g3:=e0q 0 (by omega) (by omega);have g4:=e0q 5411 (by omega) (by omega);have c2:=u0c 12 (rcP (mkR k id a)) ⟨#[124]⟩ (by decide) (by decide) (by show (rcT (mkR k id a)).size<=_;omega);unfold rcT;unfold rcP mkR at*;dsimp only at*;rw [if_pos rfl] at*;generalize b0P k=K at*;generalize b0P a=A at*;generalize b0P 0=Z at*;generalize b0P 5411=Y at*;refine fEx Tryz.func34 ?_;repeat' ((conv=>whnf);first|refine cPx c1 ?_|refine cGx g1 ?_|refine cGx g2 ?_|refine cGx g3 ?_|refine cGx g4 ?_|refine cOx (l:= [0,2]) c2 ?_|refine cOx (l:= [0,3]) c2 ?_|refine a0a ?_|(apply bRx<;>intro h<;>try (exfalso;(try dsimp only at h);omega)))
 all_goals (conv=>whnf)
 all_goals first
  |exact a0b rfl
  |exact rOz [0]
  |trace_state
end
section
attribute [local irreducible] a0u a0v a0j b0b sortI
theorem m0e (s:ByteArray) (c:UInt8) (k:Nat) (hs:s.size<=100000) (hk:Lib.countB s ⟨#[c]⟩=k):
  FC Tryz.prog 1 221 [.str s,.str ⟨#[c]⟩,.int .i64 0,.int .i64 (-1)] [] (a0d (.sl 1 0 0 (k+1)) [(1,some (.one false (.cols (k+1) [.sc (.strs (Lib.splitB ⟨#[c]⟩ 0 k s))])))] 2):=by
 have hle:=Lib.countB_le ⟨#[c]⟩ (d0M 1) s.size s (d0M _);have hlen:(Lib.splitB ⟨#[c]⟩ 0 k s).length=k+1:=Lib.splitB_all ⟨#[c]⟩ (d0M 1) 0 _ s hk;have key:=t0M (P:=Tryz.prog) (f:=221) (args:= [.str s,.str ⟨#[c]⟩,.int .i64 0,.int .i64 (-1)]) (vals:= [.string s,.string ⟨#[c]⟩,.int .i64 0,.int .i64 (-1)]) (Lib.splitB ⟨#[c]⟩ 0 k s) (Tryz.lays146_ren.t 9)
  (b0g Tryz.func221 (by kernel_rfl) (by kernel_rfl)) (fun g vs h=>by
   simp only [Rvs,Rv] at h;obtain ⟨_,_,rfl,rfl,_,_,rfl,rfl,_,_,rfl,rfl,_,_,rfl,rfl,rfl⟩:=h;rfl) (fun w=>by
   have h:=Any.strings_genSplit_core { Tryz.lays146 with} (by kernel_rfl) s ⟨#[c]⟩ 0 (-1) (k+1) w (by omega) (d0M 1) (k0R _)
    (fun x cs hx=>by
     refine (Any.strings_Index_one { Tryz.lays146 with} x c _).mono ?_;rintro e w' ⟨rfl,rfl⟩;refine ⟨?_,rfl⟩;show _=Ending.returned (Value.int .i64 (Lib.index x.data.toList [c]));rw [Lib.index_one])
    (by
     refine (Any.strings_Count_one { Tryz.lays146 with} s c w).mono ?_;rintro e w' ⟨rfl,rfl⟩;refine ⟨?_,rfl⟩;show _=Ending.returned (Value.int .i64 ((Lib.count s.data.toList [c]:Nat):Int));rw [Lib.count_one];rfl)
    (by decide) (by decide) (by rw [if_pos (by decide),hk];omega)
   refine h.mono ?_;rintro e w' ⟨rfl,rfl⟩;rw [a1m,hlen];refine ⟨rfl,?_⟩;have e2:Lib.cellsOf (Lib.splitB ⟨#[c]⟩ 0 k s) (k+1)=((Lib.splitB ⟨#[c]⟩ 0 k s).map Value.string).toArray:=by rw [<-hlen];exact Lib.cellsOf_full _
   rw [e2])
 rw [hlen] at key;exact key
theorem e0r (s:ByteArray) (c:UInt8) (k:Nat) (hs:s.size<=100000) (hk:Lib.countB s ⟨#[c]⟩=k):
  FC Tryz.prog 1 154 [.str s,.str ⟨#[c]⟩] [] (a0d (.sl 1 0 0 (k+1)) [(1,some (.one false (.cols (k+1) [.sc (.strs (Lib.splitB ⟨#[c]⟩ 0 k s))])))] 2):=by
 have c1:=m0e s c k hs hk;generalize Lib.splitB ⟨#[c]⟩ 0 k s=L at*;refine fEx Tryz.func154 ?_;repeat' ((conv=>whnf);first|refine cOx (l:= [0]) c1 ?_|refine a0a ?_|(apply bRx<;>intro h<;>try (exfalso;(try dsimp only at h);omega)))
 all_goals (conv=>whnf)
 all_goals first
  |exact rOx [0,1] (a0k a0t)
  |trace_state
theorem f0Y (n:Int) (h1: -1000000000000000000<n) (h2:n<1000000000000000000):f0h Tryz.prog glT 159 [.str (b0P n)] (.tup [.int .i64 n,.bool true]):=by
 have hz:=a0R n (by omega) (by omega);have c1:a0y Tryz.prog 222 [.str (b0P n),.int .i64 10,.int .i64 64] (.tup [.int .i64 n,.nif]):=by
  refine b0E (vals:= [.string (b0P n),.int .i64 10,.int .i64 64]) (v:= .tuple #[.int .i64 n,.nilIface]) (b0g Tryz.func222 (by kernel_rfl) (by kernel_rfl)) ?_ ?_ ?_
  .intro g vs h;simp only [Rvs,Rv] at h;obtain ⟨_,_,rfl,rfl,_,_,rfl,rfl,_,_,rfl,rfl,rfl⟩:=h;rfl
  .intro g;simp [Rv,Rvs]
  .intro w;refine (Tryz.strconv_ParseInt_10_at64_ok (b0P n) (by omega) n (r0n (by omega) (by omega)) w).mono ?_;rintro e w' ⟨rfl,hw⟩;refine ⟨rfl,?_⟩;rcases hw with rfl|⟨t,rfl⟩
   .exact Below.refl _ _
   .exact Lib.bytesWorld_below _ _ _
 have c2:=c0p n (by omega) (by omega);have hq:seq (b0P n) (b0P n)=true:=decide_eq_true rfl;refine fEx Tryz.func159 ?_;repeat' ((conv=>whnf);first|refine cPx c1 ?_|refine cGx c2 ?_|(rw [hq])|refine a0a ?_|(apply bRx<;>intro h<;>try (exfalso;(try dsimp only at h);omega)))
 all_goals (conv=>whnf)
 all_goals first
  |(exfalso;exact h hq)
  |(exfalso;exact Bool.noConfusion (hq.symm.trans h))
  |exact a0b rfl
  |trace_state
theorem c0S (n:Int) (h1: -1000000000000000000<n) (h2:n<1000000000000000000):f0h Tryz.prog glT 155 [.str (b0P n)] (.tup [.int .i64 n,.bool true]):=by
 have hz:=a0R n (by omega) (by omega);have c1:a0y Tryz.prog 222 [.str (b0P n),.int .i64 10,.int .i64 64] (.tup [.int .i64 n,.nif]):=by
  refine b0E (vals:= [.string (b0P n),.int .i64 10,.int .i64 64]) (v:= .tuple #[.int .i64 n,.nilIface]) (b0g Tryz.func222 (by kernel_rfl) (by kernel_rfl)) ?_ ?_ ?_
  .intro g vs h;simp only [Rvs,Rv] at h;obtain ⟨_,_,rfl,rfl,_,_,rfl,rfl,_,_,rfl,rfl,rfl⟩:=h;rfl
  .intro g;simp [Rv,Rvs]
  .intro w;refine (Tryz.strconv_ParseInt_10_at64_ok (b0P n) (by omega) n (r0n (by omega) (by omega)) w).mono ?_;rintro e w' ⟨rfl,hw⟩;refine ⟨rfl,?_⟩;rcases hw with rfl|⟨t,rfl⟩
   .exact Below.refl _ _
   .exact Lib.bytesWorld_below _ _ _
 have c2:=c0p n (by omega) (by omega);have hq:seq (b0P n) (b0P n)=true:=decide_eq_true rfl;refine fEx Tryz.func155 ?_;repeat' ((conv=>whnf);first|refine cPx c1 ?_|refine cGx c2 ?_|(rw [hq])|refine a0a ?_|(apply bRx<;>intro h<;>try (exfalso;(try dsimp only at h);omega)))
 all_goals (conv=>whnf)
 all_goals first
  |(exfalso;exact h hq)
  |(exfalso;exact Bool.noConfusion (hq.symm.trans h))
  |exact a0b rfl
  |trace_state
end
section
attribute [local irreducible] a0u a0v a0j b0b
theorem r0Q (s:ByteArray) (c:UInt8) (k:Nat) (hk:Lib.countB s ⟨#[c]⟩=k):a0y Tryz.prog 152 [.str s,.str ⟨#[c]⟩] (.int .i64 k):=by
 refine b0E (vals:= [.string s,.string ⟨#[c]⟩]) (v:= .int .i64 k) (b0g Tryz.func152 (by kernel_rfl) (by kernel_rfl)) ?_ (fun g=>by simp [Rv]) fun w=>(Tryz.strings_Count_one s c w).mono ?_
 .intro g vs h;simp only [Rvs,Rv] at h;obtain ⟨_,_,rfl,rfl,_,_,rfl,rfl,rfl⟩:=h;rfl
 .rintro e w' ⟨rfl,rfl⟩;refine ⟨?_,Below.refl _ _⟩;rw [<-hk];show _=Ending.returned (Value.int .i64 ((Lib.count s.data.toList [c]:Nat):Int));rw [Lib.count_one];rfl
attribute [local irreducible] seq ByteArray.extract
theorem e0V (s p:ByteArray) (hz:p.size<=s.size) (he:s.extract 0 p.size=p):a0y Tryz.prog 216 [.str s,.str p] (.bool true):=by
 have q:seq (s.extract 0 p.size) p=true:=e0o.2 he;have q':seq (s.extract (Int.toNat 0) (Int.toNat p.size)) p=true:=q;refine fEx Tryz.func216 ?_;repeat' ((conv=>whnf);first|(refine a0f ⟨by omega,by omega⟩ ?_)|(rw [q])|(rw [q'])|refine a0a ?_|(apply bRx<;>intro h<;>try (exfalso;(try dsimp only at h);omega)))
 all_goals (conv=>whnf)
 all_goals first
  |(exfalso;omega)
  |exact a0b rfl
  |exact a0b (congrArg SV.bool q)
  |trace_state
theorem i0N (s p:ByteArray) (hz:p.size<=s.size) (hs:s.size<=1000000000) (he:s.extract (s.size-p.size) s.size=p):a0y Tryz.prog 220 [.str s,.str p] (.bool true):=by
 have e1:IntKind.i64.wrap ((s.size:Int)-(p.size:Int))=((s.size-p.size:Nat):Int):=by rw [a0e (by omega) (by omega)];omega
 have q:seq (s.extract (s.size-p.size) s.size) p=true:=e0o.2 he;refine fEx Tryz.func220 ?_;repeat' ((conv=>whnf);first|(rw [e1])|(refine a0f ⟨by omega,by omega⟩ ?_)|(rw [q])|refine a0a ?_|(apply bRx<;>intro h<;>try (exfalso;(try dsimp only at h);omega)))
 all_goals (conv=>whnf)
 all_goals first
  |(exfalso;omega)
  |exact a0b rfl
  |exact a0b (congrArg SV.bool q)
  |trace_state
theorem k0J (s p:ByteArray) (hz:p.size<=s.size) (he:s.extract 0 p.size=p):a0y Tryz.prog 150 [.str s,.str p] (.bool true):=by
 have c:=e0V s p hz he;refine fEx Tryz.func150 ?_;repeat' ((conv=>whnf);first|refine cPx c ?_|refine a0a ?_|(apply bRx<;>intro h<;>try (exfalso;(try dsimp only at h);omega)))
 all_goals (conv=>whnf)
 all_goals exact a0b rfl
theorem k0K (s p:ByteArray) (hz:p.size<=s.size) (hs:s.size<=1000000000) (he:s.extract (s.size-p.size) s.size=p):a0y Tryz.prog 153 [.str s,.str p] (.bool true):=by
 have c:=i0N s p hz hs he;refine fEx Tryz.func153 ?_;repeat' ((conv=>whnf);first|refine cPx c ?_|refine a0a ?_|(apply bRx<;>intro h<;>try (exfalso;(try dsimp only at h);omega)))
 all_goals (conv=>whnf)
 all_goals exact a0b rfl
theorem i0O (s p:ByteArray) (hz:p.size<=s.size) (he:s.extract 0 p.size=p):a0y Tryz.prog 223 [.str s,.str p] (.tup [.str (s.extract p.size s.size),.bool true]):=by
 have c:=e0V s p hz he;refine fEx Tryz.func223 ?_;repeat' ((conv=>whnf);first|(refine a0f ⟨by omega,by omega⟩ ?_)|refine cPx c ?_|refine a0a ?_|(apply bRx<;>intro h<;>try (exfalso;(try dsimp only at h);omega)))
 all_goals (conv=>whnf)
 all_goals first
  |exact a0b rfl
  |trace_state
theorem k0L (s p:ByteArray) (hz:p.size<=s.size) (he:s.extract 0 p.size=p):a0y Tryz.prog 156 [.str s,.str p] (.tup [.str (s.extract p.size s.size),.bool true]):=by
 have c:=i0O s p hz he;refine fEx Tryz.func156 ?_;repeat' ((conv=>whnf);first|refine cPx c ?_|refine a0a ?_|(apply bRx<;>intro h<;>try (exfalso;(try dsimp only at h);omega)))
 all_goals (conv=>whnf)
 all_goals exact a0b rfl
end
section
def hxD:ByteArray:=⟨#[48,49,50,51,52,53,54,55,56,57,97,98,99,100,101,102,103,104,105,106,107,108,109,110,111,112,113,114,115,116,117,118,119,120,121,122]⟩
def hxd (d:Nat):Int:=a0h hxD (d:Int)
def hxL:Nat->Nat->List Int
 |0,_=> []
 |m+1,u=>hxd (u/16^m%16)::hxL m u
theorem c0I:∀m u,(hxL m u).length=m
 |0,_=>rfl
 |m+1,u=>by simp [hxL,c0I m u]
theorem w0Y:∀d,d<16->(48<=hxd d/\hxd d<=57)\/(97<=hxd d/\hxd d<=102):=by decide
theorem c1h:hxd 0=48:=by decide
theorem v0A:∀m u,∀x∈hxL m u,(48<=x/\x<=57)\/(97<=x/\x<=102)
 |0,_,x,h=>by simp [hxL] at h
 |m+1,u,x,h=>by
  rcases d0z.1 h with rfl|h
  .exact w0Y _ (b1W _ (by decide))
  .exact v0A m u x h
theorem r0R (u m:Nat) (h:u<16^m):∀k,hxL (m+k) u=List.replicate k 48++hxL m u
 |0=>rfl
 |k+1=>by
  show hxd (u/16^(m+k)%16)::hxL (m+k) u=_;have h2:u<16^(m+k):=r0k h (s0i (by decide) (Nat.le_add_right _ _));rw [Nat.div_eq_of_lt h2,Nat.zero_mod,c1h,r0R u m h k];rfl
def hxM (u:Nat):Nat:=if u<16 then 1 else if u<256 then 2 else if u<4096 then 3 else if u<65536 then 4 else if u<1048576 then 5 else if u<16777216 then 6 else if u<268435456 then 7 else 8
theorem z0V {u j:Nat} (hj:j<8) (h1:u/16^j<16) (h2:j=0\/16<=u/16^(j-1)):hxM u=j+1:=by
 have e:j=0\/j=1\/j=2\/j=3\/j=4\/j=5\/j=6\/j=7:=by omega
 unfold hxM;rcases e with rfl|rfl|rfl|rfl|rfl|rfl|rfl|rfl
 all_goals
  simp at h1 h2;repeat' split
  all_goals omega
theorem v0B {u:Nat} (h:u<4294967296):u<16^hxM u/\1<=hxM u/\hxM u<=8:=by
 unfold hxM;repeat' split
 all_goals (refine ⟨?_,by decide,by decide⟩;first|omega|(simp;omega))
def ckS (u:Nat):ByteArray:=a0m (hxL 8 u)
theorem a0X (l:List Int):(a0m l).size=l.length:=by simp [a0m,ByteArray.size]
theorem k0M (u:Nat):(ckS u).size=8:=by unfold ckS;rw [a0X,c0I]
theorem e0L {l:List Int} {i:Nat} (h:i<l.length) (hb:0<=l[i]/\l[i]<=255):a0h (a0m l) (i:Int)=l[i]:=by
 unfold a0h a0m;rw [o0v,d1D,List.getD,f0l,d0L h];show (((UInt8.ofNat l[i].toNat).toNat:Nat):Int)=l[i];rw [UInt8.toNat_ofNat'];omega
theorem v0C (u:Nat) {i:Nat} (h:i<8):(48<=a0h (ckS u) (i:Int)/\a0h (ckS u) (i:Int)<=57)\/(97<=a0h (ckS u) (i:Int)/\a0h (ckS u) (i:Int)<=102):=by
 have hl:i<(hxL 8 u).length:=by rw [c0I];exact h
 have hm:=v0A 8 u _ (o0z hl);unfold ckS;rw [e0L hl (by omega)];exact hm
theorem u0d (u:Nat):FrT (ckS u):=by
 constructor;all_goals
  refine v0u fun k hk=> ?_
  rw [k0M] at hk;have h:=v0C u hk
 .show a0h (ckS u) (k:Int)≠124;omega
 .show a0h (ckS u) (k:Int)≠10;omega
theorem c0T (a b:List Int):a0m a++a0m b=a0m (a++b):=by
 apply f0T;rw [b0X];simp [a0m]
theorem w0Z {u m:Nat} (h:u<16^m) (hm:m<=8):a0m (List.replicate (8-m) 48)++a0m (hxL m u)=ckS u:=by
 rw [c0T,<-r0R u m h (8-m)];unfold ckS;rw [show m+(8-m)=8 by omega]
def hxA (m u:Nat):List Int:=List.replicate (65-m) 0++hxL m u
theorem x0a {m u:Nat} (h:m<65):(hxA m u).set (64-m) (hxd (u/16^m%16))=hxA (m+1) u:=by
 unfold hxA;rw [show 65-m=(64-m)+1 by omega,b1F,r0d,List.set_append_right _ _ (by simp),a1o,Nat.sub_self,show 65-(m+1)=64-m by omega];rfl
theorem u0e {m u:Nat} (h:m<=65):(hxA m u).drop (65-m)=hxL m u:=by
 unfold hxA;rw [List.drop_left' (by simp)]
end
section
attribute [local irreducible] a0u a0v a0j b0b
def cst (r:Int):Int:=if s0U .u32 r 1=1 then m0F .u32 (h0d .u32 r 1) 3988292384 else h0d .u32 r 1
def crI (r:Int):Nat->Int
 |0=>r
 |j+1=>cst (crI r j)
def crK (s:ByteArray):Nat->Int
 |0=>4294967295
 |k+1=>crI (m0F .u32 (crK s k) (IntKind.u32.wrap (a0h s (k:Int)))) 8
def crU (s:ByteArray):Nat:=(w0c .u32 (crK s s.size)).toNat
theorem v0D (x:Int):0<=IntKind.u32.wrap x/\IntKind.u32.wrap x<4294967296:=by
 have:IntKind.u32.wrap x=x%4294967296:=by simp [IntKind.wrap,IntKind.bits,IntKind.signed]
 omega
theorem z0W (s:ByteArray):crU s<4294967296:=by
 have h:=v0D (((BitVec.ofInt IntKind.u32.bits (if IntKind.u32.signed then-1 else IntKind.u32.max)^^^BitVec.ofInt IntKind.u32.bits (crK s s.size)).toNat:Int));unfold crU;show (IntKind.u32.wrap _).toNat<_;omega
theorem z0X (s:ByteArray):w0c .u32 (crK s s.size)=((crU s:Nat):Int):=by
 have h:=v0D (((BitVec.ofInt IntKind.u32.bits (if IntKind.u32.signed then-1 else IntKind.u32.max)^^^BitVec.ofInt IntKind.u32.bits (crK s s.size)).toNat:Int));unfold crU;have h0:0<=w0c .u32 (crK s s.size):=h.1;omega
attribute [local irreducible] s0U m0F h0d w0c
theorem z0Y (s:ByteArray) (hs:s.size<=1000000000):a0y Tryz.prog 79 [.str s] (.int .u32 (crU s)):=by
 rw [<-z0X];refine fEx Tryz.func79 ?_;repeat' ((conv=>whnf);first|refine a0a ?_|(apply bRx<;>intro h<;>try (exfalso;(try dsimp only at h);omega)))
 all_goals (conv=>whnf)
 refine a0n (fun k:Nat=>⟨[(0,.str s),(3,.int .u32 (crK s k)),(7,.int .i64 s.size),(8,.int .i64 k)],[],1⟩) (fun k=>k<=s.size) (fun k=>s.size-k) 0 [0] [] wHx (k0R _) ?_;rintro k hk;by_cases hk2:k<s.size
 .repeat' ((conv=>whnf);first|refine a0a ?_|(apply bRx<;>intro h<;>try (exfalso;(try dsimp only at h);omega)))
  all_goals (conv=>whnf)
  all_goals first
   |(exfalso;omega)
   |skip
  refine a0n (fun j:Nat=>⟨[(0,.str s),(3,.int .u32 (crI (m0F .u32 (crK s k) (IntKind.u32.wrap (a0h s (k:Int)))) j)),(7,.int .i64 s.size),(8,.int .i64 k),(17,.int .i64 j)],[],1⟩) (fun j=>j<=8) (fun j=>8-j) 0 [0] [] wHx (k0R _) ?_;rintro j hj;by_cases hj2:j<8
  .by_cases hb:s0U .u32 (crI (m0F .u32 (crK s k) (IntKind.u32.wrap (a0h s (k:Int)))) j) 1=1
   .have e:cst (crI (m0F .u32 (crK s k) (IntKind.u32.wrap (a0h s (k:Int)))) j)=m0F .u32 (h0d .u32 (crI (m0F .u32 (crK s k) (IntKind.u32.wrap (a0h s (k:Int)))) j) 1) 3988292384:=if_pos hb;repeat' ((conv=>whnf);first|refine a0a ?_|(apply bRx<;>intro h<;>try (exfalso;(try dsimp only at h);omega)))
    all_goals (conv=>whnf)
    all_goals first
     |(exfalso;first|omega|contradiction)
     |exact ⟨j+1,[0],[],by omega,(show 8-(j+1)<8-j by omega),⟨rfl,⟨rfl,congrArg (fun z=>some (SV.int .u32 z)) e.symm,rfl,rfl,congrArg (fun z=>some (SV.int .i64 z)) (a0G (by omega)),trivial⟩,trivial⟩⟩
     |trace_state
   .have e:cst (crI (m0F .u32 (crK s k) (IntKind.u32.wrap (a0h s (k:Int)))) j)=h0d .u32 (crI (m0F .u32 (crK s k) (IntKind.u32.wrap (a0h s (k:Int)))) j) 1:=if_neg hb;repeat' ((conv=>whnf);first|refine a0a ?_|(apply bRx<;>intro h<;>try (exfalso;(try dsimp only at h);omega)))
    all_goals (conv=>whnf)
    all_goals first
     |(exfalso;first|omega|contradiction)
     |exact ⟨j+1,[0],[],by omega,(show 8-(j+1)<8-j by omega),⟨rfl,⟨rfl,congrArg (fun z=>some (SV.int .u32 z)) e.symm,rfl,rfl,congrArg (fun z=>some (SV.int .i64 z)) (a0G (by omega)),trivial⟩,trivial⟩⟩
     |trace_state
  .have ej:j=8:=by omega
   subst ej;repeat' ((conv=>whnf);first|refine a0a ?_|(apply bRx<;>intro h<;>try (exfalso;(try dsimp only at h);omega)))
   all_goals (conv=>whnf)
   all_goals first
    |(exfalso;omega)
    |exact ⟨k+1,[0],[],by omega,(show s.size-(k+1)<s.size-k by omega),⟨rfl,⟨rfl,rfl,rfl,congrArg (fun z=>some (SV.int .i64 z)) (a0G (by omega)),trivial⟩,trivial⟩⟩
    |trace_state
 .have ek:k=s.size:=by omega
  subst ek;repeat' ((conv=>whnf);first|refine a0a ?_|(apply bRx<;>intro h<;>try (exfalso;(try dsimp only at h);omega)))
  all_goals (conv=>whnf)
  all_goals first
   |(exfalso;omega)
   |exact a0b rfl
   |trace_state
end
end Go.Proofs.YtclhnagdmajfkaaGreatDoor
namespace Go.Sy
open Go.RowKit
theorem u0f {x s:Nat} (h:s<=64):h0d .u64 (x:Int) (s:Int)=((x/2^s:Nat):Int):=by
 rw [e0F (k:= .u64) s h];simp
structure KD (u32 u1 Y1 Y0 Q:Nat):Prop where
 b1:u1<4294967296
 b0:Y0<4294967296
 n1:2147483648<=Y1
 n2:Y1<4294967296
 lt:u32<Y1*4294967296+Y0
 q:Q=(u32*4294967296+u1)/(Y1*4294967296+Y0)
section
variable {u32 u1 Y1 Y0 Q:Nat} (k:KD u32 u1 Y1 Y0 Q)
include k
theorem KD.le:Q<=u32/Y1:=by
 have h1:Q*(Y1*4294967296+Y0)<=u32*4294967296+u1:=by rw [k.q];exact Nat.div_mul_le_self _ _
 rw [Nat.le_div_iff_mul_le (by have:=k.n1;omega)];rw [Nat.mul_add,<-Nat.mul_assoc] at h1;have:=k.b1;have h2:0<=Q*Y0:=k0R _;omega
end
end Go.Sy
namespace Go.Proofs.YtclhnagdmajfkaaGreatDoor
open Go.RowKit Go.Sy
section
attribute [local irreducible] a0u a0v a0j b0b
theorem x0b {x:Nat} (h:x<18446744073709551616):s0U .u64 (x:Int) 15=((x%16:Nat):Int):=by
 have h1:(BitVec.ofInt 64 (x:Int)&&&BitVec.ofInt 64 15).toNat=x%16:=by
  rw [BitVec.toNat_and,BitVec.toNat_ofInt,BitVec.toNat_ofInt];rw [show ((x:Int)%((2^64:Nat):Int)).toNat=x by omega,show ((15:Int)%((2^64:Nat):Int)).toNat=2^4-1 by decide,Nat.and_two_pow_sub_one_eq_mod]
 show IntKind.u64.wrap (((BitVec.ofInt 64 (x:Int)&&&BitVec.ofInt 64 15).toNat:Nat):Int)=_;rw [h1];exact n0c (by omega) (by omega)
theorem z0Z {x:Nat}:h0d .u64 (x:Int) 4=((x/16:Nat):Int):=u0f (s:=4) (by omega)
theorem x0c:a0y Tryz.prog 287 [.int .i64 16] (.bool true):=by
 refine fEx Tryz.func287 ?_;repeat' ((conv=>whnf);first|refine a0a ?_|(apply bRx<;>intro h<;>try (exfalso;(try dsimp only at h);omega)))
 all_goals (conv=>whnf)
 all_goals first
  |exact a0b rfl
  |(refine a0b (congrArg SV.bool ?_);decide)
  |trace_state
theorem x0d:f0h Tryz.prog glT 333 [.int .u64 16] (.int .i64 4):=by
 have t1:s0U .u64 16 (IntKind.u64.wrap (0-16))=16:=by decide
 have t2:h0d .u64 (IntKind.u64.wrap (16*285870213051353865)) 58=15:=by decide
 refine fEx Tryz.func333 ?_;repeat' ((conv=>whnf);first|(rw [t1])|(rw [t2])|refine a0a ?_|(apply bRx<;>intro h<;>try (exfalso;(try dsimp only at h);omega)))
 all_goals (conv=>whnf)
 all_goals first
  |exact a0b rfl
  |trace_state
theorem c1i:f0h Tryz.prog glT 288 [.int .u64 16] (.int .i64 4):=by
 have c:=x0d;refine fEx Tryz.func288 ?_;repeat' ((conv=>whnf);first|refine cGx c ?_|refine a0a ?_|(apply bRx<;>intro h<;>try (exfalso;(try dsimp only at h);omega)))
 all_goals (conv=>whnf)
 all_goals first
  |exact a0b rfl
  |trace_state
theorem x0e {m u:Nat} (h:m<=65):seg (65-m) m (hxA m u)=hxL m u:=by
 unfold seg;rw [u0e h,t0F (by rw [c0I];exact d0M _)]
theorem c1j (u:Nat):hxA 0 u=List.replicate 65 0:=by unfold hxA hxL;simp
attribute [local irreducible] s0U m0F h0d w0c
set_option maxHeartbeats 1000000 in
theorem x0f (u:Nat) (hu:u<4294967296):f0h Tryz.prog glT 212 [.nsl,.int .u64 u,.int .i64 16,.bool false,.bool false] (.tup [.nsl,.str (a0m (hxL (hxM u) u))]):=by
 have c:=x0c;have d:=c1i;have hm:=v0B hu;refine fEx Tryz.func212 ?_;repeat' ((conv=>whnf);first|refine cPx c ?_|refine cGx d ?_|refine a0a ?_|(apply bRx<;>intro h<;>try (exfalso;(try dsimp only at h);omega)))
 all_goals (conv=>whnf)
 refine a0n (fun j:Nat=>⟨[(0,.nsl),(1,.int .u64 (u/16^j:Nat)),(3,.bool false),(4,.bool false),(10,.nsl),(12,.ptr 1 0 0 0),(13,.int .i64 (65-(j:Int))),(14,.int .u64 4),(15,.int .u64 16),(16,.int .u64 15)],[(0,some (GB glT)),(1,some (.one false (.cols 65 [.sc (.ints .u8 (hxA j u))])))],2⟩) (fun j=>j<8/\(j=0\/16<=u/16^(j-1))) (fun j=>8-j) 0 [0,1] [] ⟨rfl,⟨rfl,congrArg (fun z=>some (SV.int .u64 z)) (by simp),rfl,rfl,rfl,rfl,rfl,rfl,rfl,rfl,trivial⟩,⟨gwk rfl,by rw [c1j];rfl,trivial⟩⟩ ⟨by decide,.inl rfl⟩ ?_;rintro j ⟨hj,hp⟩;have hb:u/16^j<=u:=e1L _ _;have e1:s0U .u64 ((u/16^j:Nat):Int) 15=((u/16^j%16:Nat):Int):=x0b (by omega);have e2:h0d .u64 ((u/16^j:Nat):Int) 4=((u/16^(j+1):Nat):Int):=by rw [z0Z,b1Y,b1z]
 have e3:IntKind.i64.wrap (65-(j:Int)-1)=((64-j:Nat):Int):=by rw [a0e (by omega) (by omega)];omega
 have hs:=x0a (m:=j) (u:=u) (by omega);by_cases h16:16<=u/16^j
 .have hj7:j<7:=by
   rcases f0m j 7 with h|h
   .exact h
   .have e:j=7:=by omega
    subst e;simp at h16;omega
  have hc1:0<=((u/16^j%16:Nat):Int)/\((u/16^j%16:Nat):Int)<((hxD.size:Nat):Int):=⟨v0W _,by show _<((36:Nat):Int);omega⟩;repeat' ((conv=>whnf);first|(rw [e1])|(rw [e2])|(rw [e3])|(refine a0f hc1 ?_)|refine a0a ?_|(apply bRx<;>intro h<;>try (exfalso;(try dsimp only at h);omega)))
  all_goals (conv=>whnf)
  all_goals first
   |(exfalso;omega)
   |exact ⟨j+1,[0,1],[],⟨by omega,.inr (by rw [a1m];exact h16)⟩,by omega,⟨rfl,⟨rfl,rfl,rfl,rfl,rfl,rfl,congrArg (fun z=>some (SV.int .i64 z)) (by omega),rfl,rfl,rfl,trivial⟩,⟨gwk rfl,congrArg (fun l=>some (HB.one false (.cols 65 [.sc (.ints .u8 l)]))) hs,trivial⟩⟩⟩
   |trace_state
 .have hM:=z0V hj (by omega) hp;have hc2:0<=((u/16^j:Nat):Int)/\((u/16^j:Nat):Int)<((hxD.size:Nat):Int):=⟨v0W _,by show _<((36:Nat):Int);omega⟩;rw [Nat.mod_eq_of_lt (by omega:u/16^j<16)] at hs;repeat' ((conv=>whnf);first|(rw [e3])|(refine a0f hc2 ?_)|refine a0a ?_|(apply bRx<;>intro h<;>try (exfalso;(try dsimp only at h);omega)))
  all_goals (conv=>whnf)
  all_goals first
   |(exfalso;omega)
   |(refine a0b ?_
     rw [hM];refine congrArg (fun z=>SV.tup [.nsl,.str (a0m z)]) ?_;have hx:=x0e (m:=j+1) (u:=u) (by omega);rw [<-hs,show 65-(j+1)=64-j by omega] at hx;have e9:(65:Int).toNat-((64-j:Nat):Int).toNat=j+1:=by omega
     rw [<-hx];exact congrArg (fun n=>seg (64-j) n _) e9)
   |trace_state
end
section
attribute [local irreducible] a0u a0v a0j b0b
theorem a1a (u:Nat) (hu:u<4294967296):f0h Tryz.prog glT 148 [.int .u64 u,.int .i64 16] (.str (a0m (hxL (hxM u) u))):=by
 have c:=x0f u hu;generalize a0m (hxL (hxM u) u)=z at*;refine fEx Tryz.func148 ?_;repeat' ((conv=>whnf);first|refine cGx c ?_|refine a0a ?_|(apply bRx<;>intro h<;>try (exfalso;(try dsimp only at h);omega)))
 all_goals (conv=>whnf)
 all_goals first
  |exact a0b rfl
  |trace_state
theorem x0g (u:Nat) (hu:u<4294967296):f0h Tryz.prog glT 78 [.int .u64 u,.int .i64 16] (.str (a0m (hxL (hxM u) u))):=by
 have c:=a1a u hu;generalize a0m (hxL (hxM u) u)=z at*;refine fEx Tryz.func78 ?_;repeat' ((conv=>whnf);first|refine cGx c ?_|refine a0a ?_|(apply bRx<;>intro h<;>try (exfalso;(try dsimp only at h);omega)))
 all_goals (conv=>whnf)
 all_goals first
  |exact a0b rfl
  |trace_state
theorem i0e (c:UInt8):∀n,Lib.repeatL [c] n=List.replicate n c
 |0=>rfl
 |n+1=>by rw [Lib.repeatL,i0e c n];rfl
theorem u0g (n:Nat) (hn:n<=100000):a0y Tryz.prog 80 [.str ⟨#[48]⟩,.int .i64 n] (.str (a0m (List.replicate n 48))):=by
 refine b0E (vals:= [.string ⟨#[48]⟩,.int .i64 n]) (v:= .string (a0m (List.replicate n 48))) (b0g Tryz.func80 (by kernel_rfl) (by kernel_rfl)) ?_ ?_ ?_
 .intro g vs h;simpa [Rvs,Rv] using h
 .intro g;simp [Rv]
 .intro w;have h:=Tryz.strings_Repeat ⟨#[48]⟩ n w (by omega) (by show 1*n<=_;omega);have e:(⟨(Lib.repeatL [48] n).toArray⟩:ByteArray)=a0m (List.replicate n 48):=by
   rw [i0e];unfold a0m;rw [List.map_replicate];rfl
  rw [show (Lib.repeatL ((⟨#[48]⟩:ByteArray).data.toList) n)=Lib.repeatL [48] n from rfl,e] at h;exact h
theorem v0E (s:ByteArray) (hs:s.size<=1000000000):f0h Tryz.prog glT 37 [.str s] (.str (ckS (crU s))):=by
 have c:=z0Y s hs;have hu:=z0W s;have e1:IntKind.u64.wrap ((crU s:Nat):Int)=((crU s:Nat):Int):=n0c (by omega) (by omega);have d:=x0g (crU s) hu;have hm:=v0B hu;have e2:IntKind.i64.wrap (8-((a0m (hxL (hxM (crU s)) (crU s))).size:Int))=((8-hxM (crU s):Nat):Int):=by
  rw [a0X,c0I,a0e (by omega) (by omega)];omega
 have r:=u0g (8-hxM (crU s)) (by omega);have e3:=w0Z hm.1 hm.2.2;have hyz:(a0m (List.replicate (8-hxM (crU s)) 48)).size+(a0m (hxL (hxM (crU s)) (crU s))).size<=9223372036854775807:=by
  rw [a0X,a0X,c0I,a1o];omega
 generalize a0m (hxL (hxM (crU s)) (crU s))=z at*;generalize a0m (List.replicate (8-hxM (crU s)) 48)=y at*;rw [<-e3];refine fEx Tryz.func37 ?_;repeat' ((conv=>whnf);first|(rw [e1])|(rw [e2])|(refine a0f hyz ?_)|refine cPx c ?_|refine cGx d ?_|refine cPx r ?_|refine a0a ?_|(apply bRx<;>intro h<;>try (exfalso;(try dsimp only at h);omega)))
 all_goals (conv=>whnf)
 all_goals first
  |exact a0b rfl
  |trace_state
theorem p0H (t:ByteArray) (h8:t.size=8) (hh:∀i:Nat,i<8->(48<=a0h t (i:Int)/\a0h t (i:Int)<=57)\/(97<=a0h t (i:Int)/\a0h t (i:Int)<=102)):a0y Tryz.prog 157 [.str t] (.bool true):=by
 refine fEx Tryz.func157 ?_;repeat' ((conv=>whnf);first|refine a0a ?_|(apply bRx<;>intro h<;>try (exfalso;(try dsimp only at h);omega)))
 all_goals (conv=>whnf)
 all_goals first
  |(exfalso;omega)
  |skip
 refine a0n (fun k:Nat=>⟨[(0,.str t),(9,.int .i64 t.size),(10,.int .i64 k)],[],1⟩) (fun k=>k<=8) (fun k=>8-k) 0 [0] [] wHx (k0R _) ?_;rintro k hk;by_cases hk2:k<8
 .have hc:=hh k hk2;repeat' ((conv=>whnf);first|refine a0a ?_|(apply bRx<;>intro h<;>try (exfalso;(try dsimp only at h);omega)))
  all_goals (conv=>whnf)
  all_goals first
   |(exfalso;omega)
   |exact ⟨k+1,[0],[],by omega,by omega,⟨rfl,⟨rfl,rfl,congrArg (fun z=>some (SV.int .i64 z)) (a0G (by omega)),trivial⟩,trivial⟩⟩
   |trace_state
 .have ek:k=8:=by omega
  subst ek;repeat' ((conv=>whnf);first|refine a0a ?_|(apply bRx<;>intro h<;>try (exfalso;(try dsimp only at h);omega)))
  all_goals (conv=>whnf)
  all_goals first
   |(exfalso;omega)
   |exact a0b rfl
   |trace_state
end
section
attribute [local irreducible] a0u a0v a0j b0b
attribute [local irreducible] seq ByteArray.extract
abbrev frC (id se:ByteArray) (d:Int) (rs:SV) (t0 t1 t2 t3:Int) (x cov:ByteArray):List SV:= [.str id,.str se,.int .i64 d,rs,.int .i64 t0,.int .i64 t1,.int .i64 t2,.int .i64 t3,.str x,.str cov]
abbrev frS (id se:ByteArray) (d:Int) (rs:SV) (t0 t1 t2 t3:Int) (x cov:ByteArray):SV:= .agg (frC id se d rs t0 t1 t2 t3 x cov)
abbrev lnB (ro:Bool) (n:Nat) (L:List ByteArray):Option HB:=some (.one ro (.cols n [.sc (.strs L)]))
set_option maxHeartbeats 2000000 in
theorem d1S (s x cov:ByteArray) (n:Nat) (L Hd Tr:List ByteArray) (t0 t1 t2 t3:Int) (hn:n<=100) (hs:s.size<=100000)
  (c1:a0y Tryz.prog 152 [.str s,.str ⟨#[10]⟩] (.int .i64 ((n+3:Nat):Int)))
  (c2:a0y Tryz.prog 153 [.str s,.str ⟨#[10]⟩] (.bool true))
  (c3:FC Tryz.prog 1 154 [.str (s.extract 0 (s.size-1)),.str ⟨#[10]⟩] [] (a0d (.sl 1 0 0 (n+2+1)) [(1,lnB false (n+2+1) L)] 2))
  (c4:FC Tryz.prog 1 154 [.str (L.getD 0 ⟨#[]⟩),.str ⟨#[124]⟩] [] (a0d (.sl 1 0 0 (3+1)) [(1,lnB false (3+1) Hd)] 2))
  (p4:seq (Hd.getD 0 ⟨#[]⟩) ⟨#[72]⟩=true)
  (g4:f0h Tryz.prog glT 155 [.str (Hd.getD 3 ⟨#[]⟩)] (.tup [.int .i64 0,.bool true]))
  (c5:a0y Tryz.prog 156 [.str (L.getD (n+2) ⟨#[]⟩),.str ⟨#[67,124]⟩] (.tup [.str x,.bool true]))
  (c6:a0y Tryz.prog 157 [.str x] (.bool true))
  (c7:FC Tryz.prog 1 154 [.str (L.getD (n+1) ⟨#[]⟩),.str ⟨#[124]⟩] [] (a0d (.sl 1 0 0 (4+1)) [(1,lnB false (4+1) Tr)] 2))
  (p7:seq (Tr.getD 0 ⟨#[]⟩) ⟨#[84]⟩=true)
  (g0:f0h Tryz.prog glT 155 [.str (Tr.getD 1 ⟨#[]⟩)] (.tup [.int .i64 t0,.bool true]))
  (g1:f0h Tryz.prog glT 155 [.str (Tr.getD 2 ⟨#[]⟩)] (.tup [.int .i64 t1,.bool true]))
  (g2:f0h Tryz.prog glT 155 [.str (Tr.getD 3 ⟨#[]⟩)] (.tup [.int .i64 t2,.bool true]))
  (g3:f0h Tryz.prog glT 155 [.str (Tr.getD 4 ⟨#[]⟩)] (.tup [.int .i64 t3,.bool true]))
  (c8:∀k,k<n->a0y Tryz.prog 150 [.str (L.getD (1+k) ⟨#[]⟩),.str ⟨#[82,124]⟩] (.bool true))
  (hc:s.size=cov.size+(L.getD (n+2) ⟨#[]⟩).size+1) (hv:s.extract 0 cov.size=cov):
  FC Tryz.prog 1 81 [.str s] [(0,some (GB glT))] (a0d (.tup [frS (Hd.getD 1 ⟨#[]⟩) (Hd.getD 2 ⟨#[]⟩) 0 (.sl 1 0 1 n) t0 t1 t2 t3 x cov,.int .i64 0]) [(1,lnB false (n+2+1) L)] 2):=by
 have eS:IntKind.i64.wrap ((s.size:Int)-1)=((s.size-1:Nat):Int):=by rw [a0e (by omega) (by omega)];omega
 have eL:IntKind.i64.wrap (((n+2+1:Nat):Int)-1)=((n+2:Nat):Int):=by rw [a0e (by omega) (by omega)];omega
 have eT:IntKind.i64.wrap (((n+2:Nat):Int)-1)=((n+1:Nat):Int):=by rw [a0e (by omega) (by omega)];omega
 have eC:IntKind.i64.wrap (((s.size-1:Nat):Int)-((L.getD (n+2) ⟨#[]⟩).size:Int))=(cov.size:Int):=by rw [a0e (by omega) (by omega)];omega
 have q4:seq (Hd.getD (Int.toNat 0+0) ⟨#[]⟩) ⟨#[72]⟩=true:=p4;have q7:seq (Tr.getD (Int.toNat 0+0) ⟨#[]⟩) ⟨#[84]⟩=true:=p7;have hv':s.extract (Int.toNat 0) ((cov.size:Int).toNat)=cov:=hv;refine fEx Tryz.func81 ?_;repeat' ((conv=>whnf);first|(rw [eS])|(rw [eL])|(rw [eT])|(rw [hv'])|(simp only [k0G,eC])|(rw [q4])|(rw [q7])|refine cPx c1 ?_|refine cPx c2 ?_|refine cOx (l:= [0]) c3 ?_|refine cOx (l:= [0]) c4 ?_|refine cGx g4 ?_|refine cPx c5 ?_|refine cPx c6 ?_|refine cOx (l:= [0]) c7 ?_|refine a0a ?_|(apply bRx<;>intro h<;>try (exfalso;(try dsimp only at h);omega)))
 all_goals (conv=>whnf)
 refine a0c 6 ?_;repeat' ((conv=>whnf);first|refine cGx g0 ?_|refine cGx g1 ?_|refine cGx g2 ?_|refine cGx g3 ?_|refine a0a ?_|(apply bRx<;>intro h<;>try (exfalso;(try dsimp only at h);omega)))
 all_goals (conv=>whnf)
 refine a0n (fun k:Nat=>⟨[(2,.ptr 1 0 0 0),(3,.int .i64 0),(6,.ptr 3 0 0 0),(139,.sl 2 0 1 n),(140,.int .i64 n),(141,.int .i64 k)],[(0,some (GB glT)),(1,some (.one false (.cells (frC ⟨#[]⟩ ⟨#[]⟩ 0 .nsl 0 0 0 0 ⟨#[]⟩ ⟨#[]⟩)))),(2,lnB false (n+2+1) L),(3,some (.one false (.cells (frC (Hd.getD 1 ⟨#[]⟩) (Hd.getD 2 ⟨#[]⟩) 0 (.sl 2 0 1 n) t0 t1 t2 t3 x cov))))],4⟩) (fun k=>k<=n) (fun k=>n-k) 0 [0,1,2,3] [] wHx (k0R _) ?_;rintro k hk;by_cases hk2:k<n
 .have c:=c8 k hk2;have c':a0y Tryz.prog 150 [.str (L.getD (k+1) ⟨#[]⟩),.str ⟨#[82,124]⟩] (.bool true):=by rw [y0W];exact c
  repeat' ((conv=>whnf);first|refine cPx c' ?_|refine cPx c ?_|refine a0a ?_|(apply bRx<;>intro h<;>try (exfalso;(try dsimp only at h);omega)))
  all_goals (conv=>whnf)
  all_goals first
   |exact ⟨k+1,[0,1,2,3],[],hk2,(show n-(k+1)<n-k by omega),⟨rfl,⟨rfl,rfl,rfl,rfl,rfl,congrArg (fun z=>some (SV.int .i64 z)) (a0G (by omega)),trivial⟩,⟨gwk rfl,rfl,rfl,rfl,trivial⟩⟩⟩
   |(exfalso;omega)
   |trace_state
 .have ek:k=n:=by omega
  subst ek;repeat' ((conv=>whnf);first|refine a0a ?_|(apply bRx<;>intro h<;>try (exfalso;(try dsimp only at h);omega)))
  all_goals (conv=>whnf)
  all_goals first
   |exact rOz [0,2]
   |(exfalso;omega)
   |trace_state
end
section
theorem x0h {s:ByteArray} (h:auI s=true):1<=s.size/\s.size<=16:=by
 unfold auI at h;rw [c0q] at h;exact of_decide_eq_true h.1
theorem v0F (a b:ByteArray):(a++b).size=a.size+b.size:=by simp
theorem i0P (c:UInt8):(⟨#[c]⟩:ByteArray).size=1:=rfl
theorem m0f (c:UInt8) (x y:ByteArray) (L:List ByteArray):(a0V (x::y::L) ⟨#[c]⟩).size=x.size+1+(a0V (y::L) ⟨#[c]⟩).size:=by
 rw [b0p,v0F,v0F,i0P];omega
theorem u0h {r:Rc} (h:d0V r):1<=(rcT r).size/\(rcT r).size<=200:=by
 obtain ⟨k,id,a,rfl,hk,hi,h1,h2⟩:=h;have z1:=a0R k (by omega) (by omega);have z2:=a0R a (by omega) (by omega);have z3:=a0R 0 (by omega) (by omega);have z4:=a0R 5411 (by omega) (by omega);have z5:=x0h hi;unfold rcT rcP mkR;dsimp only;rw [if_pos rfl];simp only [m0f,b0F];rw [show sSb.size=8 from rfl,show sHb.size=8 from rfl,show sM1.size=2 from rfl,show sCd.size=16 from rfl,show sEu.size=3 from rfl,show (⟨#[]⟩:ByteArray).size=0 from rfl,show (⟨#[49]⟩:ByteArray).size=1 from rfl];omega
theorem r0S {r:Rc} (h:d0V r):(rcL r).size=(rcT r).size+2:=by
 unfold rcL;rw [m0f,b0F,i0P];omega
theorem x0i {id:ByteArray} (h:auI id=true):(hdL id).size<=60:=by
 have z3:=a0R 0 (by omega) (by omega);have z5:=x0h h;unfold hdL;simp only [m0f,b0F];rw [show sSb.size=8 from rfl,i0P];omega
theorem a1b {R:List Rc} (h:∀r∈R,d0V r) (hn:R.length<=100):(trL R).size<=100:=by
 have b1:=f0j 1 R h;have b2:=f0j 2 R h;have z1:=a0R R.length (by omega) (by omega);have z2:=a0R (b0Z 1 R) (by omega) (by omega);have z3:=a0R (b0Z 2 R) (by omega) (by omega);have z4:=a0R (2*R.length) (by omega) (by omega);unfold trL trP;simp only [m0f,b0F];rw [i0P];omega
theorem a1c (x:ByteArray):(ckL x).size=x.size+2:=by
 unfold ckL;rw [m0f,b0F,i0P];omega
theorem x0j {B:Nat}:∀L:List ByteArray,(∀x∈L,x.size<=B)->(lnS L).size<=L.length*(B+1)
 | [],_=>k0R _
 |x::L,h=>by
  have h1:=h x (v0J ..);have h2:=x0j L (fun y hy=>h y (s0j _ hy));show (x++(⟨#[10]⟩++lnS L)).size<=(L.length+1)*(B+1);rw [v0F,v0F,i0P,Nat.add_mul];omega
theorem x0k {id:ByteArray} {R:List Rc} (hi:auI id=true) (h:∀r∈R,d0V r) (hn:R.length<=100):(lnS (ahL id R)).size<=30000:=by
 have hz:=x0j (B:=202) (ahL id R) (by
  intro x hx;unfold ahL at hx;rcases d0z.1 hx with rfl|hx
  .have:=x0i hi;omega
  .rcases k0Q.1 hx with hx|hx
   .obtain ⟨r,hr,rfl⟩:=m0l.1 hx;have h1:=r0S (h r hr);have h2:=u0h (h r hr);omega
   .rw [i0p.1 hx];have:=a1b h hn;omega)
 have e:(ahL id R).length=R.length+2:=by unfold ahL;simp
 rw [e] at hz;have:(R.length+2)*(202+1)<=102*203:=j0c _ (by omega);omega
abbrev flL (id:ByteArray) (R:List Rc) (x:ByteArray):List ByteArray:=hdL id::(R.map rcL++ [trL R,ckL x])
theorem v0G (id:ByteArray) (R:List Rc) (x:ByteArray):(flL id R x).getD (R.length+2) ⟨#[]⟩=ckL x:=by
 show ((R.map rcL++ [trL R,ckL x])[R.length+1]?).getD _=_;rw [m0m (by simp),m0k,show R.length+1-R.length=1 by omega];rfl
theorem a1d (id:ByteArray) (R:List Rc) (x:ByteArray):(flL id R x).getD (R.length+1) ⟨#[]⟩=trL R:=by
 show ((R.map rcL++ [trL R,ckL x])[R.length]?).getD _=_;rw [m0m (by simp),m0k,Nat.sub_self];rfl
theorem v0H (id:ByteArray) (R:List Rc) (x:ByteArray) {k:Nat} (h:k<R.length):(flL id R x).getD (1+k) ⟨#[]⟩=rcL R[k]:=by
 show ((hdL id::(R.map rcL++ [trL R,ckL x]))[1+k]?).getD _=_;rw [y0W,z0c,o0x (by simpa using h),f0l,d0L h];rfl
theorem n0k (id:ByteArray) (R:List Rc) (x:ByteArray):flT id R x=lnS (ahL id R)++(ckL x++⟨#[10]⟩):=by
 unfold flT;rw [k0A,k0B]
def cmR (r:Rc):Rc:=⟨r.k,⟨#[]⟩,⟨#[]⟩,⟨#[]⟩,⟨#[]⟩,⟨#[]⟩,r.ca,r.am,⟨#[]⟩,0,0,false⟩
theorem r0T (q:Int):∀R:List Rc,b0Z q (R.map cmR)=b0Z q R
 | []=>rfl
 |r::R=>by
  simp only [k0N,b0Z,r0T q R];rfl
theorem c1k {R:List Rc} (h:∀r∈R,d0V r):∀r∈R.map cmR,b1C r:=by
 intro r hr;obtain ⟨r',hr',rfl⟩:=m0l.1 hr;have q:=w0U (h r' hr');exact q
theorem e0W {α:Type} (f:Rc->α) (z:α) (h:∀r,f (cmR r)=z):∀R:List Rc,(R.map cmR).map f=List.replicate R.length z
 | []=>rfl
 |r::R=>by
  simp only [k0N,m0j,b1N,h r,e0W f z h R]
def pzL {α:Type} (z:α) (L:List α) (n k:Nat):List α:=L.take k++List.replicate (n-k) z
theorem c1l {α:Type} (z:α) (L:List α) (n:Nat):pzL z L n 0=List.replicate n z:=by simp [pzL]
theorem n0l {α:Type} (z:α) (L:List α) (n:Nat) (h:L.length=n):pzL z L n n=L:=by simp [pzL,<-h]
theorem n0m {α:Type} (z:α) (L:List α) (n k:Nat) (h:L.length=n) (hk:k<n) (v:α) (hv:L[k]? =some v):(pzL z L n k).set k v=pzL z L n (k+1):=by
 unfold pzL;rw [show n-k=(n-(k+1))+1 by omega,b1N,List.set_append_right _ _ (by rw [m0z];omega),m0z,show k-min k L.length=0 by omega,List.take_add_one,hv];simp
end
section
attribute [local irreducible] a0u a0v a0j b0b
theorem x0l (r:Rc):rcL r=(⟨#[82,124]⟩:ByteArray)++rcT r:=by
 unfold rcL;rw [b0p,b0F,<-d0J];congr 1
theorem c1m (J:ByteArray) (n:Nat) (h:Lib.countB J ⟨#[10]⟩=n):Lib.countB (J++⟨#[10]⟩) ⟨#[10]⟩=n+1:=by
 have h':Lib.count J.data.toList [10]=n:=h;show Lib.count (J++⟨#[10]⟩:ByteArray).data.toList [10]=n+1;rw [Lib.count_one] at h'⊢;rw [b0X,List.count_append,h'];rfl
set_option maxHeartbeats 1000000 in
theorem r0U (id:ByteArray) (R:List Rc) (u:Nat) (n:Nat) (hn:R.length=n) (h100:n<=100) (hi:auI id=true) (hR:∀r∈R,d0V r):
  FC Tryz.prog 1 81 [.str (flT id R (ckS u))] [(0,some (GB glT))] (a0d (.tup [frS id sSb 0 (.sl 1 0 1 n) n (b0Z 1 R) (b0Z 2 R) (2*(n:Int)) (ckS u) (lnS (ahL id R)),.int .i64 0]) [(1,lnB false (n+2+1) (flL id R (ckS u)))] 2):=by
 subst hn;have hx:=u0d u;have hxz:=k0M u;have hz:=x0k hi hR h100;have hck:=a1c (ckS u);have hcv:=n0k id R (ckS u);have hln:=r0D id R (ckS u);have hsp:=r0E (w0H hi) hR hx;have hsz:(flT id R (ckS u)).size=(lnS (ahL id R)).size+(ckL (ckS u)).size+1:=by rw [hcv,v0F,v0F,i0P];omega
 have b1:=f0j 1 R hR;have b2:=f0j 2 R hR;generalize hJ:a0V (hdL id::(R.map rcL++ [trL R,ckL (ckS u)])) ⟨#[10]⟩=J at hln hsp;have hJz:(flT id R (ckS u)).size=J.size+1:=by rw [hln,v0F,i0P]
 have hJe:(flT id R (ckS u)).extract 0 ((flT id R (ckS u)).size-1)=J:=by
  rw [hJz,a1m,hln];exact k0y J _
 have c1:=r0Q (flT id R (ckS u)) 10 (R.length+3) (by rw [hln];exact c1m J _ hsp.1);have c2:=k0K (flT id R (ckS u)) ⟨#[10]⟩ (by rw [i0P];omega) (by omega) (by
  rw [i0P];have h:=k0z J ⟨#[10]⟩;rw [<-hln] at h;rw [hJz,a1m,<-hJz];exact h)
 have c3:=e0r J 10 (R.length+2) (by omega) hsp.1;rw [hsp.2,<-hJe] at c3;have hh:=r0A (w0H hi);have c4:=e0r (hdL id) 124 3 (by have:=x0i hi;omega) hh.1;rw [hh.2] at c4;have ht:=r0B R;have c7:=e0r (trL R) 124 4 (by have:=a1b hR h100;omega) ht.1;rw [ht.2] at c7;have c5:=k0L (ckL (ckS u)) ⟨#[67,124]⟩ (by rw [a1c];show 2<=_;omega) (by rw [r0C];exact k0y _ _);have e5:(ckL (ckS u)).extract (⟨#[67,124]⟩:ByteArray).size (ckL (ckS u)).size=ckS u:=by rw [r0C];exact k0z _ _
 rw [e5] at c5;have c6:=p0H (ckS u) hxz (fun i h=>v0C u h);refine d1S (flT id R (ckS u)) (ckS u) (lnS (ahL id R)) R.length (flL id R (ckS u)) (hdP id) (trP R) R.length (b0Z 1 R) (b0Z 2 R) (2*(R.length:Int)) h100 (by omega) c1 c2 c3 c4 ?_ (c0S 0 (by omega) (by omega)) ?_ c6 ?_ ?_ (c0S _ (by omega) (by omega)) (c0S _ (by omega) (by omega)) (c0S _ (by omega) (by omega)) (c0S _ (by omega) (by omega)) ?_ ?_ ?_
 .show seq ⟨#[72]⟩ ⟨#[72]⟩=true;exact e0o.2 rfl
 .rw [v0G];exact c5
 .rw [a1d];exact c7
 .show seq ⟨#[84]⟩ ⟨#[84]⟩=true;exact e0o.2 rfl
 .intro k hk;rw [v0H _ _ _ hk];have hr:=hR _ (o0z hk);refine k0J _ _ (by rw [r0S hr];show 2<=_;omega) ?_;rw [x0l];exact k0y _ _
 .rw [v0G];exact hsz
 .rw [hcv];exact k0y _ _
end
section
attribute [local irreducible] a0u a0v a0j b0b
attribute [local irreducible] seq ByteArray.extract
abbrev cmC (R:List Rc) (n k:Nat):List BCol:= [.sc (.ints .i64 (pzL 0 (R.map Rc.k) n k)),.sc (.strs (List.replicate n ⟨#[]⟩)),.sc (.strs (List.replicate n ⟨#[]⟩)),.sc (.strs (List.replicate n ⟨#[]⟩)),.sc (.strs (List.replicate n ⟨#[]⟩)),.sc (.strs (List.replicate n ⟨#[]⟩)),.sc (.strs (pzL ⟨#[]⟩ (R.map Rc.ca) n k)),.sc (.ints .i64 (pzL 0 (R.map Rc.am) n k)),.sc (.strs (List.replicate n ⟨#[]⟩)),.sc (.ints .i64 (List.replicate n 0)),.sc (.ints .i64 (List.replicate n 0)),.sc (.bools (List.replicate n false))]
theorem x0m (R:List Rc) (n:Nat) (hn:R.length=n):cmC R n n=rcC (R.map cmR):=by
 subst hn;unfold cmC rcC;rw [n0l 0 (R.map Rc.k) _ (by simp),n0l (⟨#[]⟩:ByteArray) (R.map Rc.ca) _ (by simp),n0l 0 (R.map Rc.am) _ (by simp)];rw [e0W Rc.id ⟨#[]⟩ (fun _=>rfl),e0W Rc.au ⟨#[]⟩ (fun _=>rfl),e0W Rc.ac ⟨#[]⟩ (fun _=>rfl),e0W Rc.is ⟨#[]⟩ (fun _=>rfl),e0W Rc.me ⟨#[]⟩ (fun _=>rfl),e0W Rc.cu ⟨#[]⟩ (fun _=>rfl),e0W Rc.da 0 (fun _=>rfl),e0W Rc.ct 0 (fun _=>rfl),e0W Rc.fi false (fun _=>rfl)];simp only [b1t];rfl
theorem c1n (R:List Rc) (n:Nat):cmC R n 0= [.sc (.ints .i64 (List.replicate n 0)),.sc (.strs (List.replicate n ⟨#[]⟩)),.sc (.strs (List.replicate n ⟨#[]⟩)),.sc (.strs (List.replicate n ⟨#[]⟩)),.sc (.strs (List.replicate n ⟨#[]⟩)),.sc (.strs (List.replicate n ⟨#[]⟩)),.sc (.strs (List.replicate n ⟨#[]⟩)),.sc (.ints .i64 (List.replicate n 0)),.sc (.strs (List.replicate n ⟨#[]⟩)),.sc (.ints .i64 (List.replicate n 0)),.sc (.ints .i64 (List.replicate n 0)),.sc (.bools (List.replicate n false))]:=by
 unfold cmC;simp only [c1l]
set_option maxHeartbeats 1000000 in
theorem p0I (R:List Rc) (n N:Nat) (L:List ByteArray) (hn:R.length=n) (h1:1<=n) (h100:n<=100) (hR:∀r∈R,d0V r) (hN:N=n+2+1) (hL:∀k (h:k<R.length),L.getD (1+k) ⟨#[]⟩=rcL R[k]):
  FC Tryz.prog 2 158 [.sl 1 0 1 n] [(0,some (GB glT)),(1,lnB true N L)] (a0d (.sl 2 0 0 n) [(2,rcB false n (R.map cmR))] 3):=by
 subst hN;refine fEx Tryz.func158 ?_;repeat' ((conv=>whnf);first|refine a0a ?_|(apply bRx<;>intro h<;>try (exfalso;(try dsimp only at h);omega)))
 all_goals (conv=>whnf)
 refine a0n (fun k:Nat=>⟨[(3,.sl 2 0 0 n),(14,.sl 1 0 1 n),(15,.int .i64 n),(16,.int .i64 k)],[(0,some (GB glT)),(1,lnB true (n+2+1) L),(2,some (.one false (.cols n (cmC R n k))))],3⟩) (fun k=>k<=n) (fun k=>n-k) 0 [0,1,2] [] ⟨rfl,⟨rfl,rfl,rfl,rfl,trivial⟩,⟨gwk rfl,rfl,by rw [c1n];rfl,trivial⟩⟩ (k0R _) ?_;rintro k hk;by_cases hk2:k<n
 .have hkl:k<R.length:=by omega
  have ok:=hR _ (o0z hkl);have hs:=r0z ok;have hz:=r0S ok;have hz2:=u0h ok;have c:=e0r (rcL R[k]) 124 12 (by omega) hs.1;rw [hs.2,<-hL k hkl] at c;have e7:(⟨#[82]⟩::rcP R[k]).getD 7 ⟨#[]⟩=(R.map Rc.ca).getD k ⟨#[]⟩:=by rw [d0K _ _ R hkl];rfl
  have e0:(R.map Rc.k)[k]? =some R[k].k:=by rw [f0l,d0L hkl];rfl
  have e6:(R.map Rc.ca)[k]? =some ((⟨#[82]⟩::rcP R[k]).getD 7 ⟨#[]⟩):=by rw [f0l,d0L hkl];rfl
  have e8:(R.map Rc.am)[k]? =some R[k].am:=by rw [f0l,d0L hkl];rfl
  have s0:=n0m 0 (R.map Rc.k) n k (by simpa using hn) hk2 _ e0;have s6:=n0m ⟨#[]⟩ (R.map Rc.ca) n k (by simpa using hn) hk2 _ e6;have s8:=n0m 0 (R.map Rc.am) n k (by simpa using hn) hk2 _ e8;have g1:f0h Tryz.prog glT 155 [.str ((⟨#[82]⟩::rcP R[k]).getD 1 ⟨#[]⟩)] (.tup [.int .i64 R[k].k,.bool true]):=by
   obtain ⟨k',id,a,e,hk',hi,ha1,ha2⟩:=ok;have:R[k].k=k':=by rw [e];rfl
   exact c0S R[k].k (by omega) (by omega)
  have g8:f0h Tryz.prog glT 155 [.str ((⟨#[82]⟩::rcP R[k]).getD 8 ⟨#[]⟩)] (.tup [.int .i64 R[k].am,.bool true]):=by
   obtain ⟨k',id,a,e,hk',hi,ha1,ha2⟩:=ok;have:R[k].am=a:=by rw [e];rfl
   exact c0S R[k].am (by omega) (by omega)
  clear e0 e6 e8 e7 hs hz hz2 ok hL;generalize R[k].k=q at*;generalize R[k].am=a at*;generalize (⟨#[82]⟩::rcP R[k]:List ByteArray)=X at*;have c':=c;rw [y0W] at c';have hrow:some (HB.one false (.cols n [.sc (.ints .i64 ((pzL 0 (R.map Rc.k) n k).set k q)),.sc (.strs (List.replicate n ⟨#[]⟩)),.sc (.strs (List.replicate n ⟨#[]⟩)),.sc (.strs (List.replicate n ⟨#[]⟩)),.sc (.strs (List.replicate n ⟨#[]⟩)),.sc (.strs (List.replicate n ⟨#[]⟩)),.sc (.strs ((pzL ⟨#[]⟩ (R.map Rc.ca) n k).set k (X.getD 7 ⟨#[]⟩))),.sc (.ints .i64 ((pzL 0 (R.map Rc.am) n k).set k a)),.sc (.strs (List.replicate n ⟨#[]⟩)),.sc (.ints .i64 (List.replicate n 0)),.sc (.ints .i64 (List.replicate n 0)),.sc (.bools (List.replicate n false))]))=some (HB.one false (.cols n (cmC R n (k+1)))):=by
   rw [s0,s6,s8]
  repeat' ((conv=>whnf);first|refine cOx (l:= [0]) c ?_|refine cOx (l:= [0]) c' ?_|refine cGx g1 ?_|refine cGx g8 ?_|refine a0a ?_|(apply bRx<;>intro h<;>try (exfalso;(try dsimp only at h);omega)))
  all_goals (conv=>whnf)
  all_goals first
   |exact ⟨k+1,[0,1,2],[],hk2,(show n-(k+1)<n-k by omega),⟨rfl,⟨rfl,rfl,rfl,congrArg (fun z=>some (SV.int .i64 z)) (a0G (by omega)),trivial⟩,⟨gwk rfl,rfl,hrow,trivial⟩⟩⟩
   |(exfalso;omega)
   |trace_state
 .have ek:k=n:=by omega
  subst ek;rw [x0m R k hn];repeat' ((conv=>whnf);first|refine a0a ?_|(apply bRx<;>intro h<;>try (exfalso;(try dsimp only at h);omega)))
  all_goals (conv=>whnf)
  all_goals first
   |exact rOz [0,1,2]
   |(exfalso;omega)
   |trace_state
end
section
attribute [local irreducible] a0u a0v a0j b0b
attribute [local irreducible] seq ByteArray.extract
set_option maxHeartbeats 1000000 in
theorem p0J (id cov:ByteArray) (R:List Rc) (n N:Nat) (L:List ByteArray) (hn:R.length=n) (h1:1<=n) (h100:n<=100) (hi:auI id=true) (hz:cov.size<=100000) (hR:∀r∈R,d0V r) (hN:N=n+2+1) (hL:∀k (h:k<R.length),L.getD (1+k) ⟨#[]⟩=rcL R[k]):
  FC Tryz.prog 2 82 [frS id sSb 0 (.sl 1 0 1 n) n (b0Z 1 R) (b0Z 2 R) (2*(n:Int)) (ckS (crU cov)) cov] [(0,some (GB glT)),(1,lnB true N L)] (a0d (.int .i64 0) [] 2):=by
 have c:=v0E cov (by omega);have d:=p0I R n N L hn h1 h100 hR hN hL;have e:=r0M (R.map cmR) n (by rw [m0k];exact hn) (c1k hR) h100;rw [r0T,r0T] at e;have f:=r0G id;rw [hi] at f;have g:=r0H sSb (.inl rfl);have hq:seq (ckS (crU cov)) (ckS (crU cov))=true:=e0o.2 rfl;generalize b0Z 1 R=D at*;generalize b0Z 2 R=C at*;generalize ckS (crU cov)=x at*;clear hL;subst hN;refine fEx Tryz.func82 ?_;repeat' ((conv=>whnf);first|(rw [hq])|refine cGx c ?_|refine cOx (l:= [0,1]) d ?_|refine cOx (l:= [0,2]) e ?_|refine cOx (l:= [0,3]) e ?_|refine cOx (l:= [0,4]) e ?_|refine cPx f ?_|refine cPx g ?_|refine a0a ?_|(apply bRx<;>intro h<;>try (exfalso;(try dsimp only at h);omega)))
 all_goals (conv=>whnf)
 all_goals first
  |exact rOz [0,1]
  |(exfalso;exact h rfl)
  |(exfalso;omega)
  |trace_state
end
section
attribute [local irreducible] a0u a0v a0j b0b
attribute [local irreducible] seq ByteArray.extract
theorem x0n (X:List ByteArray) (tx:ByteArray) (k am da ct:Int) (hw1:IntKind.i64.wrap k=k) (hw2:IntKind.i64.wrap da=da) (hw3:IntKind.i64.wrap ct=ct)
  (c1:FC Tryz.prog 1 154 [.str tx,.str ⟨#[124]⟩] [] (a0d (.sl 1 0 0 (11+1)) [(1,some (.one false (.cols (11+1) [.sc (.strs X)])))] 2))
  (g1:f0h Tryz.prog glT 159 [.str (X.getD 0 ⟨#[]⟩)] (.tup [.int .i64 k,.bool true])) (g2:f0h Tryz.prog glT 159 [.str (X.getD 7 ⟨#[]⟩)] (.tup [.int .i64 am,.bool true]))
  (g3:f0h Tryz.prog glT 159 [.str (X.getD 9 ⟨#[]⟩)] (.tup [.int .i64 da,.bool true])) (g4:f0h Tryz.prog glT 159 [.str (X.getD 10 ⟨#[]⟩)] (.tup [.int .i64 ct,.bool true]))
  (p0:seq (X.getD 11 ⟨#[]⟩) ⟨#[48]⟩=false) (p1:seq (X.getD 11 ⟨#[]⟩) ⟨#[49]⟩=true)
  (c2:a0y Tryz.prog 43 [.agg [.int .i64 k,.str (X.getD 1 ⟨#[]⟩),.str (X.getD 2 ⟨#[]⟩),.str (X.getD 3 ⟨#[]⟩),.str (X.getD 4 ⟨#[]⟩),.str (X.getD 5 ⟨#[]⟩),.str (X.getD 6 ⟨#[]⟩),.int .i64 am,.str (X.getD 8 ⟨#[]⟩),.int .i64 da,.int .i64 ct,.bool true]] (.int .i64 0)):
  f0h Tryz.prog glT 83 [.str tx] (.tup [.agg [.int .i64 k,.str (X.getD 1 ⟨#[]⟩),.str (X.getD 2 ⟨#[]⟩),.str (X.getD 3 ⟨#[]⟩),.str (X.getD 4 ⟨#[]⟩),.str (X.getD 5 ⟨#[]⟩),.str (X.getD 6 ⟨#[]⟩),.int .i64 am,.str (X.getD 8 ⟨#[]⟩),.int .i64 da,.int .i64 ct,.bool true],.int .i64 0]):=by
 have q0:seq (X.getD (Int.toNat 11+0) ⟨#[]⟩) ⟨#[48]⟩=false:=p0;have q1:seq (X.getD (Int.toNat 11+0) ⟨#[]⟩) ⟨#[49]⟩=true:=p1;refine fEx Tryz.func83 ?_;repeat' ((conv=>whnf);first|(rw [q0])|(rw [q1])|(rw [hw1])|(rw [hw2])|(rw [hw3])|refine cOx (l:= [0]) c1 ?_|refine cGx g1 ?_|refine cGx g2 ?_|refine cGx g3 ?_|refine cGx g4 ?_|refine cPx c2 ?_|refine a0a ?_|(apply bRx<;>intro h<;>try (exfalso;(try dsimp only at h);omega)))
 all_goals (conv=>whnf)
 all_goals first
  |exact a0b rfl
  |trace_state
theorem r0V (r:Rc) (h:d0V r):f0h Tryz.prog glT 83 [.str (rcT r)] (.tup [r.s,.int .i64 0]):=by
 have hz:=o0q h;have hs:=r0y h;have c1:=e0r (rcT r) 124 11 (by omega) hs.1;rw [hs.2] at c1;have c2:=f0W r h;obtain ⟨k,id,a,rfl,hk,hi,h1,h2⟩:=h;exact x0n (rcP (mkR k id a)) _ k a 0 5411 (a0e (by omega) (by omega)) rfl rfl c1 (f0Y k (by omega) (by omega)) (f0Y a (by omega) (by omega)) (f0Y 0 (by omega) (by omega)) (f0Y 5411 (by omega) (by omega)) (by rw [show (rcP (mkR k id a)).getD 11 ⟨#[]⟩=⟨#[49]⟩ from rfl];unfold seq;decide) (by rw [show (rcP (mkR k id a)).getD 11 ⟨#[]⟩=⟨#[49]⟩ from rfl];unfold seq;decide) c2
end
section
attribute [local irreducible] a0u a0v a0j b0b
theorem x0o {L:List ByteArray} {k:Nat} {x:ByteArray} (hx:L[k]? =some x) (hk:k<L.length) (hix:d0f (L.take k) x=k):
  (some (HB.one false (.obj (.map false false (if d0f (L.take k) x<k then k else k+1) [.strs (c0x (d0f (L.take k) x) x (L.take k))] [.sc (.bools (c0x (d0f (L.take k) x) true (List.replicate k true)))] (if d0f (L.take k) x<k then List.range k else List.range k++ [k]) (if d0f (L.take k) x<k then k else k+1)))):Option HB)
   =seB false (k+1) L:=by
 have e:x=L.getD k ⟨#[]⟩:=by rw [List.getD,hx];rfl
 subst e;exact v0y hk hix
theorem o0r {R:List Rc} {k:Nat} (h:k<R.length): [BCol.sc (.ints .i64 ((R.take k).map Rc.k++ [R[k].k])),.sc (.strs ((R.take k).map Rc.id++ [R[k].id])),.sc (.strs ((R.take k).map Rc.au++ [R[k].au])),.sc (.strs ((R.take k).map Rc.ac++ [R[k].ac])),.sc (.strs ((R.take k).map Rc.is++ [R[k].is])),.sc (.strs ((R.take k).map Rc.me++ [R[k].me])),.sc (.strs ((R.take k).map Rc.ca++ [R[k].ca])),.sc (.ints .i64 ((R.take k).map Rc.am++ [R[k].am])),.sc (.strs ((R.take k).map Rc.cu++ [R[k].cu])),.sc (.ints .i64 ((R.take k).map Rc.da++ [R[k].da])),.sc (.ints .i64 ((R.take k).map Rc.ct++ [R[k].ct])),.sc (.bools ((R.take k).map Rc.fi++ [R[k].fi]))]=rcC (R.take (k+1)):=by
 unfold rcC;rw [x0B h];simp only [z0B,k0N,s0c]
attribute [local irreducible] seq ByteArray.extract
set_option maxHeartbeats 2000000 in
theorem m0g (id:ByteArray) (R:List Rc) (n:Nat) (hn:R.length=n) (h1:1<=n) (h100:n<=100) (hi:auI id=true) (hR:∀r∈R,d0V r) (hd:(R.map Rc.id).Nodup):
  FC Tryz.prog 1 39 [.str (flT id R (ckS (crU (lnS (ahL id R)))))] [(0,some (GB glT))] (a0d (.tup [.agg [.str id,.str sSb,.int .i64 0,.sl 1 0 0 n],.nsl,.int .i64 0]) [(1,rcB false n R)] 2):=by
 have c1:=r0U id R (crU (lnS (ahL id R))) n hn h100 hi hR;have hL:∀k (h:k<R.length),(flL id R (ckS (crU (lnS (ahL id R))))).getD (1+k) ⟨#[]⟩=rcL R[k]:=fun k h=>v0H _ _ _ h
 have c2:=p0J id (lnS (ahL id R)) R n (n+2+1) (flL id R (ckS (crU (lnS (ahL id R))))) hn h1 h100 hi (by have:=x0k hi hR (by omega);omega) hR rfl hL;generalize flT id R (ckS (crU (lnS (ahL id R))))=s at*;generalize flL id R (ckS (crU (lnS (ahL id R))))=L at*;generalize lnS (ahL id R)=cov at*;generalize ckS (crU cov)=x at*;generalize hD:b0Z 1 R=D at*;generalize hC:b0Z 2 R=C at*;refine fEx Tryz.func39 ?_;repeat' ((conv=>whnf);first|refine cOx (l:= [0]) c1 ?_|refine cOx (l:= [0,2]) c2 ?_|refine a0a ?_|(apply bRx<;>intro h<;>try (exfalso;(try dsimp only at h);omega)))
 all_goals (conv=>whnf)
 all_goals first
  |(exfalso;omega)
  |skip
 refine a0n (fun k:Nat=>⟨[(2,.ptr 1 0 0 0),(5,.ptr 3 0 0 0),(8,.ptr 4 0 0 0),(9,.nsl),(10,.map 5 0),(39,.sl 2 0 1 n),(40,.int .i64 n),(41,.int .i64 k)],[(0,some (GB glT)),(1,some (.one false (.cells [.str ⟨#[]⟩,.str ⟨#[]⟩,.int .i64 0,.nsl]))),(2,lnB false (n+2+1) L),(3,some (.one false (.cells (frC id sSb 0 (.sl 2 0 1 n) n D C (2*(n:Int)) x cov)))),(4,some (.one false (.cells [.str id,.str sSb,.int .i64 0,.sl 6 0 0 k]))),(5,seB false k (R.map Rc.id)),(6,rcB false k (R.take k))],7⟩) (fun k=>k<=n) (fun k=>n-k) 0 [0,1,2,3,4,5,6] [.cell 4 3 (rcC [])] wHx (k0R _) ?_;rintro k hk;by_cases hk2:k<n
 .have hkl:k<R.length:=by omega
  have ok:=hR _ (o0z hkl);have c:=r0V R[k] ok;have hz:=r0S ok;rw [<-w0Q,<-hL k hkl] at c;have hcut:=hL k hkl;have hcnd:(0:Int)<=2/\(2:Int)<=(((L.getD (1+k) ⟨#[]⟩).size:Nat):Int)/\(((L.getD (1+k) ⟨#[]⟩).size:Nat):Int)<=(((L.getD (1+k) ⟨#[]⟩).size:Nat):Int):=⟨by omega,by rw [hcut];omega,e1E _⟩;have hac:seq R[k].ac sSb=true:=by
   obtain ⟨k',id',a',e,_⟩:=ok;rw [e];exact e0o.2 rfl
  have hxk:(R.map Rc.id)[k]? =some R[k].id:=by rw [f0l,d0L hkl];rfl
  have hfr:d0f ((R.map Rc.id).take k) R[k].id=k:=by
   have h:=j0J hd (show k<(R.map Rc.id).length by rw [m0k];omega)
   rwa [List.getD,hxk] at h
  have hrow:=x0o hxk (by rw [m0k];omega) hfr;have hrep:(List.replicate k true).getD (d0f ((R.map Rc.id).take k) R[k].id) false=false:=by rw [r0L,hfr];exact decide_eq_false (w0z k)
  have hsn:=congrArg (fun l=>some (HB.one false (.cols (k+1) l))) (o0r hkl);clear hL hcut hz ok c1 c2;generalize R[k]=r at*;have c':=c;rw [y0W 1 k] at c';have hcnd':=hcnd;rw [y0W 1 k] at hcnd';repeat' ((conv=>whnf);first|(rw [hac])|(rw [hrep])|(refine a0f hcnd ?_)|(refine a0f hcnd' ?_)|refine cGx c ?_|refine cGx c' ?_|refine a0a ?_|(apply bRx<;>intro h<;>try (exfalso;(try dsimp only at h);omega)))
  all_goals (conv=>whnf)
  all_goals first
   |exact ⟨k+1,[0,1,2,3,4,5,9],[],hk2,(show n-(k+1)<n-k by omega),⟨rfl,⟨rfl,rfl,rfl,rfl,rfl,rfl,rfl,congrArg (fun z=>some (SV.int .i64 z)) (a0G (by omega)),trivial⟩,⟨gwk rfl,rfl,rfl,rfl,rfl,hrow,hsn,trivial⟩⟩⟩
   |(exfalso;omega)
   |trace_state
 .have ek:k=n:=by omega
  subst ek;rw [t0F (by omega:R.length<=k)];repeat' ((conv=>whnf);first|refine a0a ?_|(apply bRx<;>intro h<;>try (exfalso;(try dsimp only at h);omega)))
  all_goals (conv=>whnf)
  all_goals first
   |exact rOz [0,6]
   |(exfalso;omega)
   |trace_state
end
section
attribute [local irreducible] a0u a0v a0j b0b
theorem d1F (k:Nat):Int.toNat 0+k=k:=i0s k
theorem m0h (s t:ByteArray):∀(n:Nat) (L:List ByteArray),L.length=n->b0v (List.replicate n s) L s t=d0f L t
 |0,L,h=>by
  have:L= []:=e1A.1 h;subst this;rfl
 |n+1,[],h=>by simp at h
 |n+1,x::L,h=>by
  have ih:=m0h s t n L (by simpa using h);rw [b1N];have hs:seq s s=true:=e0o.2 rfl;simp only [b0v,d0f,hs,z0b,ih]
theorem a1e {I ids:List ByteArray} {m k:Nat} {x:ByteArray} (hm:I.length=m) (hx:ids[k]? =some x) (hk:k<ids.length) (hix:b0v (List.replicate (m+k) sSb) (I++ids.take k) sSb x=m+k):
  (some (HB.one false (.obj (.map true false (if b0v (List.replicate (m+k) sSb) (I++ids.take k) sSb x<m+k then m+k else m+k+1) [.strs (c0x (b0v (List.replicate (m+k) sSb) (I++ids.take k) sSb x) sSb (List.replicate (m+k) sSb)),.strs (c0x (b0v (List.replicate (m+k) sSb) (I++ids.take k) sSb x) x (I++ids.take k))] [.sc (.bools (c0x (b0v (List.replicate (m+k) sSb) (I++ids.take k) sSb x) true (List.replicate (m+k) true)))] (if b0v (List.replicate (m+k) sSb) (I++ids.take k) sSb x<m+k then List.range (m+k) else List.range (m+k)++ [m+k]) (if b0v (List.replicate (m+k) sSb) (I++ids.take k) sSb x<m+k then m+k else m+k+1)))):Option HB)
   =reB false (m+(k+1)) (I++ids.take (k+1)):=by
 unfold reB;rw [hix];simp only [w0z,if_false];rw [m0c (l:=List.replicate (m+k) sSb) (by simp),m0c (l:=I++ids.take k) (by rw [u0m,m0z];omega),m0c (l:=List.replicate (m+k) true) (by simp),<-Nat.add_assoc,d1G,b1F,b1F,List.take_add_one,hx,r0d];rfl
theorem u0i {I ids:List ByteArray} {m k:Nat} {x:ByteArray} (hm:I.length=m) (hx:ids[k]? =some x) (hk:k<ids.length) (hn:ids.Nodup) (hI:∀y∈ids,¬y∈I):b0v (List.replicate (m+k) sSb) (I++ids.take k) sSb x=m+k:=by
 have hl:(I++ids.take k).length=m+k:=by rw [u0m,m0z];omega
 rw [m0h _ _ _ _ hl];have h1:=Go.Sy.sidx_le (I++ids.take k) x;have h2:¬d0f (I++ids.take k) x<(I++ids.take k).length:=by
  rw [Go.Sy.sidx_lt];intro hmem;have hxm:x∈ids:=by
   obtain ⟨h,e⟩:=b1E.1 hx;rw [<-e];exact o0z h
  rcases k0Q.1 hmem with h|h
  .exact hI x hxm h
  .obtain ⟨i,hi,e⟩:=t0H h;rw [List.getElem_take] at e;have hik:i<k:=by rw [m0z] at hi;omega
   obtain ⟨h',e'⟩:=b1E.1 hx;exact List.pairwise_iff_getElem.1 hn i k (by omega) hk hik (by rw [e,e'])
 omega
attribute [local irreducible] seq b0v
set_option maxHeartbeats 2000000 in
theorem u0j (fid:ByteArray) (R:List Rc) (n fn m:Nat) (o:Bool) (I:List ByteArray) (hn:R.length=n) (h1:1<=n) (h100:n<=100) (hm:I.length=m) (hm2:m<=10000) (hd:(R.map Rc.id).Nodup) (hI:∀y∈R.map Rc.id,¬y∈I):
  FC Tryz.prog 7 41 [.ptr 1 0 0 0,.agg [.str fid,.str sSb,.int .i64 0,.sl 6 0 0 n],.nsl] [(1,inX true (.sl 3 0 0 fn)),(4,reB false m I),(5,opB false o),(6,rcB true n R)] (a0d (.tup [.sl 7 0 0 n,.nsl]) [(4,reB false (m+n) (I++R.map Rc.id)),(5,opB false true),(7,rcB false n R)] 8):=by
 have en:IntKind.i64.wrap ((n:Int)+0)=(n:Int):=by rw [Int.add_zero];exact a0e (by omega) (by omega)
 refine fEx Tryz.func41 ?_;repeat' ((conv=>whnf);first|(rw [en])|refine a0a ?_|(apply bRx<;>intro h<;>try (exfalso;(try dsimp only at h);omega)))
 all_goals (conv=>whnf)
 refine a0n (fun y:Nat×Bool=>⟨[(2,.nsl),(3,.ptr 7 0 0 0),(4,.ptr 8 0 0 0),(8,.sl 10 0 0 y.1),(9,.ptr 9 0 0 0),(10,.fn 86 [.ptr 9 0 0 0,.ptr 7 0 0 0,.ptr 8 0 0 0]),(11,.sl 6 0 y.1 (n-y.1)),(22,.int .i64 n),(23,.int .i64 y.1)],[(1,inX true (.sl 3 0 0 fn)),(4,reB false (m+y.1) (I++(R.map Rc.id).take y.1)),(5,opB false y.2),(6,rcB true n R),(7,some (.one false (.cells [.ptr 1 0 0 0]))),(8,some (.one false (.cells [.str fid,.str sSb,.int .i64 0,.sl 6 0 0 n]))),(9,some (.one false (.cells [.nsl]))),(10,rcB false y.1 (R.take y.1))],11⟩) (fun y=>y.1<=n/\(y.1=0\/y.2=true)) (fun y=>n-y.1) (0,o) [0,1,2,3,4,5,6,7,8,9,10] [.slot 8 (rcC [])] ⟨rfl,⟨rfl,rfl,rfl,rfl,rfl,rfl,rfl,rfl,rfl,trivial⟩,⟨rfl,by simp;rfl,by cases o<;>rfl,rfl,rfl,rfl,rfl,rfl,trivial⟩⟩ ⟨k0R _,.inl rfl⟩ ?_;rintro ⟨k,o'⟩ ⟨hk,ho⟩;dsimp only at hk ho;by_cases hk2:k<n
 .have hkl:k<R.length:=by omega
  have hids:k<(R.map Rc.id).length:=by rw [m0k];exact hkl
  have hxk:(R.map Rc.id)[k]? =some ((R.map Rc.id).getD k ⟨#[]⟩):=by rw [List.getD,d0L hids];rfl
  have hfr:=u0i hm hxk hids hd hI;have hrow:=a1e hm hxk hids hfr;have hrep:(List.replicate (m+k) true).getD (b0v (List.replicate (m+k) sSb) (I++(R.map Rc.id).take k) sSb ((R.map Rc.id).getD k ⟨#[]⟩)) false=false:=by rw [r0L,hfr];exact decide_eq_false (w0z _)
  have hsn:=congrArg (fun l=>some (HB.one false (.cols (k+1) l))) (o0r hkl);have eg:R[k]=rcG R k:=(o0n hkl).symm;rw [eg] at hsn;have c:=r0K ((R.map Rc.id).getD k ⟨#[]⟩) o' fn;have e11:some (SV.sl 6 0 (Int.toNat 1+k) (n-k-Int.toNat 1))=some (SV.sl 6 0 (k+1) (n-(k+1))):=by
   rw [show Int.toNat 1=1 from rfl,y0W 1 k,Nat.sub_sub]
  cases o';all_goals repeat' ((conv=>whnf);first|(simp only [d1F,hrep])|(simp only [d1F])|refine cOx (l:= [0,1,2,3,4,5]) c ?_|refine a0a ?_|(apply bRx<;>intro h<;>try (exfalso;(try dsimp only at h);omega)))
  all_goals (conv=>whnf)
  all_goals first
   |exact ⟨(k+1,true),[0,1,2,3,4,5,6,7,8,9,13],[],⟨hk2,.inr rfl⟩,(show n-(k+1)<n-k by omega),⟨rfl,⟨rfl,rfl,rfl,rfl,rfl,rfl,e11,rfl,congrArg (fun z=>some (SV.int .i64 z)) (a0G (by omega)),trivial⟩,⟨rfl,hrow,rfl,rfl,rfl,rfl,rfl,hsn,trivial⟩⟩⟩
   |(exfalso;omega)
   |trace_state
 .have ek:k=n:=by omega
  subst ek;have eo:o'=true:=by
   rcases ho with h|h
   .omega
   .exact h
  subst eo;rw [t0F (by rw [m0k];omega),t0F (by omega:R.length<=k)];repeat' ((conv=>whnf);first|refine a0a ?_|(apply bRx<;>intro h<;>try (exfalso;(try dsimp only at h);omega)))
  all_goals (conv=>whnf)
  all_goals first
   |exact rOz [0,1,2,3,4,5,6,10]
   |(exfalso;omega)
   |trace_state
end
section
attribute [local irreducible] a0u a0v a0j b0b
def flS (id:ByteArray) (R:List Rc):ByteArray:=flT id R (ckS (crU (lnS (ahL id R))))
theorem a1f (fn:Nat) (F:List ByteArray) (fid:ByteArray):some (HB.one false (.cols (fn+1) [.sc (.strs (List.replicate fn sSb++ [sSb])),.sc (.strs (F++ [fid]))]))=fiB false (fn+1) (F++ [fid]):=by
 unfold fiB;rw [b1F]
attribute [local irreducible] seq b0v
set_option maxHeartbeats 2000000 in
theorem r0W (fid:ByteArray) (R:List Rc) (n fn m:Nat) (o:Bool) (c D C h:Int) (F I:List ByteArray) (hn:R.length=n) (h1:1<=n) (h100:n<=100) (hi:auI fid=true) (hR:∀r∈R,d0V r) (hF:F.length=fn) (hfn:fn<=50) (hm:I.length=m) (hm2:m<=10000) (hd:(R.map Rc.id).Nodup) (hI:∀y∈R.map Rc.id,¬y∈I) (hnF:¬fid∈F):
  FC Tryz.prog 6 13 [.ptr 1 0 0 0,.int .i64 0,.str (flS fid R)] [(0,some (GB glT)),(1,inX false (.sl 3 0 0 fn)),(2,ttB false c D C h),(3,fiB false fn F),(4,reB false m I),(5,opB false o)]
   (a0d (.tup [.sl 6 0 0 n,.nsl,.int .i64 0]) [(1,inX false (.sl 7 0 0 (fn+1))),(2,ttB false (IntKind.i64.wrap (c+n)) (IntKind.i64.wrap (D+b0Z 1 R)) (IntKind.i64.wrap (C+b0Z 2 R)) ((IntKind.i64.wrap (h+2*(n:Int))).tmod 100000000)),(4,reB false (m+n) (I++R.map Rc.id)),(5,opB false true),(6,rcB false n R),(7,fiB false (fn+1) (F++ [fid]))] 8):=by
 unfold flS;have c1:=m0g fid R n hn h1 h100 hi hR hd;have c2:=o0p fn c D C h;obtain ⟨p,hp,hlt,heq,hiff⟩:=k0H fid F;rw [hF] at hp heq hiff;have hpn:p=fn:=by
  rcases f0m p fn with q|q
  .exact absurd (hiff.1 q) hnF
  .omega
 have c3:=g0S F fn p (by omega) fid hp hlt heq;rw [decide_eq_false (by omega:¬p<fn)] at c3;have c4:=u0j fid R n (fn+1) m o I hn h1 h100 hm hm2 hd hI;have c5:=r0M R n hn (fun r hr=>w0U (hR r hr)) h100;have c6:=t0Z (fn+1) c D C h n (b0Z 1 R) (b0Z 2 R) (2*(n:Int));have hrow:=a1f fn F fid;clear hlt heq hiff;generalize flT fid R (ckS (crU (lnS (ahL fid R))))=s at*;generalize b0Z 1 R=d1 at*;generalize b0Z 2 R=d2 at*;cases o;all_goals refine fEx Tryz.func13 ?_
 all_goals repeat' ((conv=>whnf);first|refine cOx (l:= [0]) c1 ?_|refine cOx (l:= [0,1,2,3,4,5]) c2 ?_|refine cOx (l:= [0,3]) c3 ?_|refine cOx (l:= [0,1,2,9,4,5,6]) c4 ?_|refine cOx (l:= [0,10]) c5 ?_|refine cOx (l:= [0,1,2,9,4,5]) c6 ?_|refine a0a ?_|(apply bRx<;>intro h<;>try (exfalso;(try dsimp only at h);omega)))
 all_goals (conv=>whnf)
 all_goals first
  |(exfalso;omega)
  |exact rOz [0,1,2,3,4,5,10,9] (hh:=⟨rfl,rfl,rfl,rfl,rfl,hrow,trivial⟩)
  |trace_state
set_option maxHeartbeats 2000000 in
theorem p0K (fid:ByteArray) (R:List Rc) (n fn m:Nat) (o:Bool) (c D C h:Int) (F I:List ByteArray) (hn:R.length=n) (h1:1<=n) (h100:n<=100) (hi:auI fid=true) (hR:∀r∈R,d0V r) (hF:F.length=fn) (hfn:fn<=50) (hd:(R.map Rc.id).Nodup) (hnF:fid∈F):
  FC Tryz.prog 6 13 [.ptr 1 0 0 0,.int .i64 0,.str (flS fid R)] [(0,some (GB glT)),(1,inX true (.sl 3 0 0 fn)),(2,ttB true c D C h),(3,fiB true fn F)] (a0d (.tup [.nsl,.nsl,.int .i64 15]) [] 6):=by
 unfold flS;have c1:=m0g fid R n hn h1 h100 hi hR hd;have c2:=o0p fn c D C h;obtain ⟨p,hp,hlt,heq,hiff⟩:=k0H fid F;rw [hF] at hp heq hiff;have c3:=g0S F fn p (by omega) fid hp hlt heq;rw [decide_eq_true (hiff.2 hnF)] at c3;clear hlt heq hiff;generalize flT fid R (ckS (crU (lnS (ahL fid R))))=s at*;refine fEx Tryz.func13 ?_;repeat' ((conv=>whnf);first|refine cOx (l:= [0]) c1 ?_|refine cOx (l:= [0,1,2,3,4,5]) c2 ?_|refine cOx (l:= [0,3]) c3 ?_|refine a0a ?_|(apply bRx<;>intro h<;>try (exfalso;(try dsimp only at h);omega)))
 all_goals (conv=>whnf)
 all_goals first
  |(exfalso;omega)
  |exact rOz [0,1,2,3,4,5]
  |trace_state
end
section
attribute [local irreducible] a0u a0v a0j b0b
def sFt:ByteArray:=⟨#[102,101,101,32,97,108,108,32,119,104,101,110,32,49,32,61,32,49,32,58,32,48,46,53,37,59]⟩
def sFb:ByteArray:=⟨#[102,101,101,32,97,108,108,32,119,104,101,110,32,49,32,61,32,49,32,58,32,48,32,32,37,59]⟩
theorem g0Z (c:Int):a0y Tryz.prog 126 [.int .u8 c] (.bool (decide (48<=c)&&decide (c<=57))):=by
 by_cases h1:48<=c
 .rw [decide_eq_true h1,z0b];refine fEx Tryz.func126 ?_;repeat' ((conv=>whnf);first|refine a0a ?_|(apply bRx<;>intro h<;>try (exfalso;(try dsimp only at h);omega)))
  all_goals (conv=>whnf)
  all_goals first
   |exact a0b rfl
   |trace_state
 .rw [decide_eq_false h1,Bool.false_and];refine fEx Tryz.func126 ?_;repeat' ((conv=>whnf);first|refine a0a ?_|(apply bRx<;>intro h<;>try (exfalso;(try dsimp only at h);omega)))
  all_goals (conv=>whnf)
  all_goals first
   |exact a0b rfl
   |trace_state
theorem h0a (i j:Nat) (h:(i=13/\j=14)\/(i=17/\j=18)\/(i=21/\j=22)\/(i=23/\j=24)):a0y Tryz.prog 195 [.str sFt,.int .i64 i] (.int .i64 j):=by
 rcases h with ⟨rfl,rfl⟩|⟨rfl,rfl⟩|⟨rfl,rfl⟩|⟨rfl,rfl⟩
 all_goals refine fEx Tryz.func195 ?_
 all_goals repeat' ((conv=>whnf);first|refine a0c 5 ?_|(refine cPx (g0Z _) ?_)|refine a0a ?_|(apply bRx<;>intro h<;>try (exfalso;(try dsimp only at h);omega)))
 all_goals (conv=>whnf)
 all_goals first
  |exact a0b rfl
  |trace_state
theorem n0n (i p e:Nat) (h:(i=13/\p=0/\e=0)\/(i=17/\p=0/\e=0)\/(i=21/\p=22/\e=24)):a0y Tryz.prog 128 [.str sFt,.int .i64 i] (.tup [.int .i64 p,.int .i64 e]):=by
 have a1:=h0a 13 14 (by decide);have a2:=h0a 17 18 (by decide);have a3:=h0a 21 22 (by decide);have a4:=h0a 23 24 (by decide);rcases h with ⟨rfl,rfl,rfl⟩|⟨rfl,rfl,rfl⟩|⟨rfl,rfl,rfl⟩
 all_goals refine fEx Tryz.func128 ?_
 all_goals repeat' ((conv=>whnf);first|refine cPx a1 ?_|refine cPx a2 ?_|refine cPx a3 ?_|refine cPx a4 ?_|refine a0a ?_|(apply bRx<;>intro h<;>try (exfalso;(try dsimp only at h);omega)))
 all_goals (conv=>whnf)
 all_goals first
  |exact a0b rfl
  |trace_state
theorem r0X:a0y Tryz.prog 127 [.int .u8 32] (.bool false):=by
 refine fEx Tryz.func127 ?_;repeat' ((conv=>whnf);first|(refine cPx (g0Z _) ?_)|refine a0a ?_|(apply bRx<;>intro h<;>try (exfalso;(try dsimp only at h);omega)))
 all_goals (conv=>whnf)
 all_goals exact a0b rfl
set_option maxHeartbeats 4000000 in
theorem p0L:a0y Tryz.prog 65 [.str sFt] (.str sFb):=by
 have f1:=n0n 13 0 0 (by decide);have f2:=n0n 17 0 0 (by decide);have f3:=n0n 21 22 24 (by decide);have w:=r0X;refine fEx Tryz.func65 ?_;repeat' ((conv=>whnf);first|refine a0c 30 ?_|refine cPx f1 ?_|refine cPx f2 ?_|refine cPx f3 ?_|refine cPx w ?_|(refine cPx (g0Z _) ?_)|refine a0a ?_|(apply bRx<;>intro h<;>try (exfalso;(try dsimp only at h);omega)))
 all_goals (conv=>whnf)
 all_goals first
  |exact rOz [0]
  |trace_state
end
section
attribute [local irreducible] a0u a0v a0j b0b
theorem c0U (i j:Nat) (h:(i=0/\j=0)\/(i=3/\j=4)\/(i=7/\j=8)\/(i=12/\j=13)\/(i=14/\j=15)\/(i=16/\j=17)\/(i=18/\j=19)\/(i=20/\j=21)\/(i=22/\j=24)\/(i=25/\j=25)\/(i=26/\j=26)):a0y Tryz.prog 129 [.str sFb,.int .i64 i] (.int .i64 j):=by
 rcases h with ⟨rfl,rfl⟩|⟨rfl,rfl⟩|⟨rfl,rfl⟩|⟨rfl,rfl⟩|⟨rfl,rfl⟩|⟨rfl,rfl⟩|⟨rfl,rfl⟩|⟨rfl,rfl⟩|⟨rfl,rfl⟩|⟨rfl,rfl⟩|⟨rfl,rfl⟩
 all_goals refine fEx Tryz.func129 ?_
 all_goals repeat' ((conv=>whnf);first|refine a0c 5 ?_|(refine cPx (a0z _ ?_ ?_) ?_;decide;decide)|refine a0a ?_|(apply bRx<;>intro h<;>try (exfalso;(try dsimp only at h);omega)))
 all_goals (conv=>whnf)
 all_goals first
  |exact a0b rfl
  |trace_state
theorem g0v (i:Nat) (s:ByteArray) (h:(i=0/\s=⟨#[102,101,101]⟩)\/(i=4/\s=⟨#[97,108,108]⟩)\/(i=8/\s=⟨#[119,104,101,110]⟩)\/(i=13/\s=⟨#[49]⟩)\/(i=17/\s=⟨#[49]⟩)\/(i=21/\s=⟨#[48]⟩)):a0y Tryz.prog 63 [.str sFb,.int .i64 i] (.str s):=by
 rcases h with ⟨rfl,rfl⟩|⟨rfl,rfl⟩|⟨rfl,rfl⟩|⟨rfl,rfl⟩|⟨rfl,rfl⟩|⟨rfl,rfl⟩
 all_goals refine fEx Tryz.func63 ?_
 all_goals repeat' ((conv=>whnf);first|refine a0c 8 ?_|(refine cPx (d0j _ ?_ ?_) ?_;decide;decide)|refine a0a ?_|(apply bRx<;>intro h<;>try (exfalso;(try dsimp only at h);omega)))
 all_goals (conv=>whnf)
 all_goals first
  |exact a0b rfl
  |trace_state
theorem e0s (s:ByteArray) (n:Int) (h:(s=⟨#[49]⟩/\n=1)\/(s=⟨#[48]⟩/\n=0)):a0y Tryz.prog 196 [.str s] (.tup [.int .i64 n,.int .i64 0]):=by
 rcases h with ⟨rfl,rfl⟩|⟨rfl,rfl⟩
 all_goals refine fEx Tryz.func196 ?_
 all_goals repeat' ((conv=>whnf);first|refine a0c 8 ?_|(refine cPx (a0z _ ?_ ?_) ?_;decide;decide)|refine a0a ?_|(apply bRx<;>intro h<;>try (exfalso;(try dsimp only at h);omega)))
 all_goals (conv=>whnf)
 all_goals first
  |exact a0b rfl
  |trace_state
theorem c1o (i:Nat) (p:ByteArray) (h:(i=0\/i=4\/i=8\/i=13\/i=15\/i=17\/i=19\/i=21\/i=24\/i=25)/\(p=⟨#[33,61]⟩\/p=⟨#[60,61]⟩)):a0y Tryz.prog 216 [.str (sFb.extract i 26),.str p] (.bool false):=by
 obtain ⟨hi,hp⟩:=h;rcases hi with rfl|rfl|rfl|rfl|rfl|rfl|rfl|rfl|rfl|rfl<;>rcases hp with rfl|rfl
 all_goals refine fEx Tryz.func216 ?_
 all_goals repeat' ((conv=>whnf);first|refine a0a ?_|(apply bRx<;>intro h<;>try (exfalso;(try dsimp only at h);omega)))
 all_goals (conv=>whnf)
 all_goals first
  |exact a0b rfl
  |(refine a0b (congrArg SV.bool ?_);decide)
  |trace_state
theorem b0R (i:Nat) (p:ByteArray) (h:(i=0\/i=4\/i=8\/i=13\/i=15\/i=17\/i=19\/i=21\/i=24\/i=25)/\(p=⟨#[33,61]⟩\/p=⟨#[60,61]⟩)):a0y Tryz.prog 150 [.str (sFb.extract i 26),.str p] (.bool false):=by
 have c:=c1o i p h;clear h;refine fEx Tryz.func150 ?_;repeat' ((conv=>whnf);first|refine cPx c ?_|refine a0a ?_|(apply bRx<;>intro h<;>try (exfalso;(try dsimp only at h);omega)))
 all_goals (conv=>whnf)
 all_goals exact a0b rfl
end
section
attribute [local irreducible] a0u a0v a0j b0b
theorem a1g:a0y Tryz.prog 130 [.str sFb,.int .i64 0] (.tup [.agg [.int .i64 1,.str ⟨#[102,101,101]⟩,.int .i64 0,.int .i64 0],.int .i64 3,.int .i64 0]):=by
 have a:=b0R 0 ⟨#[33,61]⟩ (by decide);have b:=b0R 0 ⟨#[60,61]⟩ (by decide);have w:=g0v 0 ⟨#[102,101,101]⟩ (by decide);refine fEx Tryz.func130 ?_;repeat' ((conv=>whnf);first|refine cPx a ?_|refine cPx b ?_|refine cPx w ?_|(refine cPx (a0z _ ?_ ?_) ?_;decide;decide)|refine a0a ?_|(apply bRx<;>intro h<;>try (exfalso;(try dsimp only at h);omega)))
 all_goals (conv=>whnf)
 all_goals first
  |exact a0b rfl
  |exact rOz [0]
  |trace_state
theorem a1h:a0y Tryz.prog 130 [.str sFb,.int .i64 4] (.tup [.agg [.int .i64 1,.str ⟨#[97,108,108]⟩,.int .i64 0,.int .i64 4],.int .i64 7,.int .i64 0]):=by
 have a:=b0R 4 ⟨#[33,61]⟩ (by decide);have b:=b0R 4 ⟨#[60,61]⟩ (by decide);have w:=g0v 4 ⟨#[97,108,108]⟩ (by decide);refine fEx Tryz.func130 ?_;repeat' ((conv=>whnf);first|refine cPx a ?_|refine cPx b ?_|refine cPx w ?_|(refine cPx (a0z _ ?_ ?_) ?_;decide;decide)|refine a0a ?_|(apply bRx<;>intro h<;>try (exfalso;(try dsimp only at h);omega)))
 all_goals (conv=>whnf)
 all_goals first
  |exact a0b rfl
  |exact rOz [0]
  |trace_state
theorem a1i:a0y Tryz.prog 130 [.str sFb,.int .i64 8] (.tup [.agg [.int .i64 1,.str ⟨#[119,104,101,110]⟩,.int .i64 0,.int .i64 8],.int .i64 12,.int .i64 0]):=by
 have a:=b0R 8 ⟨#[33,61]⟩ (by decide);have b:=b0R 8 ⟨#[60,61]⟩ (by decide);have w:=g0v 8 ⟨#[119,104,101,110]⟩ (by decide);refine fEx Tryz.func130 ?_;repeat' ((conv=>whnf);first|refine cPx a ?_|refine cPx b ?_|refine cPx w ?_|(refine cPx (a0z _ ?_ ?_) ?_;decide;decide)|refine a0a ?_|(apply bRx<;>intro h<;>try (exfalso;(try dsimp only at h);omega)))
 all_goals (conv=>whnf)
 all_goals first
  |exact a0b rfl
  |exact rOz [0]
  |trace_state
theorem x0p:a0y Tryz.prog 130 [.str sFb,.int .i64 13] (.tup [.agg [.int .i64 2,.str ⟨#[]⟩,.int .i64 1,.int .i64 13],.int .i64 14,.int .i64 0]):=by
 have a:=b0R 13 ⟨#[33,61]⟩ (by decide);have b:=b0R 13 ⟨#[60,61]⟩ (by decide);have w:=g0v 13 ⟨#[49]⟩ (by decide);have m:=e0s ⟨#[49]⟩ 1 (by decide);refine fEx Tryz.func130 ?_;repeat' ((conv=>whnf);first|refine cPx a ?_|refine cPx b ?_|refine cPx w ?_|refine cPx m ?_|(refine cPx (a0z _ ?_ ?_) ?_;decide;decide)|refine a0a ?_|(apply bRx<;>intro h<;>try (exfalso;(try dsimp only at h);omega)))
 all_goals (conv=>whnf)
 all_goals first
  |exact a0b rfl
  |exact rOz [0]
  |trace_state
theorem x0q:a0y Tryz.prog 130 [.str sFb,.int .i64 15] (.tup [.agg [.int .i64 4,.str ⟨#[61]⟩,.int .i64 0,.int .i64 15],.int .i64 16,.int .i64 0]):=by
 have a:=b0R 15 ⟨#[33,61]⟩ (by decide);have b:=b0R 15 ⟨#[60,61]⟩ (by decide);refine fEx Tryz.func130 ?_;repeat' ((conv=>whnf);first|refine cPx a ?_|refine cPx b ?_|(refine cPx (a0z _ ?_ ?_) ?_;decide;decide)|refine a0a ?_|(apply bRx<;>intro h<;>try (exfalso;(try dsimp only at h);omega)))
 all_goals (conv=>whnf)
 all_goals first
  |exact a0b rfl
  |exact rOz [0]
  |trace_state
theorem x0r:a0y Tryz.prog 130 [.str sFb,.int .i64 17] (.tup [.agg [.int .i64 2,.str ⟨#[]⟩,.int .i64 1,.int .i64 17],.int .i64 18,.int .i64 0]):=by
 have a:=b0R 17 ⟨#[33,61]⟩ (by decide);have b:=b0R 17 ⟨#[60,61]⟩ (by decide);have w:=g0v 17 ⟨#[49]⟩ (by decide);have m:=e0s ⟨#[49]⟩ 1 (by decide);refine fEx Tryz.func130 ?_;repeat' ((conv=>whnf);first|refine cPx a ?_|refine cPx b ?_|refine cPx w ?_|refine cPx m ?_|(refine cPx (a0z _ ?_ ?_) ?_;decide;decide)|refine a0a ?_|(apply bRx<;>intro h<;>try (exfalso;(try dsimp only at h);omega)))
 all_goals (conv=>whnf)
 all_goals first
  |exact a0b rfl
  |exact rOz [0]
  |trace_state
theorem x0s:a0y Tryz.prog 130 [.str sFb,.int .i64 19] (.tup [.agg [.int .i64 4,.str ⟨#[58]⟩,.int .i64 0,.int .i64 19],.int .i64 20,.int .i64 0]):=by
 have a:=b0R 19 ⟨#[33,61]⟩ (by decide);have b:=b0R 19 ⟨#[60,61]⟩ (by decide);refine fEx Tryz.func130 ?_;repeat' ((conv=>whnf);first|refine cPx a ?_|refine cPx b ?_|(refine cPx (a0z _ ?_ ?_) ?_;decide;decide)|refine a0a ?_|(apply bRx<;>intro h<;>try (exfalso;(try dsimp only at h);omega)))
 all_goals (conv=>whnf)
 all_goals first
  |exact a0b rfl
  |exact rOz [0]
  |trace_state
theorem x0t:a0y Tryz.prog 130 [.str sFb,.int .i64 21] (.tup [.agg [.int .i64 2,.str ⟨#[]⟩,.int .i64 0,.int .i64 21],.int .i64 22,.int .i64 0]):=by
 have a:=b0R 21 ⟨#[33,61]⟩ (by decide);have b:=b0R 21 ⟨#[60,61]⟩ (by decide);have w:=g0v 21 ⟨#[48]⟩ (by decide);have m:=e0s ⟨#[48]⟩ 0 (by decide);refine fEx Tryz.func130 ?_;repeat' ((conv=>whnf);first|refine cPx a ?_|refine cPx b ?_|refine cPx w ?_|refine cPx m ?_|(refine cPx (a0z _ ?_ ?_) ?_;decide;decide)|refine a0a ?_|(apply bRx<;>intro h<;>try (exfalso;(try dsimp only at h);omega)))
 all_goals (conv=>whnf)
 all_goals first
  |exact a0b rfl
  |exact rOz [0]
  |trace_state
theorem x0u:a0y Tryz.prog 130 [.str sFb,.int .i64 24] (.tup [.agg [.int .i64 4,.str ⟨#[37]⟩,.int .i64 0,.int .i64 24],.int .i64 25,.int .i64 0]):=by
 have a:=b0R 24 ⟨#[33,61]⟩ (by decide);have b:=b0R 24 ⟨#[60,61]⟩ (by decide);refine fEx Tryz.func130 ?_;repeat' ((conv=>whnf);first|refine cPx a ?_|refine cPx b ?_|(refine cPx (a0z _ ?_ ?_) ?_;decide;decide)|refine a0a ?_|(apply bRx<;>intro h<;>try (exfalso;(try dsimp only at h);omega)))
 all_goals (conv=>whnf)
 all_goals first
  |exact a0b rfl
  |exact rOz [0]
  |trace_state
theorem x0v:a0y Tryz.prog 130 [.str sFb,.int .i64 25] (.tup [.agg [.int .i64 4,.str ⟨#[59]⟩,.int .i64 0,.int .i64 25],.int .i64 26,.int .i64 0]):=by
 have a:=b0R 25 ⟨#[33,61]⟩ (by decide);have b:=b0R 25 ⟨#[60,61]⟩ (by decide);refine fEx Tryz.func130 ?_;repeat' ((conv=>whnf);first|refine cPx a ?_|refine cPx b ?_|(refine cPx (a0z _ ?_ ?_) ?_;decide;decide)|refine a0a ?_|(apply bRx<;>intro h<;>try (exfalso;(try dsimp only at h);omega)))
 all_goals (conv=>whnf)
 all_goals first
  |exact a0b rfl
  |exact rOz [0]
  |trace_state
end
section
attribute [local irreducible] a0u a0v a0j b0b
abbrev lxB (ro:Bool):Option HB:=some (.one ro (.cols 11 [.sc (.ints .i64 [1,1,1,2,4,2,4,2,4,4,0]),.sc (.strs [⟨#[102,101,101]⟩,⟨#[97,108,108]⟩,⟨#[119,104,101,110]⟩,⟨#[]⟩,⟨#[61]⟩,⟨#[]⟩,⟨#[58]⟩,⟨#[]⟩,⟨#[37]⟩,⟨#[59]⟩,⟨#[]⟩]),.sc (.ints .i64 [0,0,0,1,0,1,0,0,0,0,0]),.sc (.ints .i64 [0,4,8,13,15,17,19,21,24,25,26])]))
set_option maxHeartbeats 4000000 in
theorem x0w:FC Tryz.prog 1 66 [.str sFb] [] (a0d (.tup [.sl 1 0 0 11,.int .i64 0,.int .i64 0]) [(1,lxB false)] 2):=by
 have s0:=c0U 0 0 (by decide);have s3:=c0U 3 4 (by decide);have s7:=c0U 7 8 (by decide);have s12:=c0U 12 13 (by decide);have s14:=c0U 14 15 (by decide);have s16:=c0U 16 17 (by decide);have s18:=c0U 18 19 (by decide);have s20:=c0U 20 21 (by decide);have s22:=c0U 22 24 (by decide);have s25:=c0U 25 25 (by decide);have s26:=c0U 26 26 (by decide);have a0:=a1g;have a4:=a1h;have a8:=a1i;have a13:=x0p;have a15:=x0q;have a17:=x0r;have a19:=x0s;have a21:=x0t;have a24:=x0u;have a25:=x0v;refine fEx Tryz.func66 ?_;repeat' ((conv=>whnf);first|refine a0c 15 ?_|refine cPx s0 ?_|refine cPx s3 ?_|refine cPx s7 ?_|refine cPx s12 ?_|refine cPx s14 ?_|refine cPx s16 ?_|refine cPx s18 ?_|refine cPx s20 ?_|refine cPx s22 ?_|refine cPx s25 ?_|refine cPx s26 ?_|refine cPx a0 ?_|refine cPx a4 ?_|refine cPx a8 ?_|refine cPx a13 ?_|refine cPx a15 ?_|refine cPx a17 ?_|refine cPx a19 ?_|refine cPx a21 ?_|refine cPx a24 ?_|refine cPx a25 ?_|refine a0a ?_|(apply bRx<;>intro h<;>try (exfalso;(try dsimp only at h);omega)))
 all_goals (conv=>whnf)
 all_goals first
  |exact rOz [0,25]
  |exact rOz [0,26]
  |exact rOz [0,27]
  |exact rOz [0,28]
  |exact rOz [0,29]
  |exact rOz [0,30]
  |exact rOz [0,31]
  |exact rOz [0,32]
  |exact rOz [0,33]
  |exact rOz [0,34]
  |exact rOz [0,35]
  |exact rOz [0,36]
  |exact rOz [0,37]
  |exact rOz [0,38]
  |exact rOz [0,39]
  |exact rOz [0,40]
  |exact rOz [0,41]
  |trace_state
end
section
attribute [local irreducible] a0u a0v a0j b0b
theorem r0Y (x:Int) (h: -4503599627370496<=x/\x<=4503599627370496):a0y Tryz.prog 47 [.int .i64 x] (.bool true):=by
 refine fEx Tryz.func47 ?_;repeat' ((conv=>whnf);first|refine a0a ?_|(apply bRx<;>intro h<;>try (exfalso;(try dsimp only at h);omega)))
 all_goals (conv=>whnf)
 all_goals first
  |exact a0b rfl
  |(refine a0b (congrArg SV.bool ?_);simp;omega)
  |trace_state
abbrev asR (r1 w1 r2 w2 r3 w3:ByteArray) (f1 f2 f3 c i a s n:Int):SV:= .agg [.str r1,.int .i64 f1,.str w1,.str r2,.int .i64 f2,.str w2,.str r3,.int .i64 f3,.str w3,.int .i64 c,.int .i64 i,.int .i64 a,.int .i64 s,.int .i64 n]
theorem p0M (r1 w1 r2 w2 r3 w3:ByteArray) (f1 f2 f3 c i a s n:Int):a0y Tryz.prog 46 [asR r1 w1 r2 w2 r3 w3 f1 f2 f3 c i a s n] (.arr 8 [.ints .i64 [c,i,a,s,n,f1,f2,f3]]):=by
 refine fEx Tryz.func46 ?_;repeat' ((conv=>whnf);first|refine a0a ?_|(apply bRx<;>intro h<;>try (exfalso;(try dsimp only at h);omega)))
 all_goals (conv=>whnf)
 all_goals first
  |exact a0b rfl
  |exact rOz [0]
  |trace_state
set_option maxHeartbeats 1000000 in
theorem i0f (r1 w1 r2 w2 r3 w3:ByteArray) (f1 f2 f3 c i a s n:Int) (h0:c+i+a+s+n=0) (hc: -1000000000000<=c/\c<=1000000000000) (hi: -1000000000000<=i/\i<=1000000000000) (ha: -1000000000000<=a/\a<=1000000000000) (hs: -1000000000000<=s/\s<=1000000000000) (hn: -1000000000000<=n/\n<=1000000000000):a0y Tryz.prog 15 [asR r1 w1 r2 w2 r3 w3 f1 f2 f3 c i a s n] (.bool true):=by
 have k:=p0M r1 w1 r2 w2 r3 w3 f1 f2 f3 c i a s n;have q1:=r0Y c (by omega);have q2:=r0Y i (by omega);have q3:=r0Y a (by omega);have q4:=r0Y s (by omega);have q5:=r0Y n (by omega);have e:IntKind.i64.wrap (IntKind.i64.wrap (IntKind.i64.wrap (IntKind.i64.wrap (IntKind.i64.wrap (0+c)+i)+a)+s)+n)=0:=by
  rw [a0e (n:=0+c) (by omega) (by omega),a0e (n:=0+c+i) (by omega) (by omega),a0e (n:=0+c+i+a) (by omega) (by omega),a0e (n:=0+c+i+a+s) (by omega) (by omega),a0e (by omega) (by omega)];omega
 refine fEx Tryz.func15 ?_;repeat' ((conv=>whnf);first|refine a0c 8 ?_|refine cPx k ?_|refine cPx q1 ?_|refine cPx q2 ?_|refine cPx q3 ?_|refine cPx q4 ?_|refine cPx q5 ?_|refine a0a ?_|(apply bRx<;>intro h<;>try (exfalso;(try dsimp only at h);omega)))
 all_goals (conv=>whnf)
 all_goals first
  |(refine rOz (r0:= .bool true) (H0:= []) [0] rfl (congrArg SV.bool (decide_eq_true e)) trivial a0t)
  |exact rOz [0]
  |trace_state
end
section
attribute [local irreducible] a0u a0v a0j b0b
def i0Q:ByteArray:=⟨#[97,108,108]⟩
abbrev ruS (h:Nat):SV:= .agg [.str i0Q,.int .i64 8,.str ⟨#[]⟩,.str ⟨#[]⟩,.int .i64 0,.sl h 0 0 2,.int .i64 50,.int .i64 0,.int .i64 0,.int .i64 0]
def feV (a:Int):Int:=(a*50+5000)/10000
theorem i0g:FC Tryz.prog 2 141 [ruS 1] [] (a0d (.bool true) [] 2):=by
 refine fEx Tryz.func141 ?_;repeat' ((conv=>whnf);first|refine a0a ?_|(apply bRx<;>intro h<;>try (exfalso;(try dsimp only at h);omega)))
 all_goals (conv=>whnf)
 all_goals first
  |exact rOz [0,1]
  |trace_state
theorem a1j (a:Int) (h:1<=a/\a<=1000000000):FC Tryz.prog 2 96 [ruS 1,.int .i64 a] [] (a0d (.tup [.int .i64 (feV a),.int .i64 0]) [] 2):=by
 have c:=i0g;have e1:IntKind.i64.wrap (a*50)=a*50:=a0e (by omega) (by omega);have e2:IntKind.i64.wrap (a*50+5000)=a*50+5000:=a0e (by omega) (by omega);have e3:(a*50+5000).tdiv 10000=feV a:=by rw [d1C (by omega)];rfl
 have e0:IntKind.i64.wrap (feV a)=feV a:=by unfold feV;exact a0e (by omega) (by omega)
 have e4:IntKind.i64.wrap (feV a+0)=feV a:=by unfold feV;exact (a0e (by omega) (by omega)).trans (by omega)
 have e5:max (feV a) 0=feV a:=by unfold feV;omega
 refine fEx Tryz.func96 ?_;repeat' ((conv=>whnf);first|(rw [e1])|(rw [e2])|(rw [e3])|(rw [e4])|(rw [e5])|refine cOx (l:= [0,1]) c ?_|refine a0a ?_|(apply bRx<;>intro h<;>try (exfalso;(try dsimp only at h);omega)))
 all_goals (conv=>whnf)
 all_goals first
  |(rw [e0,e4,e5];exact rOz [0,1])
  |exact rOz [0,1]
  |trace_state
end
end Go.Proofs.YtclhnagdmajfkaaGreatDoor
