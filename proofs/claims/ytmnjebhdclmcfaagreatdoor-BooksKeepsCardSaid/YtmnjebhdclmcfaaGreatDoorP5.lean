/- Several texts in one: Kk1. -/
import Derived.Test.YtmnjebhdclmcfaaGreatDoorP4
import Derived.Sort.Walk0
set_option linter.unusedVariables false
set_option linter.unusedSimpArgs false
set_option maxRecDepth 100000
open Go.Proofs.Tryz hiding sortI
open Go.IntKind (i64 u8 u64)
attribute [local irreducible] Go.Sy.a0n Go.Sy.a0o Go.Sy.a0i Go.Sy.a0E
namespace Go.Sy
abbrev xAa:List Nat:=[0,1,2,3,4,5,6,7,8,9,10,11,12,13,14,15]
abbrev xAb:List Nat:=[0,1,2,3,4,5,6,7,8]
abbrev xAc:List Nat:=[0,1,2,3,4,5,6,7,8,9]
abbrev xAd:List Nat:=[0,1,2,3,4,5,6,7,8,9,10,11,12,13,14,15,16,17,18,19]
abbrev xAe:List Nat:=[0,1,2,3,4,5,6,7,8,9,10,11,12,13,14,15,16,17,18,19,2,6,10,17,18,19]
abbrev xAf:List Nat:=[0,1,2,3,4,5,6,7,8,9,10,11,12,13,14,15,4,7,8,12,13,14,15]
abbrev xAg:List Nat:=[0,1,2,3,4,5,6]
abbrev xAh:List Nat:=[0,1,2,3,4,5]
abbrev xAi:List Nat:=[0,1,2,3,4,5,6,7,6]
abbrev xAj:List Nat:=[0,4,5,6,7,8,9,10]
abbrev xAk:List Nat:=[0,1,2,3,4,5,6,7,8,9,10,11,12,13,14,15,16,17,18,19,21,22,23,24,25,26]
abbrev xAl:List Nat:=[0,1,2,3,4,5,6,7]
abbrev xAm:List Nat:=[0,1,2,3,4,4]
abbrev xAn:List Nat:=[0,1,2,3,4,5,6,7,5]
abbrev xAo:List Nat:=[0,11,12,13,14,15,16,17,18,19]
abbrev xAp:List Nat:=[0,1,2,3,4,5,6,7,8,5,6,7,8]
abbrev xAq:List Nat:=[0,9,10,3,11,12,13,14,15]
abbrev xAr:List Nat:=[0,1,2,3,4,5,6,7,8,9,10,11,12,13,14,15,4,17,18,19,20,21,22]
abbrev xAs:List Nat:=[0,22,25,26,27,23,49,28]
abbrev xAt:List Nat:=[0,17,22,23,24,18,40,20]
abbrev xAu:List Nat:=[0,1,6,7,8,58,2]
abbrev xAv:List Nat:=[0,1,2,10,11,59]
abbrev xAw:List Nat:=[0,1,6,7,8,14,2]
abbrev xAx:List Nat:=[0,1,2,10,11,15]
abbrev xAy:List Nat:=[0,13,14,16,58,59,60,61,62,63,64,65,66,67,68,69,70,71,72,73,74,75,35,76,77,6,7,8,78,4,15]
abbrev xAz:List Nat:=[0,1,2,38,80,96,52]
abbrev xBa:List Nat:=[0,1,2,3,4,5,6,7,8,9,10,11]
abbrev xBb:List Nat:=[0,1,2,3,4,5,6,7,8,9,10]
abbrev xBc:List Nat:=[0,1,2,3,4,5,6,7,8,9,10,11,12]
abbrev xBd:List Nat:=[0,1,2,3,4,5,6,7,9]
abbrev xBe:List Nat:=[0,1,2,3,4,5,6,7,10]
abbrev xBf:List Nat:=[0,1,2,3,4,5,6,7,8,9,10,11,12,13,14,15,16,17,18,19,23,24,25,26,27,28]
abbrev xBg:List Nat:=[0,1,2,3,4,5,6,7,8,9,10,11,12,13,14,15,17,18,19,20,21,22,23]
abbrev xBh:List Nat:=[0,3,31,32,33,34,35,36,37,38,39,40,41,42,43,44,45,46,47,48]
abbrev xBi:List Nat:=[0,1,2,3,4,5,6,7,8,9,10,11,12,13,14,15,16,17,18,19,20,21,22,23,24,25,4,5,6,7,8,9,10,11,12,13,14,15,16,18,19,20,21,24]
abbrev xBj:List Nat:=[0,1,2,3,4,5,6,7,8,9,10,11,12,13,14,15,16,17,18,19,24,25,26,27,28,29]
abbrev xBk:List Nat:=[0,5,6,7,8,9,10,11,12,13,14,15,16,17,18,19,20,21,22,23]
abbrev xBl:List Nat:=[0,1,2,3,4,5,6,7,8,9,10,11,12,13,14,15,4,18,19,20,21,22,23]
abbrev xBm:List Nat:=[0,1,2,3,4,5,6,7,8,9,10,11,12,13,14,15,4,7,8,17,18,19,20]
abbrev xBn:List Nat:=[0,5,1,2,6,7,8,9,10,11,12,13,14,15,16,17]
abbrev xBo:List Nat:=[0,1,2,3,4,5,6,7,8,9,10,11,12,13,14,15,16,17,18,19,20,21,22,23,24,25,26,27,28,29,30]
abbrev xBp:List Nat:=[0,1,2,3,4,5,6,7,8,9,10,11,12,13,14,15,16,17,18,19,20,21,22,23,24,25,26,27,28,29,30,4,5,6,7,8,9,10,11,12,13,14,15,16,17,18,19,20,21,23,24,28]
abbrev xBq:List Nat:=[0,26,1,2,27,28,29,30,31,32,33,34,35,36,37,38]
abbrev xBr:List Nat:=[0,1,2,3,4,5,6,7,8,58,10,11,59,60,61,62,63,64,65,66,67,68,69,70,71,72,73,74,75,76,77,78,79,80,81,82,83,84,85,86,87,88,89,90,91,92,93,94,95,96,97,98,99,100,101,102,103]
abbrev xBs:List Nat:=[0,1,2,3,4,5,6,7,8,58,10,11,59]
abbrev xBt:List Nat:=[0,1,2,3,4,5,6,7,8,14,10,11,15,16,17,18,19,20,21,22,23,24,25,26,27,28,29,30,31,32,33,34,35,36,37,38,39,40,41,42,43,44,45,46,47,48,49,50,51,52,53,54,55,56,57,58,59]
abbrev xBu:List Nat:=[0,1,2,3,4,5,6,7,8,14,10,11,15]
abbrev xBv:List Nat:=[0,13,14,16,17,18,19,20,21,22,23,24,25,26,27,28,29,30,31,32,33,34,35,36,37,6,7,8,9,4,15]
abbrev xBw:List Nat:=[0,1,2,38,39,40,41,42,43,44,45,46,47,48,49,50,51,52,53,54,55,56,10,11,12,79]
abbrev xBx:List Nat:=[0,16,58,59,60,61,62,63,64,65,66,67,68,69,70,71,72,73,74,75]
abbrev xBy:List Nat:=[0,80,1,2,81,82,83,84,85,86,87,88,89,90,91,92]
abbrev xBz:List Nat:=[0,1,2,3,4,5,6,7,8,78,10,11,97,13,14,15,16,58,59,60,61,62,63,64,65,66,67,68,69,70,71,72,73,74,75,35,76,77,38,80,81,82,83,84,85,86,87,88,89,90,91,92,52,93,94,95,96]
abbrev n1q:=@List.map_append
abbrev n1v:=@List.take_length
abbrev r1V:=@ByteArray.size_extract
abbrev s1K:=@List.getElem?_set_self
abbrev s1Q:=@Int.tmod_eq_emod_of_nonneg
abbrev s1V:=@Nat.pow_le_pow_right
abbrev s1W:=@List.getElem?_set_ne
abbrev s1a:=@List.length_set
abbrev s1b:=@Int.tdiv_eq_ediv_of_nonneg
abbrev s1c:=@List.take_add_one
abbrev s1r:=@List.drop_zero
abbrev s1s:=@List.append_nil
abbrev t1A:=@Nat.div_div_eq_div_mul
abbrev t1E:=@List.pairwise_iff_getElem
abbrev t1L:=@Bool.false_and
abbrev t1P:=@List.take_succ_eq_append_getElem
abbrev t1T:=@Nat.pow_succ
abbrev t1U:=@List.range_succ
abbrev t1a:=@List.getElem?_replicate
abbrev t1c:=@Bool.and_false
abbrev t1h:=@Nat.div_le_self
abbrev t1i:=@List.length_filter_le
abbrev t1o:=@List.filter_cons
abbrev t1q:=@List.getD_cons_succ
abbrev t1s:=@List.pairwise_singleton
abbrev t1u:=@Nat.min_eq_left
abbrev t1v:=@List.filter_append
abbrev t1z:=@List.getElem_take
abbrev u1D:=@List.length_replicate
abbrev u1U:=@BitVec.toNat_ofInt
abbrev u1d:=@BitVec.toNat_and
abbrev u1i:=@List.filter_nil
end Go.Sy
namespace Go.Sy
open Go.RowKit
theorem k1v {n:Int} (h:0<=n) (h':n<=4294967295):IntKind.u32.wrap n=n:=IntWalk.u32_in n ⟨h,h'⟩
theorem c0d {n:Int} (h:0<=n) (h':n<=18446744073709551615):u64.wrap n=n:=IntWalk.u64_in n ⟨h,h'⟩
theorem m0j {n:Int} (h:0<=n) (h':n<=255):u8.wrap n=n:=IntWalk.u8_in n ⟨h,h'⟩
theorem g0R {k:IntKind} {x:Int} (n:Nat) (h:n<=k.bits):i0b k x (n:Int)=x/2^n:=by
 simp_all [i0b,Int.fdiv_eq_ediv_of_nonneg,Int.pow_nonneg]
theorem i0D {x:Int}:i0b .u64 x 8=x/256:=g0R (k:= .u64) 8 dC
theorem g0S {x:Int}:i0b .u64 x 16=x/65536:=g0R (k:= .u64) 16 dC
theorem g0T {x:Int}:i0b .u64 x 32=x/4294967296:=g0R (k:= .u64) 32 dC
theorem g0U {x:Int}:i0b .i64 x 18=x/262144:=g0R (k:= .i64) 18 dC
abbrev a0N:=And.intro @a0l (And.intro @k1v (And.intro @c0d (And.intro @m0j (And.intro @i0D (And.intro @g0S (And.intro @g0T (And.intro @g0U (And.intro @s1Q (And.intro @s1b (And.intro @u0f @q1j))))))))))
theorem n0N {s:BA} {x:Int} {n:Nat} (h:s.size=n) (k:x<(n:Int)):x<(s.size:Int):=oM
theorem n1y {s:BA} {x:Int} {n:Nat} (h:s.size=n) (k:x<=(n:Int)):x<=(s.size:Int):=oM
def c0P:Nat->Nat->List Int
 |0,_=> []
 |n+1,u=>c0P n (u/10)++ [((48+u%10:Nat):Int)]
theorem a0H:∀n u,(c0P n u).length=n
 |0,_=>rfl
 |n+1,u=>by simp [c0P,a0H n]
theorem k0O:∀(n u i:Nat),i<n->(c0P n u)[i]? =some ((48+u/10^(n-1-i)%10:Nat):Int)
 |0,_,i,h=>by omega
 |n+1,u,i,h=>by
  simp only [c0P];by_cases e:i<n
  .rw [e1S (by rw [a0H];omega),k0O n (u/10) i e,t1A,show 10*10^(n-1-i)=10^(n+1-1-i) from by rw [<-Nat.pow_succ'];grind]
  simp_all [a0H]
def b0z (u:Nat):Nat:=if u<10 then 1 else b0z (u/10)+1
termination_by u
decreasing_by omega
theorem f0h (u:Nat):0<b0z u:=by rw [b0z];split<;>omega
theorem g0b (u:Nat):u<10^b0z u:=by
 induction u using Nat.strongRecOn with
 |_ u ih=>
  rw [b0z];grind
theorem u0o (u:Nat) (h:1<=u):10^(b0z u-1)<=u:=by
 induction u using Nat.strongRecOn with
 |_ u ih=>
  rw [b0z];split
  .simpa using h
  .have:=ih (u/10) oM oM;have hp:=f0h (u/10);rw [show b0z (u/10)+1-1=(b0z (u/10)-1)+1 from by omega,t1T];omega
theorem m0k {u k:Nat} (h1:10^k<=u) (h2:u<10^(k+1)):b0z u=k+1:=by
 have hu:1<=u:=n1r (Nat.one_le_pow _ _ oM) h1;have a:=g0b u;have b:=u0o u hu;rcases t1B (b0z u) (k+1) with h|h|h
 .have:10^b0z u<=10^k:=s1V oM oM;omega
 .exact h
 .have:10^(k+1)<=10^(b0z u-1):=s1V oM oM;omega
def dec (u:Nat):BA:=a0m (c0P (b0z u) u)
def b0i (n:Int):BA:=if n<0 then a0m (45::c0P (b0z n.natAbs) n.natAbs) else dec n.toNat
def e0b (u:Nat):Nat:=if u=0 then 0 else u.log2+1
theorem u0p (u:Nat):u<2^e0b u:=by
 grind [e0b,Nat.lt_log2_self]
theorem m0l (u:Nat) (h:1<=u):2^(e0b u-1)<=u:=by
 unfold e0b;grind [Nat.log2_self_le]
theorem u0q {u k:Nat} (h1:2^k<=u) (h2:u<2^(k+1)):e0b u=k+1:=by
 have hu:1<=u:=n1r (Nat.one_le_pow _ _ oM) h1;have a:=u0p u;have b:=m0l u hu;rcases t1B (e0b u) (k+1) with h|h|h
 .have:2^e0b u<=2^k:=s1V oM oM;omega
 .omega
 .have:2^(k+1)<=2^(e0b u-1):=s1V oM oM;omega
theorem s0k {u:Nat} (h:u<2^64):e0b u<=64:=by
 rcases i1B 64 (e0b u) with h1|h1
 .have hu:1<=u:=by
   all_goals grind [e0b]
  have a:=m0l u hu;have:2^64<=2^(e0b u-1):=s1V oM oM;omega
 omega
theorem y0J (u k:Nat) (h:2^k<=u):e0b u=k+e0b (u/2^k):=by
 have h1:1<=u/2^k:=(Nat.one_le_div_iff (Nat.two_pow_pos k)).2 h;have a:=u0p (u/2^k);have b:=m0l (u/2^k) h1;have hp:0<e0b (u/2^k):=by grind
 have:e0b u=(k+e0b (u/2^k)-1)+1:=by
  refine u0q ?_ ?_
  .rw [show k+e0b (u/2^k)-1=(e0b (u/2^k)-1)+k from by omega,Nat.pow_add];simp_all [Nat.le_div_iff_mul_le,Nat.two_pow_pos]
  .rw [show k+e0b (u/2^k)-1+1=e0b (u/2^k)+k from by omega,Nat.pow_add];simp_all [t1R,Nat.two_pow_pos]
 omega
theorem s0l:∀L,L<=64->1<=L->10^(L*78913/2^18)<=2^L/\2^L<=10^(L*78913/2^18+1)/\(L*78913/2^18=0\/10^(L*78913/2^18-1)<=2^(L-1)):=by
 trivial
theorem f1W {u:Nat} (h1:1<=u) (h2:u<2^64):b0z u=e0b u*78913/2^18+(if 10^(e0b u*78913/2^18)<=u then 1 else 0):=by
 have hp:1<=e0b u:=by grind [e0b]
 obtain ⟨a,b,c⟩:=s0l (e0b u) (s0k h2) hp;have d:=u0p u;have e:=m0l u h1;generalize e0b u*78913/2^18=k at*;split
 .exact m0k ‹_› (s1j d b)
 .rcases c with c|c
  .simp_all
  .have hk:k≠0:=by grind
   have:=m0k (u:=u) (k:=k-1) (n1r c e) (by grind);omega
def n1z (s:BA) (n:Nat) (f:Nat->Nat):Bool:=decide (s.size=n)&&(List.range n).all (fun i=>Nat.beq (s.data.toList.getD i 0).toNat (f i))
theorem q0n {s:BA} {n:Nat} {f:Nat->Nat} (h:n1z s n f=true) {i:Nat} (hi:i<n):a0d s (i:Int)=(f i:Int):=by
 unfold n1z at h;simp only [n0M,s1E,s1y] at h;unfold a0d;rw [u0f,q0d (h.2 i hi)]
def smF (i:Nat):Nat:=if i%2=0 then 48+i/20 else 48+i/2%10
theorem i0E {s:BA} (h:n1z s 200 smF=true) {y:Int} (h0:0<=y) (h1:y<100):a0d s (y*2+1)=48+y%10:=by
 have e:y*2+1=((y.toNat*2+1:Nat):Int):=oM
 rw [e,q0n h oM];grind [smF]
theorem f0i {s:BA} (h:n1z s 200 smF=true) {y:Int} (h0:0<=y) (h1:y<100):a0d s (y*2)=48+y/10:=by
 have e:y*2=((y.toNat*2:Nat):Int):=oM
 rw [e,q0n h oM];grind [smF]
def y0K (l:List Int) (N o n U m:Nat):List Int:=(List.range N).map (fun x=>if o+n-m<=x/\x<o+n then ((48+U/10^(o+n-1-x)%10:Nat):Int) else l.getD x 0)
theorem m0m (l:List Int) (N o n U m:Nat):(y0K l N o n U m).length=N:=by simp [y0K]
theorem b1q {l:List Int} {N o n U:Nat} (h:l.length=N):y0K l N o n U 0=l:=by
 apply s1P;simp only [y0K];grind
theorem a0z {l:List Int} {N o n U m i:Nat} {v:Int} (hm:m<n) (hN:o+n<=N) (hi:i=o+n-m-1) (hv:v=((48+U/10^m%10:Nat):Int)):(y0K l N o n U m).set i v=y0K l N o n U (m+1):=by
 apply s1P;intro x;by_cases e:o+n-m-1=x
 .simp only [y0K];grind
 .simp only [y0K];grind
theorem w0w {l:List Int} {N o n U:Nat} (hN:o+n<=N):seg o n (y0K l N o n U n)=c0P n U:=by
 apply s1P;intro i;unfold seg;by_cases hi:i<n
 .rw [r1T,if_pos hi,s1k,k0O _ _ _ hi];simp only [y0K];grind
 simp_all [r1T,if_neg,a0H]
theorem a0U (U m j:Nat):U/10^(m+j)=U/10^m/10^j:=by rw [Nat.pow_add,t1A]
attribute [irreducible] y0K dec b0i
theorem f1X {L:List Int} {n:Nat} {v:Int} (h:0<L.length):seg 0 (1+n) (L.set 0 v)=v::seg 1 n L:=by
 cases L with
 |nil=>trivial
 |cons x l=>grind [seg]
end Go.Sy
namespace Go.Proofs.YtmnjebhdclmcfaaGreatDoor
open Go.RowKit Go.Sy
section
theorem a0j {k:Nat} (h:k<9223372036854775806):i64.wrap ((k:Int)+1)=((k+1:Nat):Int):=by rw [a0l oM oM];rfl
def b1r (s:BA) (i:Nat):Bool:=decide (65<=a0d s (i:Int))&&decide (a0d s (i:Int)<=90)
def f0F (s:BA):Nat->Bool
 |0=>true
 |k+1=>f0F s k&&b1r s k
def e0c (s:BA):Bool:=decide (s.size=3)&&f0F s s.size
theorem s0m {s:BA} {k n:Nat} (h:k<n) (hc:b1r s k=false):f0F s n=false:=by
 induction n with
 |zero=>omega
 |succ n ih=>
  simp only [f0F];grind
theorem b0H {s:BA} {k:Nat} (h:k<s.size) (hc:a0d s (k:Int)<65\/90<a0d s (k:Int)):e0c s=false:=by
 grind [b1r,e0c,s0m]
theorem e0K {s:BA} (h:s.size≠3):e0c s=false:=by unfold e0c;grind
theorem c0C {s:BA} {k:Nat} (h:f0F s k=true) (h1:¬a0d s (k:Int)<65) (h2:¬90<a0d s (k:Int)):f0F s (k+1)=true:=by
 simp_all [f0F,b1r]
attribute [irreducible] e0c
theorem k0E (s:BA):a0K prog 365 [.str s] (.bool (e0c s)):=by
 refine fEx func365 ?_;repeat' (first|(apply bRx<;>intro h))
 .exact a0e (by rw [e0K oM];rfl)
 .refine a0h (fun k:Nat=>⟨[(0,.str s),(8,.i s.size),(9,.i k)],[],1⟩) (fun k=>k<=s.size/\f0F s k=true) (fun k=>s.size-k) 0 [0] [] wHx ⟨by omega,rfl⟩ ?_;rintro k ⟨hk,hc⟩;repeat' (first|refine a0a ?_|(apply bRx<;>intro h))
  .exact a0e (by rw [b0H (k:=k) oM oM];rfl)
  .exact a0e (by rw [b0H (k:=k) oM oM];rfl)
  .exact ⟨k+1,[0],[],⟨by omega,c0C hc oM oM⟩,by omega,⟨rfl,⟨rfl,rfl,sI (a0j oM),trivial⟩,trivial⟩⟩
  .refine a0e ?_;have:e0c s=true:=by grind [e0c]
   rw [this];rfl
theorem k0F (s:BA):a0K prog 284 [.str s] (.bool (e0c s)):=by
 refine fEx func284 ?_
 refine a0h (fun k:Nat=>⟨[(0,.str s),(3,.i k)],[],1⟩) (fun k=>k<=s.size/\k<=3/\f0F s k=true) (fun k=>3-k) 0 [0] [] wHx ⟨by omega,by omega,rfl⟩ ?_;rintro k ⟨hk,h3,hc⟩;repeat' (first|refine a0a ?_|(apply bRx<;>intro h))
 .exact a0e (by rw [b0H (k:=k) oM oM];rfl)
 .exact a0e (by rw [b0H (k:=k) oM oM];rfl)
 .exact ⟨k+1,[0],[],⟨by omega,by omega,c0C hc oM oM⟩,by omega,⟨rfl,⟨rfl,sI (a0j oM),trivial⟩,trivial⟩⟩
 all_goals refine a0e ?_
 all_goals by_cases e:s.size=3
 all_goals first
  |(have e':k=s.size:=oM
    subst e';have:e0c s=true:=by unfold e0c;rw [hc];simp;omega
    simp_all [c0g])
  |(rw [e0K e];simp [c0g];omega)
def auC (c:Int):Bool:=decide ((97<=c/\c<=122)\/(65<=c/\c<=90)\/(48<=c/\c<=57)\/c=95\/c=45)
def auI (s:BA):Bool:=decide (1<=s.size/\s.size<=16)&&(List.range s.size).all (fun i=>auC (a0d s (i:Int)))
theorem q0o {s:BA} (h:s.size<1\/16<s.size):auI s=false:=by
 unfold auI;grind
theorem b1s {s:BA} {k:Nat} (hk:k<s.size) (hc:¬((97<=a0d s (k:Int)/\a0d s (k:Int)<=122)\/(65<=a0d s (k:Int)/\a0d s (k:Int)<=90)\/(48<=a0d s (k:Int)/\a0d s (k:Int)<=57)\/a0d s (k:Int)=95\/a0d s (k:Int)=45)):auI s=false:=by
 unfold auI;rw [Bool.and_eq_false_iff];refine .inr ?_;cases e:(List.range s.size).all (fun i=>auC (a0d s (i:Int))) with
 |false=>rfl
 |true=>
  rw [s1E] at e;exact absurd (of_decide_eq_true (e k (by simp_all))) hc
def m1V (s:BA) (k:Nat):Prop:=∀i,i<k->auC (a0d s (i:Int))=true
theorem m0n {s:BA} {k:Nat} (h:m1V s k) (hc:(97<=a0d s (k:Int)/\a0d s (k:Int)<=122)\/(65<=a0d s (k:Int)/\a0d s (k:Int)<=90)\/(48<=a0d s (k:Int)/\a0d s (k:Int)<=57)\/a0d s (k:Int)=95\/a0d s (k:Int)=45):m1V s (k+1):=by
 intro i hi;by_cases e:i=k
 .simp_all [auC]
 .exact h i oM
theorem u0r {s:BA} (h1:1<=s.size) (h2:s.size<=16) (h:m1V s s.size):auI s=true:=by
 unfold auI;rw [decide_eq_true ⟨h1,h2⟩,s1S,s1E];exact fun i hi=>h i (by simp_all)
attribute [irreducible] auI
structure Au where
 id:BA
 cur:BA
 app:Int
 rev:Int
 cle:Int
 exp:Int
 st:Int
 att:Int
 unt:Int
 pa:Int
abbrev Au.s (a:Au):SV:= .agg [.str a.id,.str a.cur,.i a.app,.i a.rev,.i a.cle,.i a.exp,.i a.st,.i a.att,.i a.unt,.i a.pa]
theorem Au.eta (a:Au):Au.mk a.id a.cur a.app a.rev a.cle a.exp a.st a.att a.unt a.pa=a:=rfl
def Au.zero:Au:=⟨⟨#[]⟩,⟨#[]⟩,0,0,0,0,0,0,0,0⟩
@[irreducible] def a0t (a:Au):Int:=i64.wrap (i64.wrap (i64.wrap (a.app-a.rev)-a.cle)-a.exp)
@[irreducible] def b0A (a:Au):Int:=if 0<a0t a then 1 else if 0<a.exp then 4 else if 0<a.cle then 2 else 3
def i0F (n:Int):Bool:=decide (0<=n/\n<=999999999999)
@[irreducible] def b0L (a:Au):Int:=
 if auI a.id=false then 5 else if e0c a.cur=false then 11
 else if¬(1<=a.app/\a.app<=999999999999/\0<=a.rev/\a.rev<=999999999999/\0<=a.cle/\a.cle<=999999999999/\0<=a.exp/\a.exp<=999999999999) then 4
 else if a0t a<0 then 26
 else if¬(0<=a.att/\a.att<=1099511627776/\a.att<a.unt/\a.unt<=1099511627776) then 14
 else if¬(0<=a.pa/\a.pa<=8/\a.pa<=a.cle/\(a.pa=0↔a.cle=0)) then 4
 else if a.st≠b0A a\/(a.st=1/\a.exp≠0) then 8 else 0
theorem g0c (a:Au) (h1:0<=a.app) (h2:a.app<=999999999999) (h3:0<=a.rev) (h4:a.rev<=999999999999) (h5:0<=a.cle) (h6:a.cle<=999999999999) (h7:0<=a.exp) (h8:a.exp<=999999999999):a0t a=a.app-a.rev-a.cle-a.exp:=by
 grind [a0t,a0l]
@[irreducible] def b1t (a:Au):Int:=if b0L a=0 then a0t a else 0
@[irreducible] def c0Q (a:Au):Int:=if b0L a=0 then (if a.st=1 then 0 else 8) else b0L a
structure Facts (a:Au):Prop where
 id:auI a.id=true
 cur:e0c a.cur=true
 app:1<=a.app/\a.app<=999999999999
 rev:0<=a.rev/\a.rev<=999999999999
 cle:0<=a.cle/\a.cle<=999999999999
 exp:0<=a.exp/\a.exp<=999999999999
 funds:a0t a=a.app-a.rev-a.cle-a.exp
 nneg:0<=a0t a
 time:0<=a.att/\a.att<=1099511627776/\a.att<a.unt/\a.unt<=1099511627776
 pa:0<=a.pa/\a.pa<=8/\a.pa<=a.cle/\(a.pa=0↔a.cle=0)
 st:a.st=b0A a
 op:a.st=1->a.exp=0
theorem i0G {a:Au} (h:b0L a=0):Facts a:=by
 unfold b0L at h;split at h;·simp at h
 split at h;·simp at h
 split at h;·simp at h
 split at h;·simp at h
 split at h;·simp at h
 split at h;·simp at h
 split at h;·simp at h
 rename_i h1 h2 h3 h4 h5 h6 h7;have e:=g0c a oM oM oM oM oM oM oM oM;have h7':a.st=b0A a/\(a.st=1->a.exp=0):=by
  constructor
  .apply Classical.byContradiction;intro x;exact h7 (.inl x)
  .intro x;apply Classical.byContradiction;intro y;exact h7 (.inr ⟨x,y⟩)
 exact ⟨by simpa using h1,by simpa using h2,by omega,by omega,by omega,by omega,e,by omega,by omega,by omega,h7'.1,h7'.2⟩
theorem b0M {a:Au} (h:c0Q a=0):Facts a/\a.st=1/\0<a0t a/\b1t a=a0t a/\b0L a=0/\a.exp=0:=by
 unfold c0Q at h;split at h
 .rename_i hc;split at h
  .rename_i hs;have f:=i0G hc;refine ⟨f,hs,?_,by simp_all [b1t],hc,f.op hs⟩;have:=f.st;grind [b0A]
  omega
 omega
@[irreducible] def b1u (id cur:BA) (n at_ un:Int):Au×Int:=
 let a:Au:=⟨id,cur,n,0,0,0,1,at_,un,0⟩
 if b0L a=0 then (a,0) else (Au.zero,b0L a)
@[irreducible] def e0k (a:Au) (n u:Int):Au×Int:=
 if c0Q a≠0 then (Au.zero,c0Q a) else if¬(1<=n/\n<=999999999999-a.app) then (Au.zero,4)
 else if u<a.unt\/1099511627776<u then (Au.zero,14) else ({ a with app:=a.app+n,unt:=u},0)
@[irreducible] def b0v (a:Au) (n:Int):Au×Int×Int:=
 if c0Q a≠0 then (Au.zero,0,c0Q a) else if¬(0<=n/\n<=a0t a) then (Au.zero,0,4)
 else ({ a with rev:=a.rev+(if n=0 then a0t a else n),st:=b0A { a with rev:=a.rev+(if n=0 then a0t a else n)}},(if n=0 then a0t a else n),0)
@[irreducible] def g0d (a:Au) (n:Int) (f:Bool):Au×Int×Int×Int:=
 if c0Q a≠0 then (Au.zero,0,0,c0Q a) else if¬(1<=n/\n<=999999999999) then (Au.zero,0,0,4) else if 8<=a.pa then (Au.zero,0,0,10)
 else ({ a with cle:=a.cle+min n (a0t a),rev:=a.rev+(if f=true then a0t a-min n (a0t a) else 0),pa:=a.pa+1,
                st:=b0A { a with cle:=a.cle+min n (a0t a),rev:=a.rev+(if f=true then a0t a-min n (a0t a) else 0),pa:=a.pa+1}},
       min n (a0t a),(if f=true then a0t a-min n (a0t a) else 0),0)
@[irreducible] def c0p (a:Au) (t:Int):Au×Int×Int:=
 if c0Q a≠0 then (Au.zero,0,c0Q a) else if t<a.unt then (Au.zero,0,14)
 else ({ a with exp:=a.exp+a0t a,st:=b0A { a with exp:=a.exp+a0t a}},a0t a,0)
theorem k1x (id cur:BA) (n at_ un:Int) (h:(b1u id cur n at_ un).2=0):(b1u id cur n at_ un).1.id=id:=by
 grind [b1u]
abbrev t2 (r:Au×Int):SV:= .tup [r.1.s,.i r.2]
abbrev t3 (r:Au×Int×Int):SV:= .tup [r.1.s,.i r.2.1,.i r.2.2]
abbrev t4 (r:Au×Int×Int×Int):SV:= .tup [r.1.s,.i r.2.1,.i r.2.2.1,.i r.2.2.2]
theorem b1v (id cur:BA) (n at_ un:Int):b0L ⟨id,cur,n,0,0,0,b0A ⟨id,cur,n,0,0,0,0,at_,un,0⟩,at_,un,0⟩=b0L ⟨id,cur,n,0,0,0,1,at_,un,0⟩/\
  (b0L ⟨id,cur,n,0,0,0,1,at_,un,0⟩=0->b0A ⟨id,cur,n,0,0,0,0,at_,un,0⟩=1):=by
 by_cases hn:1<=n/\n<=999999999999
 .have e:b0A ⟨id,cur,n,0,0,0,0,at_,un,0⟩=1:=by
   unfold b0A;rw [g0c _ (by grind) (by simp_all) (by simp) (by simp) (by simp) (by simp) (by simp) (by simp)];grind
  simp_all
 .constructor
  .unfold b0L;simp only;split;·rfl
   split;·rfl
   rw [if_pos oM,if_pos oM]
  .intro h;have:=(i0G h).app;trivial
def r1g (s:BA) (i:Nat):Prop:=48<=a0d s (i:Int)/\a0d s (i:Int)<=57
instance (s:BA) (i:Nat):Decidable (r1g s i):=by unfold r1g;infer_instance
def mkB (c:Int):Bool:=decide (0<=Lib.indexByte [40,41,123,125,44,59,58,61,60,62,43,45,42,37,46] c.toNat.toUInt8)
theorem b1w (c:Int) (h0:0<=c) (h1:c<128):a0K prog 196 [.str ⟨#[40,41,123,125,44,59,58,61,60,62,43,45,42,37,46]⟩,.int .i32 c] (.bool (mkB c)):=by
 refine q0c (vals:= [.string ⟨#[40,41,123,125,44,59,58,61,60,62,43,45,42,37,46]⟩,.int .i32 c]) (v:= .bool (mkB c)) (c0G func196 (by rfl) (by rfl)) ?_ ?_ ?_
 .simp [Rvs,Rv]
 .intro g;rfl
 .intro w;have h:=Tryz.strings_ContainsRune_ascii ⟨#[40,41,123,125,44,59,58,61,60,62,43,45,42,37,46]⟩ c w h0 h1;refine h.mono ?_;rintro e w' ⟨rfl,rfl⟩;exact ⟨rfl,Below.refl _ _⟩
def ltP (c:Int):Prop:=(97<=c/\c<=122)\/(65<=c/\c<=90)
instance (c:Int):Decidable (ltP c):=by unfold ltP;infer_instance
def wdP (c:Int):Prop:=ltP c\/(48<=c/\c<=57)\/c=95
instance (c:Int):Decidable (wdP c):=by unfold wdP;infer_instance
def n0O (c:Int):Int:=if c=32\/c=9\/c=10 then 1 else if ltP c then 2 else if 48<=c/\c<=57 then 3 else if c=95 then 4 else if c=34 then 5 else if c=35 then 6 else if c<=126/\mkB c=true then 7 else 0
theorem i32_in {c:Int} (h0:0<=c) (h1:c<=255):IntKind.i32.wrap c=c:=IntWalk.i32_in _ ⟨by omega,by omega⟩
theorem q0p {c:Int}:n0O c=2↔ltP c:=by
 grind [n0O,ltP]
theorem k1y {c:Int}:(n0O c=2\/n0O c=3\/n0O c=4)↔wdP c:=by
 grind [wdP,ltP,n0O]
theorem m0o (c:Int) (h0:0<=c) (h1:c<=255):a0K prog 159 [.int .i32 c] (.i (n0O c)):=by
 by_cases h126:c<=126
 .have cm:=b1w c h0 oM;cases hm:mkB c with
  |true=>
   rw [hm] at cm;unfold n0O ltP;rw [hm];refine fEx func159 ?_;repeat' ((conv=>whnf);first|refine cPx cm ?_|refine a0a ?_|(apply bRx<;>intro h<;>try exact aX))
   all_goals (conv=>whnf)
   all_goals (refine a0e (congrArg (SV.int .i64) ?_))
   all_goals grind
  |false=>
   rw [hm] at cm;unfold n0O ltP;rw [hm];refine fEx func159 ?_;repeat' ((conv=>whnf);first|refine cPx cm ?_|refine a0a ?_|(apply bRx<;>intro h<;>try exact aX))
   all_goals (conv=>whnf)
   all_goals (refine a0e (congrArg (SV.int .i64) ?_))
   all_goals grind
 .unfold n0O ltP;refine fEx func159 ?_;repeat' ((conv=>whnf);first|refine a0a ?_|(apply bRx<;>intro h<;>try exact aX))
  all_goals (conv=>whnf)
  all_goals (refine a0e (congrArg (SV.int .i64) ?_))
  omega
theorem n0P (c:Int) (h0:0<=c) (h1:c<=255):a0K prog 197 [.int .u8 c] (.bool (decide (wdP c))):=by
 have c1:=m0o c h0 h1;have hw:=k1y (c:=c);rw [show (SV.int .i32 c)=SV.int .i32 (IntKind.i32.wrap c) by rw [i32_in h0 h1]] at c1;refine fEx func197 ?_;repeat' ((conv=>whnf);first|refine cPx c1 ?_|(apply bRx<;>intro h)|exact a0e (congrArg SV.bool (decide_eq_true (hw.1 oM)).symm)|exact a0e (congrArg SV.bool (decide_eq_decide.2 ⟨fun hh=>hw.1 (Or.inr (Or.inr hh)),fun hh=>(hw.2 hh).resolve_left oM|>.resolve_left oM⟩)))
def o0F (s:BA):Nat->Bool
 |0=>true
 |k+1=>o0F s k&&decide (wdP (a0d s (k:Int)))
theorem b1x {s:BA} {k:Nat} (h:o0F s k=true) (h1:wdP (a0d s (k:Int))):o0F s (k+1)=true:=by
 simp_all [o0F]
theorem y0L {s:BA} {k n:Nat} (h:k<n) (hc:¬wdP (a0d s (k:Int))):o0F s n=false:=by
 induction n with
 |zero=>omega
 |succ n ih=>
  simp only [o0F];grind
theorem u0s {s:BA} {k n:Nat} (h:k<n) (hd:o0F s n=true):wdP (a0d s (k:Int)):=by
 grind [y0L]
theorem g0V {s:BA}:∀n,o0F s n=false->∃k,k<n/\o0F s k=true/\¬wdP (a0d s (k:Int))
 |0,h=>by trivial
 |n+1,h=>by
  cases hn:o0F s n with
  |false=>obtain ⟨k,h1,h2⟩:=g0V n hn;grind
  |true=>
   grind [b1x]
theorem o0G (s:BA) (e:Nat) (he:e<=s.size) (ht:o0F s e=true) (hx:e=s.size\/¬wdP (a0d s (e:Int))) (hs:s.size<=1000000):a0K prog 160 [.str s,.i 0] (.str (s.extract 0 e)):=by
 refine fEx func160 ?_
 refine a0h (fun k:Nat=>⟨[(0,.str s),(1,.i 0),(5,.i k)],[],1⟩) (fun k=>k<=e) (fun k=>e-k) 0 [0] [] wHx oM ?_;intro k hk;have bd:=d0p s (k:Int);have c:=n0P (a0d s (k:Int)) bd.1 bd.2;by_cases hk2:k<e
 .rw [decide_eq_true (u0s hk2 ht)] at c;repeat' ((conv=>whnf);first|refine cPx c ?_|refine a0a ?_|(apply bRx<;>intro h)|exact ⟨k+1,[0],[],by omega,by omega,⟨rfl,⟨rfl,rfl,sI (a0j oM),trivial⟩,trivial⟩⟩|exact aX)
 .have e1:k=e:=oM
  subst e1;by_cases hsz:k<s.size
  .rw [decide_eq_false (hx.resolve_left oM)] at c;have c0:=c;exact Vx
  .exact Vx
def nmB (s:BA):Bool:=decide (1<=s.size)&&decide (s.size<=16)&&decide (ltP (a0d s 0))&&o0F s s.size
theorem i1F {s:BA} (h:¬s=⟨#[]⟩):1<=s.size:=by
 rcases m1S s.size with h0|h0
 .cases s with|mk d=>
  have:d= #[]:=s1l h0;grind
 omega
theorem u0t (s:BA):s.extract 0 s.size=s:=by
 simp
theorem o0H (s:BA):a0K prog 108 [.str s] (.bool (nmB s)):=by
 unfold nmB;by_cases h0:s=⟨#[]⟩
 .subst h0;exact Wx func108
 .have hz:=i1F h0;by_cases h16:s.size<=16
  .have bd:=d0p s 0;have c1:=m0o (a0d s 0) bd.1 bd.2;rw [show (SV.int .i32 (a0d s 0))=SV.int .i32 (IntKind.i32.wrap (a0d s 0)) by rw [i32_in bd.1 bd.2]] at c1;by_cases hl:ltP (a0d s 0)
   .rw [q0p.2 hl] at c1;cases hw:o0F s s.size with
    |true=>
     have c2:=o0G s s.size (m0c _) hw (.inl rfl) oM;rw [u0t] at c2;rw [decide_eq_true hz,decide_eq_true h16,decide_eq_true hl];refine fEx func108 ?_;repeat' ((conv=>whnf);first|refine cPx c1 ?_|refine cPx c2 ?_|refine a0a ?_|(apply bRx<;>intro h<;>try exact aX)|exact a0e rfl|(exfalso;exact h0 (by assumption))|exact aX|exact a0e (congrArg SV.bool (decide_eq_true rfl)))
    |false=>
     obtain ⟨k,k1,k2,k3⟩:=g0V _ hw;have c2:=o0G s k oM k2 (.inr k3) oM;have hsz:(s.extract 0 k).size=k:=by rw [r1V];omega
     rw [decide_eq_true hz,decide_eq_true h16,decide_eq_true hl];refine fEx func108 ?_;repeat' ((conv=>whnf);first|refine cPx c1 ?_|refine cPx c2 ?_|refine a0a ?_|(apply bRx<;>intro h<;>try exact aX)|exact a0e rfl|(exfalso;exact h0 (by assumption))|exact aX|exact a0e (congrArg SV.bool (decide_eq_false oM)))
   .have hne:n0O (a0d s 0)≠2:=fun h=>hl (q0p.1 h)
    rw [decide_eq_false hl];refine fEx func108 ?_;repeat' ((conv=>whnf);first|refine cPx c1 ?_|refine a0a ?_|(apply bRx<;>intro h<;>try exact aX)|(exfalso;exact h0 (by assumption))|exact aX|exact a0e (by rw [t1c];rfl))
  .rw [decide_eq_false h16];refine fEx func108 ?_;repeat' ((conv=>whnf);first|refine a0a ?_|(apply bRx<;>intro h<;>try exact aX)|(exfalso;exact h0 (by assumption))|exact aX|exact a0e (by rw [t1c];rfl))
structure Bop where
 k:Int
 t:Int
 id:BA
 au:BA
 is:BA
 ac:BA
 am:Int
 fe:Int
 fi:Bool
abbrev Bop.s (o:Bop):SV:= .agg [.i o.k,.i o.t,.str o.id,.str o.au,.str o.is,.str o.ac,.i o.am,.i o.fe,.bool o.fi]
def fiB (s:BA) (u:Bool) (p:BA->Bool):Bool:=match u with|true=>p s|false=>seq s ⟨#[]⟩
def g0W (k:Int):Bool:=decide (k=4\/k=5\/k=6)
def b1y (k:Int):Bool:=decide (k=1\/k=2\/k=3\/k=4\/k=7)
def pmB (k a:Int):Bool:=
 if k=3 then decide (0<=a/\a<=999999999999) else if k=6 then decide (-999999999999<=a/\a<=999999999999/\a≠0)
 else if k=8 then decide (0<=a/\a<=99999) else if k=7 then decide (a=0) else decide (1<=a/\a<=999999999999)
def bkN (o:Bop):Bool:=fiB o.id (g0W o.k) auI&&(fiB o.au (b1y o.k) auI&&(fiB o.is (g0W o.k) nmB&&fiB o.ac (g0W o.k) nmB))
def ckE (o:Bop):Int:=
 if o.k<1\/8<o.k then 4 else if o.t<0\/1099511627776<o.t then 14 else if bkN o=false then 5 else if pmB o.k o.am=false then 4
 else if o.fe<0\/(if o.k=4\/o.k=5 then o.am else 0)<o.fe then 4 else if o.fi=true/\o.k≠4 then 2 else if g0W o.k=true/\o.is=o.ac then 7 else 0
theorem f0j {k:Int} (h:¬(k<1\/8<k)):k=1\/k=2\/k=3\/k=4\/k=5\/k=6\/k=7\/k=8:=oM
structure CkOk (o:Bop):Prop where
 k:1<=o.k/\o.k<=8
 t:0<=o.t/\o.t<=1099511627776
 n:bkN o=true
 a:pmB o.k o.am=true
 f:0<=o.fe/\o.fe<=(if o.k=4\/o.k=5 then o.am else 0)
 fi:o.fi=true->o.k=4
 d:g0W o.k=true->o.is≠o.ac
theorem u0u {o:Bop} (h:ckE o=0):CkOk o:=by
 unfold ckE at h;by_cases h1:o.k<1\/8<o.k
 .rw [if_pos h1] at h;cases h
 rw [if_neg h1] at h;by_cases h2:o.t<0\/1099511627776<o.t
 .rw [if_pos h2] at h;cases h
 rw [if_neg h2] at h;by_cases h3:bkN o=false
 .rw [if_pos h3] at h;cases h
 rw [if_neg h3] at h;by_cases h4:pmB o.k o.am=false
 .rw [if_pos h4] at h;cases h
 rw [if_neg h4] at h;by_cases h5:o.fe<0\/(if o.k=4\/o.k=5 then o.am else 0)<o.fe
 .rw [if_pos h5] at h;cases h
 rw [if_neg h5] at h;by_cases h6:o.fi=true/\o.k≠4
 .rw [if_pos h6] at h;cases h
 rw [if_neg h6] at h;by_cases h7:g0W o.k=true/\o.is=o.ac
 .rw [if_pos h7] at h;cases h
 exact ⟨by omega,by omega,by simpa using h3,by simpa using h4,by omega,fun e=>Classical.byContradiction fun q=>h6 ⟨e,q⟩,fun e q=>h7 ⟨e,q⟩⟩
end
end Go.Proofs.YtmnjebhdclmcfaaGreatDoor
namespace Go.Sy
open Go.RowKit
theorem m0p {x:Nat} (h:x<18446744073709551616):t0I .u64 (x:Int) 4294967295=((x%4294967296:Nat):Int):=by
 have h1:(BitVec.ofInt 64 (x:Int)&&&BitVec.ofInt 64 4294967295).toNat=x%4294967296:=by
  rw [u1d,u1U,u1U];rw [show ((x:Int)%((2^64:Nat):Int)).toNat=x by omega,show ((4294967295:Int)%((2^64:Nat):Int)).toNat=2^32-1 by rfl,Nat.and_two_pow_sub_one_eq_mod]
 show u64.wrap (((BitVec.ofInt 64 (x:Int)&&&BitVec.ofInt 64 4294967295).toNat:Nat):Int)=_;grind [c0d]
theorem s0n (x:Nat):u64.wrap (x:Int)=((x%18446744073709551616:Nat):Int):=by
 rfl
theorem w0x {x s:Nat} (h:s<=64):i0b .u64 (x:Int) (s:Int)=((x/2^s:Nat):Int):=by
 rw [g0R (k:= .u64) s h];simp
theorem n1A {x y x0 x1 y0 y1:Nat} (hx:x=x1*4294967296+x0) (hy:y=y1*4294967296+y0):x*y=(x1*y1)*18446744073709551616+(x1*y0)*4294967296+(x0*y1)*4294967296+x0*y0:=by
 grind
theorem w0y {a b:Nat} (ha:a<4294967296) (hb:b<4294967296):a*b<=18446744065119617025:=by
 have:=Nat.mul_le_mul (show a<=4294967295 by omega) (show b<=4294967295 by omega);omega
structure KD (u32 u1 Y1 Y0 Q:Nat):Prop where
 b1:u1<4294967296
 b0:Y0<4294967296
 n1:2147483648<=Y1
 n2:Y1<4294967296
 lt:u32<Y1*4294967296+Y0
 q:Q=(u32*4294967296+u1)/(Y1*4294967296+Y0)
section
variable {u32 u1 Y1 Y0 Q:Nat} (k:KD u32 u1 Y1 Y0 Q)
include k
theorem KD.le:Q<=u32/Y1:=by
 have h1:Q*(Y1*4294967296+Y0)<=u32*4294967296+u1:=by rw [k.q];exact Nat.div_mul_le_self _ _
 rw [Nat.le_div_iff_mul_le (by have:=k.n1;omega)];rw [Nat.mul_add,<-t1X] at h1;have:=k.b1;omega
end
end Go.Sy
namespace Go.Proofs.YtmnjebhdclmcfaaGreatDoor
open Go.RowKit Go.Sy
section
theorem q1o {s:BA} (h:n1z s 256 e0b=true) {x:Int} (h0:0<=x) (h1:x<256):a0d s x=(e0b x.toNat:Int):=by
 grind [q0n]
theorem y0M {u:Nat} (h:u<256):e0b u<=8:=by
 rcases i1B 8 (e0b u) with h1|h1
 .have hu:1<=u:=by
   all_goals grind [e0b]
  have a:=m0l u hu;have:2^8<=2^(e0b u-1):=s1V oM oM;omega
 omega
theorem k1z {u c:Nat} {x:Int} (hx:x=((u/2^c:Nat):Int)) (h:c=0\/2^c<=u):(c:Int)+(e0b x.toNat:Int)=(e0b u:Int):=by
 subst hx;rw [u0f];all_goals grind [y0J]
theorem e0l {u c:Nat} {x n:Int} (hn:n=(c:Int)) (hc:c<=56) (hx:x=((u/2^c:Nat):Int)) (h:c=0\/2^c<=u) (h1:x<256):i64.wrap (n+i64.wrap (e0b x.toNat:Int))=(e0b u:Int):=by
 have hb:=y0M (u:=x.toNat) oM;rw [a0l (n:=(e0b x.toNat:Int)) oM oM,a0l oM oM,hn];exact k1z hx h
theorem y0N (u:Nat) (hu:u<18446744073709551616):a0K prog 200 [.int .u64 u] (.i (e0b u)):=by
 refine fEx func200 ?_;repeat' ((conv=>whnf);first|(refine a0f ⟨by (try simp only [i0D,g0S,g0T,g0U] at*);(try simp (disch:=omega) only [a0N]);omega,n0N (n:=256) (by kernel_rfl) (by (try simp only [i0D,g0S,g0T,g0U] at*);(try simp (disch:=omega) only [a0N]);omega)⟩ ?_)|refine a0a ?_|(apply bRx<;>intro h<;>try exact aX))
 all_goals (conv=>whnf)
 all_goals refine a0e ?_
 all_goals simp only [c0g]
 all_goals (try simp only [i0D,g0S,g0T,g0U] at*)
 all_goals rw [q1o (by kernel_rfl) (by (try simp (disch:=omega) only [a0N]);omega) (by (try simp (disch:=omega) only [a0N]);omega)]
 all_goals refine congrArg (SV.int .i64) ?_
 .exact e0l (c:=56) (by rfl) oM (by (try simp (disch:=omega) only [a0N]);omega) oM (by (try simp (disch:=omega) only [a0N]);omega)
 .exact e0l (c:=48) (by rfl) oM (by (try simp (disch:=omega) only [a0N]);omega) oM (by (try simp (disch:=omega) only [a0N]);omega)
 .exact e0l (c:=40) (by rfl) oM (by (try simp (disch:=omega) only [a0N]);omega) oM (by (try simp (disch:=omega) only [a0N]);omega)
 .exact e0l (c:=32) (by rfl) oM (by (try simp (disch:=omega) only [a0N]);rfl) oM (by (try simp (disch:=omega) only [a0N]);omega)
 .exact e0l (c:=24) (by rfl) oM (by (try simp (disch:=omega) only [a0N]);omega) oM (by (try simp (disch:=omega) only [a0N]);omega)
 .exact e0l (c:=16) (by rfl) oM (by (try simp (disch:=omega) only [a0N]);rfl) oM (by (try simp (disch:=omega) only [a0N]);omega)
 .exact e0l (c:=8) (by rfl) oM (by (try simp (disch:=omega) only [a0N]);rfl) oM (by (try simp (disch:=omega) only [a0N]);omega)
 .exact e0l (c:=0) (by rfl) oM (by (try simp (disch:=omega) only [a0N]);omega) oM (by (try simp (disch:=omega) only [a0N]);omega)
theorem n0Q (n:Nat) (hn:n<=64):a0K prog 199 [.i n] (.i (n*78913/262144:Nat)):=by
 refine fEx func199 ?_;repeat' (first|refine a0a ?_)
 all_goals refine a0e ?_
 all_goals (try simp (disch:=omega) only [a0N])
 rfl
theorem y0O (b:Bool):a0K prog 201 [.bool b] (.i (if b=true then 1 else 0)):=by
 refine fEx func201 ?_;repeat' (first|(apply bRx<;>intro h)|exact a0e (by simp [c0g,h,cv]))
theorem q0q (n:Int):a0K prog 366 [.i n] (.bool (decide (-4503599627370496<=n/\n<=4503599627370496))):=by
 refine fEx func366 ?_;repeat' (first|(apply bRx<;>intro h))
 .exact a0e (congrArg SV.bool (by simp_all))
 .exact a0e (congrArg SV.bool (by grind))
theorem s0o (n:Int):a0K prog 285 [.i n] (.bool (decide (-4503599627370496<=n/\n<=4503599627370496))):=by
 refine fEx func285 ?_;repeat' (first|(apply bRx<;>intro h))
 .exact a0e (congrArg SV.bool (by simp_all))
 .exact a0e (congrArg SV.bool (by grind))
def f0k (a:Int) (c:BA):Int:=if e0c c=false then 11 else if-4503599627370496<=a/\a<=4503599627370496 then 0 else 4
theorem q0r (a:Int) (c:BA):(f0k a c=11\/f0k a c=4)\/(f0k a c=0/\e0c c=true/\-4503599627370496<=a/\a<=4503599627370496):=by
 unfold f0k;grind
attribute [irreducible] f0k
theorem m0q (a:Int) (c:BA):a0K prog 362 [.agg [.i a,.str c]] (.i (f0k a c)):=by
 refine fEx func362 ?_;repeat' ((conv=>whnf);first|refine cPx (k0E _) ?_|refine cPx (q0q _) ?_|(apply bRx<;>intro h))
 all_goals refine a0e (congrArg (SV.int .i64) ?_)
 all_goals simp_all [f0k]
theorem m0r (a:Int) (c:BA):a0K prog 254 [.agg [.i a,.str c]] (.i (f0k a c)):=by
 refine fEx func254 ?_;repeat' ((conv=>whnf);first|refine cPx (k0F _) ?_|refine cPx (s0o _) ?_|(apply bRx<;>intro h))
 all_goals refine a0e (congrArg (SV.int .i64) ?_)
 all_goals simp_all [f0k]
theorem c0T (k:Nat):(k:Int).toNat+0=k:=rfl
end
end Go.Proofs.YtmnjebhdclmcfaaGreatDoor
namespace Go.Sy
open Go.RowKit
theorem o0I (s:BA):s.toList=ofB s:=by
 exact (by simpa using u1P s:s.toList=s.data.toList)
theorem i0H (a b:BA):b0V a b=decide (ofB a<ofB b):=by
 simp_all [b0V,o0I,Go.Proofs.bytesLess_eq]
theorem b1z {a b:BA} (h:ofB a=ofB b):a=b:=by rw [<-b1c a,<-b1c b,h]
theorem b0N (a:BA):b0V a a=false:=by simp_all [i0H]
theorem u0v {a b:BA} (h:b0V a b=true):b0V b a=false:=by
 simp_all [i0H,List.lt_asymm]
theorem m0s {a b c:BA} (h:b0V a b=true) (k:b0V b c=true):b0V a c=true:=by
 rw [i0H] at*;grind
theorem m0t {a b:BA} (h:b0V a b=false) (hne:a≠b):b0V b a=true:=by
 grind [i0H,b1z]
theorem e0y {l:List BA} (hd:l.Nodup):(sortS l).Pairwise (fun a b=>b0V a b=true):=by
 have tr:∀a b c:List UInt8,leB a b=true->leB b c=true->leB a c=true:=fun a b c h1 h2=>by grind
 have tot:∀a b:List UInt8,(leB a b||leB b a)=true:=fun a b=>by grind
 have h1:=u1X tr tot (l.map ofB);have hd2:(sortS l).Nodup:=(d0M l).symm.nodup hd;have h2:(sortS l).Pairwise (fun a b=>leB (ofB a) (ofB b)=true):=by
  unfold sortS;rw [List.pairwise_map];exact h1
 refine (List.Pairwise.and h2 hd2).imp ?_;rintro a b ⟨h3,h4⟩;rw [i0H];grind [b1z]
theorem f1Y {l:List BA} (hd:l.Nodup) {i j:Nat} (hij:i<j) (hj:j<l.length):b0V ((sortS l).getD i ⟨#[]⟩) ((sortS l).getD j ⟨#[]⟩)=true:=by
 have hj':j<(sortS l).length:=by rw [c0o];omega
 have:=t1E.1 (e0y hd) i j oM hj' hij;grind
theorem w0z {l m:List BA} (hp:m.Perm l) (hm:m.Pairwise (fun a b=>b0V a b=true)):sortS l=m:=by
 have hdm:m.Nodup:=hm.imp (fun {a b} h e=>by simp_all [b0N]);refine u1T (le:=fun a b=>b0V a b=true) (fun a b _ _ h1 h2=> ?_) (e0y (hp.nodup hdm)) hm ((d0M l).trans hp.symm);simp_all [u0v]
end Go.Sy
namespace Go.Proofs.YtmnjebhdclmcfaaGreatDoor
open Go.RowKit Go.Sy
section
def idI (ps:List BA) (s:BA) (n:Nat):Int:=if a0q ps s<n then (a0q ps s:Int) else-1
theorem sidx_le (s:BA):∀l:List BA,a0q l s<=l.length
 | []=>m0c _
 |x::l=>by
  have:=sidx_le s l;simp only [a0q];all_goals grind
theorem w0A {a b:BA}:seq a b=true↔a=b:=by simp [seq]
theorem b1A {s:BA}:∀(l:List BA) (j:Nat),j<a0q l s->¬l.getD j ⟨#[]⟩=s
 | [],j,h=>by trivial
 |x::l,j,h=>by
  simp only [a0q] at h;cases hx:seq x s with
  |true=>simp_all
  |false=>
   rw [hx] at h;simp only [cond_false] at h;cases j with
   |zero=>intro e;rw [w0A.2 (show x=s from e)] at hx;grind
   |succ j=>exact b1A l j oM
theorem d0Y {s:BA}:∀(l:List BA),a0q l s<l.length->l.getD (a0q l s) ⟨#[]⟩=s
 | [],h=>by trivial
 |x::l,h=>by
  simp only [a0q] at h⊢;cases hx:seq x s with
  |true=>exact w0A.1 hx
  |false=>
   rw [hx] at h;simp only [cond_false,i1y] at h⊢;exact d0Y l oM
theorem h0H {s:BA} {l:List BA} {k:Nat} (hk:k<l.length) (h:l.getD k ⟨#[]⟩=s) (hlo:∀j,j<k->¬l.getD j ⟨#[]⟩=s):a0q l s=k:=by
 all_goals grind [d0Y,b1A]
theorem m0u (n:Nat) (ps:List BA) (s:BA) (hl:ps.length=n) (hn:n<=100000):FC prog 2 193 [.sl 1 0 0 n,.str s] [(1,some (.one true (.cols n [.sc (.strs ps)])))] (a0g (.i (idI ps s n)) [] 2):=by
 refine fEx func193 ?_;refine b0g (fun k:Nat=>⟨[(0,.sl 1 0 0 n),(1,.str s),(6,.sl 1 0 0 n),(7,.i n),(8,.i k)],[(1,some (.one true (.cols n [.sc (.strs ps)])))],2⟩) (fun k=>k<=n/\∀j,j<k->¬ps.getD j ⟨#[]⟩=s) (fun k=>n-k) 0 [0,1] [] wHx ⟨b1f _,fun j hj=>by omega⟩ ?_;rintro k ⟨hk,hlo⟩;by_cases hk2:k<n
 .by_cases q:ps.getD k ⟨#[]⟩=s
  .have hi:idI ps s n=(k:Int):=by
    have e:=h0H oM q hlo;simp_all [idI]
   rw [hi];repeat' (first|refine a0a ?_|(apply bRx<;>intro h))
   all_goals first
    |exact rOx [0,1] a0c
    |simp_all
  .have hnx:∀j,j<k+1->¬ps.getD j ⟨#[]⟩=s:=fun j hj=>by
    grind
   repeat' (first|refine a0a ?_|(apply bRx<;>intro h))
   all_goals first
    |exact ⟨k+1,[0,1],[],⟨hk2,hnx⟩,(show n-(k+1)<n-k by omega),⟨rfl,⟨rfl,rfl,rfl,rfl,sI (a0j oM),trivial⟩,rX⟩⟩
    |simp_all
 .have e:k=n:=oM
  subst e;have hi:idI ps s k= -1:=by
   unfold idI;grind [d0Y]
  rw [hi];let l:=[0,1];exact Vx
theorem s0p (n:Nat) (ps:List BA) (s:BA) (hl:ps.length=n) (hn:n<=100000):FC prog 2 157 [.sl 1 0 0 n,.str s] [(1,some (.one true (.cols n [.sc (.strs ps)])))] (a0g (.bool (decide (0<=idI ps s n))) [] 2):=by
 have c:=m0u n ps s hl hn;have c0:=c;let l:=[0,1];exact Wx func157
theorem f0W {P:Program} {f:FuncId} {fn:Func} (h:P.funcs[f]? =some fn) (hb:fn.body.isSome=true) (hn:(fn.name=="runtime.NumGoroutine")=false):d0C P f:=by
 obtain ⟨c,hc⟩:=s1q.1 hb;exact ⟨fn,c,h,hc,hn⟩
theorem f1Z (n:Nat) (l:List BA) (hn:n<4611686018427387904):FC prog 2 158 [.sl 1 0 0 n] [(1,some (.one false (.cols n [.sc (.strs l)])))] (a0g (.tup []) [(1,some (.one false (.cols n [.sc (.strs (sortS l))])))] 2):=
 f1M ⟨fun blk off cap ss W hH hblk hsz=>AnyM.slices_Sort_string Tryz.sortS blk off cap ss W hH hblk hsz,fun p cap W=>AnyM.slices_Sort_string_none Tryz.sortS p cap W⟩ (f0W func158 (by rfl) (by rfl)) n l hn
structure Bk where
 n:Nat
 ps:List BA
 m:Nat
 cs:List BA
 vs:List (List Int)
 bs:List Nat
 ck:Nat
abbrev bkM (ro:Bool) (b:Bk):Option HB:=some (.one ro (.obj (.map false false b.m [.strs b.cs] [.arrs 16 .i64 b.vs] b.bs b.ck)))
abbrev bkP (ro:Bool) (b:Bk):Option HB:=some (.one ro (.cols b.n [.sc (.strs b.ps)]))
abbrev bkC (ro:Bool) (hp hm n:Nat):Option HB:=some (.one ro (.cells [.sl hp 0 0 n,.map hm 0]))
def nwE (ps:List BA) (k:Nat):Int:=if nmB (ps.getD k ⟨#[]⟩)=false then 5 else if 0<=idI (ps.take k) (ps.getD k ⟨#[]⟩) k then 7 else 0
def nwK (ps:List BA):Nat->Int
 |0=>0
 |k+1=>if nwK ps k≠0 then nwK ps k else nwE ps k
theorem q0s {ps:List BA} {k:Nat} (h0:nwK ps k=0) (h1:nwE ps k≠0):∀n,k<n->nwK ps n=nwE ps k
 |0,h=>by omega
 |n+1,h=>by
  simp only [nwK];by_cases e:k=n
  .simp_all
  .rw [q0s h0 h1 n oM,if_pos h1]
def c0u (ps:List BA):Int:=if 16<ps.length then 3 else nwK ps ps.length
def nwB (ps:List BA):Bk:=⟨ps.length,sortS ps,0,[],[],[],0⟩
def y0P (ps:List BA):SV->a0k->Nat->Prop:=if c0u ps≠0 then a0g (.tup [.nptr,.i (c0u ps)]) [] 2 else a0g (.tup [.ptr 2 0 0 0,.i 0]) [(2,bkC false 3 4 ps.length),(3,bkP false (nwB ps)),(4,bkM false (nwB ps))] 5
theorem s0q {ps:List BA} {k:Nat} (hk:k<ps.length):ps.take (k+1)=ps.take k++ [ps.getD k ⟨#[]⟩]:=by
 simp_all
theorem k1A (ps:List BA) (n:Nat) (hl:ps.length=n) (hn:n<=100000):FC prog 2 103 [.sl 1 0 0 n] [(1,some (.one true (.cols n [.sc (.strs ps)])))] (y0P ps):=by
 unfold y0P c0u;by_cases h16:16<n
 .rw [hl,if_pos h16,if_pos (by simp)];let l:=[0,1];exact Wx func103
 rw [hl,if_neg h16];refine fEx func103 ?_;repeat' ((conv=>whnf);first|(apply bRx<;>intro h<;>try exact aX))
 refine b0g (fun k:Nat=>⟨[(4,.ptr 2 0 0 0),(13,.sl 1 0 0 n),(14,.i n),(15,.i k)],[(1,some (.one true (.cols n [.sc (.strs ps)]))),(2,bkC false 3 4 k),(3,some (.one false (.cols k [.sc (.strs (ps.take k))]))),(4,bkM false (nwB ps))],5⟩) (fun k=>k<=n/\nwK ps k=0) (fun k=>n-k) 0 [0,1,3,4,2] [.cell 3 0 [.sc (.strs [])]] wHx ⟨b1f _,rfl⟩ ?_;rintro k ⟨hk,h0⟩;by_cases hk2:k<n
 .have c1:=o0H (ps.getD k ⟨#[]⟩);have c2:=s0p k (ps.take k) (ps.getD k ⟨#[]⟩) (by simp_all) oM;have hE:nwE ps k=if nmB (ps.getD k ⟨#[]⟩)=false then 5 else if 0<=idI (ps.take k) (ps.getD k ⟨#[]⟩) k then 7 else 0:=rfl
  have hst:=fun h=>q0s h0 h n hk2
  have hs0:nwE ps k=0->nwK ps (k+1)=0:=fun h=>by grind [nwK]
  have htk:=s0q (ps:=ps) (k:=k) oM;cases hnm:nmB (ps.getD k ⟨#[]⟩) with
  |false=>
   rw [hnm] at c1;rw [hnm,if_pos rfl] at hE;rw [hst oM,hE,if_pos (by simp)];let l:=[0,3];let R:=[0,1];exact Vx
  |true=>
   rw [hnm] at c1;rw [hnm,if_neg (by simp)] at hE;by_cases hin:0<=idI (ps.take k) (ps.getD k ⟨#[]⟩) k
   .rw [if_pos hin] at hE;rw [hst oM,hE,if_pos (by simp)];let l:=[0,3];let R:=[0,1];exact Vx
   .rw [if_neg hin] at hE;have hr:(some (HB.one false (.cols (k+1) [.sc (.strs (ps.take k++ [ps.getD k ⟨#[]⟩]))])):Option HB)=some (.one false (.cols (k+1) [.sc (.strs (ps.take (k+1)))])):=by grind
    repeat' ((conv=>whnf);first|refine cPx c1 ?_|refine cOx (l:= [0,3]) c2 ?_|refine a0a ?_|(apply bRx<;>intro h)|exact ⟨k+1,[0,1,2,6,4],[],⟨hk2,hs0 hE⟩,(show n-(k+1)<n-k by omega),⟨rfl,⟨rfl,rfl,rfl,sI (a0j oM),trivial⟩,⟨rfl,rfl,hr,rX⟩⟩⟩|exact aX)
 .have e:k=n:=oM
  subst e;have eT:ps.take k=ps:=by grind
  rw [eT,if_neg oM];have c3:=f1Z k ps oM;repeat' ((conv=>whnf);first|refine cOx (l:= [0,3]) c3 ?_|(apply bRx<;>intro h)|exact a0A (l:= [0,1,2,3,4]) rfl rfl ⟨rfl,by rw [<-hl];rfl,rfl,trivial⟩ (a0b (a0b (a0b a0c)))|exact aX)
abbrev z16:List Int:=List.replicate 16 0
abbrev Bk.ix (b:Bk) (c:BA):Nat:=a0q b.cs c
abbrev Bk.row (b:Bk) (c:BA):List Int:=b.vs.getD (a0q b.cs c) z16
abbrev bkH (b:Bk):a0k:= [(1,bkC true 2 3 b.n),(2,bkP true b),(3,bkM false b)]
abbrev bkR (b:Bk):a0k:= [(1,bkC true 2 3 b.n),(2,bkP true b),(3,bkM true b)]
def Bk.put (b:Bk) (c:BA) (r:List Int):Bk:=
 ⟨b.n,b.ps,if a0q b.cs c<b.m then b.m else b.m+1,b0j (a0q b.cs c) c b.cs,b0j (a0q b.cs c) r b.vs,if a0q b.cs c<b.m then b.bs else b.bs++ [b.ck],if a0q b.cs c<b.m then b.ck else b.ck+1⟩
def Bk.del (b:Bk) (c:BA):Bk:=
 ⟨b.n,b.ps,if a0q b.cs c<b.m then b.m-1 else b.m,b.cs.eraseIdx (a0q b.cs c),b.vs.eraseIdx (a0q b.cs c),b.bs.eraseIdx (a0q b.cs c),b.ck⟩
structure Bk.Ok (b:Bk):Prop where
 n:b.n<=16
 ps:b.ps.length=b.n
 len:∀i,(b.vs.getD i z16).length=16
 bd:∀i j,-4503599627370496<=(b.vs.getD i z16).getD j 0/\(b.vs.getD i z16).getD j 0<=4503599627370496
def m0v (x:Int):Bool:=decide (-4503599627370496<=x)&&decide (x<=4503599627370496)
theorem s0r {x:Int}:m0v x=true↔-4503599627370496<=x/\x<=4503599627370496:=by unfold m0v;simp
theorem i1G {x:Int}:m0v x=false↔¬(-4503599627370496<=x/\x<=4503599627370496):=by rw [<-s0r];simp
theorem j0K (x:Int):a0K prog 363 [.i x] (.bool (m0v x)):=by
 by_cases h: -4503599627370496<=x/\x<=4503599627370496
 .rw [s0r.2 h];refine fEx func363 ?_;repeat' ((conv=>whnf);first|exact a0e rfl|(simp_all))
 .rw [i1G.2 h];refine fEx func363 ?_;repeat' (first|(apply bRx<;>intro h)|(refine a0e (congrArg SV.bool ?_);simp_all))
abbrev i0I (r:List Int) (F T:Nat) (a:Int):List Int:=(r.set F (r.getD F 0-a)).set T (r.getD T 0+a)
def mvE (b:Bk) (f t c:BA) (a:Int):Int:=
 if idI b.ps f b.n<0\/idI b.ps t b.n<0 then 6
 else if idI b.ps f b.n=idI b.ps t b.n then 4
 else if f0k a c≠0 then f0k a c
 else if a<0 then 4
 else if m0v ((b.row c).getD (a0q b.ps f) 0-a)=true/\m0v ((b.row c).getD (a0q b.ps t) 0+a)=true then 0 else 4
def Bk.mv1 (b:Bk) (c:BA) (r:List Int):Bk:=if r=z16 then (b.put c r).del c else b.put c r
def Bk.mv (b:Bk) (f t c:BA) (a:Int):Bk:=if mvE b f t c a=0 then b.mv1 c (i0I (b.row c) (a0q b.ps f) (a0q b.ps t) a) else b
theorem k0u {b:Bk} {f t c:BA} {a:Int} (h:mvE b f t c a≠0):b.mv f t c a=b:=if_neg h
theorem k0v {ps:List BA} {s:BA} {n:Nat} (h:a0q ps s<n):idI ps s n=(a0q ps s:Int):=if_pos h
theorem i0J {ps:List BA} {s:BA} {n:Nat} (h:¬a0q ps s<n):idI ps s n= -1:=if_neg h
theorem g1a (b:Bk) (hb:b.Ok) (f t c:BA) (a:Int):FC prog 4 357 [.ptr 1 0 0 0,.str f,.str t,.agg [.i a,.str c]] (bkH b) (a0g (.i (mvE b f t c a)) [(3,bkM false (b.mv f t c a))] 4):=by
 have hn:=hb.n;have c1:=m0u b.n b.ps f hb.ps oM;have c2:=m0u b.n b.ps t hb.ps oM;have c3:=m0q a c;by_cases h1:a0q b.ps f<b.n
 case neg=>
  have e:mvE b f t c a=6:=by unfold mvE;rw [i0J h1,if_pos (Or.inl dC)]
  rw [k0u (by rw [e];decide),e];rw [i0J h1] at c1;let l:=[0,2];let R:=[0,1,2,3];exact Wx func357
 by_cases h2:a0q b.ps t<b.n
 case neg=>
  have e:mvE b f t c a=6:=by unfold mvE;rw [i0J h2,if_pos (Or.inr dC)]
  rw [k0u (by rw [e];decide),e];rw [i0J h2] at c2;let l:=[0,2];let R:=[0,1,2,3];exact Wx func357
 have e0:mvE b f t c a=if a0q b.ps f=a0q b.ps t then 4 else if f0k a c≠0 then f0k a c else if a<0 then 4 else if m0v ((b.row c).getD (a0q b.ps f) 0-a)=true/\m0v ((b.row c).getD (a0q b.ps t) 0+a)=true then 0 else 4:=by
  unfold mvE;rw [k0v h1,k0v h2,if_neg oM];by_cases q:a0q b.ps f=a0q b.ps t
  .rw [if_pos q,if_pos oM]
  .rw [if_neg q,if_neg oM]
 rw [k0v h1] at c1;rw [k0v h2] at c2;by_cases h3:a0q b.ps f=a0q b.ps t
 .rw [if_pos h3] at e0;rw [k0u (by rw [e0];decide),e0];let l:=[0,2];let R:=[0,1,2,3];exact Wx func357
 rw [if_neg h3] at e0;by_cases h4:f0k a c=0
 case neg=>
  rw [if_pos h4] at e0;rw [k0u (by rw [e0];exact h4),e0];let l:=[0,2];let R:=[0,1,2,3];exact Wx func357
 rw [if_neg (by simpa using h4)] at e0;rw [h4] at c3;have ham:=q0r a c;rw [h4] at ham;have hlen:=hb.len (a0q b.cs c);have hbd:=hb.bd (a0q b.cs c);have hF: -4503599627370496<=(b.row c).getD (a0q b.ps f) 0/\(b.row c).getD (a0q b.ps f) 0<=4503599627370496:=hbd (a0q b.ps f);have hT: -4503599627370496<=(b.row c).getD (a0q b.ps t) 0/\(b.row c).getD (a0q b.ps t) 0<=4503599627370496:=hbd (a0q b.ps t);by_cases h5:a<0
 .rw [if_pos h5] at e0;rw [k0u (by rw [e0];decide),e0];let l:=[0,2];let R:=[0,1,2,3];exact Wx func357
 rw [if_neg h5] at e0;have g1:i64.wrap ((b.row c).getD (a0q b.ps f) 0-a)=(b.row c).getD (a0q b.ps f) 0-a:=a0l oM oM;have g2:((b.row c).set (a0q b.ps f) ((b.row c).getD (a0q b.ps f) 0-a)).getD (a0q b.ps t) 0=(b.row c).getD (a0q b.ps t) 0:=by
  rw [List.getD,s1W h3];rfl
 have g3:i64.wrap ((b.row c).getD (a0q b.ps t) 0+a)=(b.row c).getD (a0q b.ps t) 0+a:=a0l oM oM;have g4:(i0I (b.row c) (a0q b.ps f) (a0q b.ps t) a).getD (a0q b.ps f) 0=(b.row c).getD (a0q b.ps f) 0-a:=by
  unfold i0I;rw [List.getD,s1W (fun e=>h3 e.symm),s1K (by rw [hlen];omega)];rfl
 have g5:(i0I (b.row c) (a0q b.ps f) (a0q b.ps t) a).getD (a0q b.ps t) 0=(b.row c).getD (a0q b.ps t) 0+a:=by
  unfold i0I;rw [List.getD,s1K (by rw [s1a,hlen];omega)];rfl
 by_cases h6:m0v ((b.row c).getD (a0q b.ps f) 0-a)=true/\m0v ((b.row c).getD (a0q b.ps t) 0+a)=true
 case neg=>
  rw [if_neg h6] at e0;rw [k0u (by rw [e0];decide),e0];refine fEx func357 ?_;repeat' ((conv=>whnf);first|refine cOx (l:= [0,2]) c1 ?_|refine cOx (l:= [0,2]) c2 ?_|refine cPx c3 ?_|refine cPx (j0K _) ?_|refine a0a ?_|(apply bRx<;>intro h<;>try exact aX))
  all_goals (conv=>whnf)
  all_goals (try simp only [c0T,u0f,g1,g2,g3,g4,g5] at*)
  all_goals first
   |exact rOx [0,1,2,3] (a0b a0c)
   |exact aX
   |(exfalso;exact h6 ⟨by assumption,by assumption⟩)
 rw [if_pos h6] at e0;have e1:b.mv f t c a=b.mv1 c (i0I (b.row c) (a0q b.ps f) (a0q b.ps t) a):=by unfold Bk.mv;rw [if_pos e0]
 rw [e1,e0];have h61:=h6.1;have h62:=h6.2;by_cases h7:i0I (b.row c) (a0q b.ps f) (a0q b.ps t) a=z16
 .unfold Bk.mv1;rw [if_pos h7];refine fEx func357 ?_;repeat' ((conv=>whnf);first|refine cOx (l:= [0,2]) c1 ?_|refine cOx (l:= [0,2]) c2 ?_|refine cPx c3 ?_|refine cPx (j0K _) ?_|refine a0a ?_|(apply bRx<;>intro h<;>try exact aX))
  all_goals (conv=>whnf)
  all_goals (try simp only [c0T,u0f,g1,g2,g3,g4,g5] at*)
  all_goals first
   |exact rOx [0,1,2,3] (a0b a0c)
   |exact aX
   |(exfalso;exact bnf h61 (by assumption))
   |(exfalso;exact bnf h62 (by assumption))
   |contradiction
 .unfold Bk.mv1;rw [if_neg h7];refine fEx func357 ?_;repeat' ((conv=>whnf);first|refine cOx (l:= [0,2]) c1 ?_|refine cOx (l:= [0,2]) c2 ?_|refine cPx c3 ?_|refine cPx (j0K _) ?_|refine a0a ?_|(apply bRx<;>intro h<;>try exact aX))
  all_goals (conv=>whnf)
  all_goals (try simp only [c0T,u0f,g1,g2,g3,g4,g5] at*)
  all_goals first
   |exact rOx [0,1,2,3] (a0b a0c)
   |exact aX
   |(exfalso;exact bnf h61 (by assumption))
   |(exfalso;exact bnf h62 (by assumption))
   |contradiction
def isD (d:Int):Bool:=decide (0<=d)&&decide (d<=99999)
theorem g0e {d:Int}:isD d=true↔0<=d/\d<=99999:=by unfold isD;simp
theorem i1H {d:Int}:isD d=false↔d<0\/99999<d:=by
 grind [isD]
theorem e0L (d:Int):a0K prog 102 [.i d] (.bool (isD d)):=by
 unfold isD;by_cases h1:0<=d<;>by_cases h2:d<=99999;all_goals refine fEx func102 ?_
 all_goals repeat' (first|(apply bRx<;>intro h)|exact a0e (congrArg SV.bool (by simp_all)))
def wkI (d:Int):Int:=if isD d=true then (d+3)%7 else-1
theorem k0P {a b:Int} (h:0<=a):a.tmod b=a%b:=by grind
theorem w0B {a b:Int} (h:0<=a):a.tdiv b=a/b:=by grind
theorem u0w (d:Int):a0K prog 327 [.i d] (.i (wkI d)):=by
 have c:=e0L d;unfold wkI;cases h:isD d with
 |true=>
  have hd:=g0e.1 h;rw [h] at c;refine fEx func327 ?_;repeat' ((conv=>whnf);first|refine cPx c ?_|refine a0a ?_|exact a0e (congrArg (SV.int .i64) (by grind [a0l])))
 |false=>
  rw [h] at c;have c0:=c;exact Wx func327
def okT (t:Int):Bool:=decide (0<=t)&&(decide (t<=1099511627776)&&isD (t/86400))
def h0R (t:Int):Int:=if okT t=true then t/86400 else-1
def b1B (t:Int):Int:=if okT t=true then t%86400 else-1
theorem f0l {t:Int}:okT t=true↔0<=t/\t<=1099511627776/\isD (t/86400)=true:=by unfold okT;simp
theorem b1C (t:Int):a0K prog 351 [.i t] (.tup [.i (h0R t),.i (b1B t)]):=by
 have c:=e0L (t/86400);unfold h0R b1B;by_cases h1:0<=t
 .by_cases h2:t<=1099511627776
  .have e1:i64.wrap (t.tdiv 86400)=t/86400:=by rw [w0B h1,a0l oM oM]
   have e2:t.tmod 86400=t%86400:=k0P h1;cases h3:isD (t/86400) with
   |true=>
    have hk:okT t=true:=f0l.2 ⟨h1,h2,h3⟩;rw [h3] at c;rw [if_pos hk,if_pos hk];refine fEx func351 ?_;repeat' ((conv=>whnf);first|(simp only [e1])|refine cPx c ?_|refine a0a ?_|(apply bRx<;>intro h<;>try exact aX))
    all_goals (conv=>whnf)
    all_goals (try simp only [e2])
    all_goals first
     |exact a0e rfl
     |exact aX
   |false=>
    have hk:¬okT t=true:=fun q=>by have:=(f0l.1 q).2.2;rw [h3] at this;cases this
    rw [h3] at c;rw [if_neg hk,if_neg hk];have c0:=c;have q0:=e1;exact Wx func351
  .have hk:¬okT t=true:=fun q=>h2 (f0l.1 q).2.1
   rw [if_neg hk,if_neg hk];exact Wx func351
 .have hk:¬okT t=true:=fun q=>h1 (f0l.1 q).1
  rw [if_neg hk,if_neg hk];exact Wx func351
abbrev tmM (ro:Bool) (n:Nat) (ks:List Int):Option HB:=some (.one ro (.obj (.map false false n [.ints .i64 ks] [.sc (.bools (List.replicate n true))] (List.range n) n)))
abbrev b1D (ro:Bool) (h:Nat):Option HB:=some (.one ro (.cells [.map h 0]))
theorem w0C {n:Nat} {ks:List Int} (hn:ks.length=n) (d:Int):(List.replicate n true).getD (a0S ks d) false=decide (d∈ks):=by
 by_cases h:d∈ks
 .rw [decide_eq_true h,List.getD,t1a,if_pos (by have:=b0o.2 h;omega)];rfl
 .rw [decide_eq_false h,List.getD,t1a,if_neg (fun q=>h (b0o.1 oM))];rfl
def k0Q (hs:List Int) (d:Int):Bool:=isD d&&(decide ((d+3)%7<5)&& !decide (d∈hs))
theorem g0f (n:Nat) (ks:List Int) (hn:ks.length=n) (d:Int):FC prog 3 314 [.ptr 1 0 0 0,.i d] [(1,b1D true 2),(2,tmM true n ks)] (a0g (.bool (k0Q ks d)) [] 3):=by
 have c1:=e0L d;have c2:=u0w d;have hg:=w0C hn d;unfold k0Q;cases h:isD d with
 |false=>
  rw [h] at c1;rw [t1L];let l:=[0,1,2];exact Wx func314
 |true=>
  have hd:=g0e.1 h;unfold wkI at c2;rw [if_pos h] at c2;rw [h] at c1;rw [s1S];by_cases q:(d+3)%7<5
  .rw [decide_eq_true q,s1S];refine fEx func314 ?_;repeat' ((conv=>whnf);first|refine cPx c1 ?_|refine cPx c2 ?_|refine a0a ?_|(apply bRx<;>intro h<;>try exact aX))
   all_goals (conv=>whnf)
   all_goals (try simp only [hg] at*)
   all_goals first
    |exact rOx [0,1,2] a0c
    |exact aX
  .rw [decide_eq_false q,t1L];let l:=[0,1,2];exact Wx func314
def nxK (p:Int->Bool):Nat->Int->Int
 |0,_=> -1
 |k+1,d=>if p d=true then d else nxK p k (d+1)
def nxI (hs:List Int) (d:Int):Int:=nxK (k0Q hs) (100000-d).toNat d
def nxV (x:Int):SV:=if x<0 then .tup [.i 0,.i 4] else .tup [.i x,.i 0]
theorem b1E {hs:List Int} {d:Int} (h:k0Q hs d=true) (hd:d<=99999):nxI hs d=d:=by
 unfold nxI;obtain ⟨k,hk⟩:∃k,(100000-d).toNat=k+1:=⟨(99999-d).toNat,by omega⟩;rw [hk];exact if_pos h
theorem i1I {hs:List Int} {d:Int} (h:k0Q hs d=false) (hd:d<=99999):nxI hs d=nxI hs (d+1):=by
 unfold nxI;obtain ⟨k,hk⟩:∃k,(100000-d).toNat=k+1:=⟨(99999-d).toNat,by omega⟩;rw [hk,show (100000-(d+1)).toNat=k by omega];simp_all [nxK]
theorem q0t {hs:List Int} {d:Int} (hd:99999<d):nxI hs d= -1:=by
 unfold nxI;rw [show (100000-d).toNat=0 by omega];rfl
theorem g1b (n:Nat) (ks:List Int) (hn:ks.length=n) (d:Int):FC prog 3 361 [.ptr 1 0 0 0,.i d] [(1,b1D true 2),(2,tmM true n ks)] (a0g (if isD d=true then nxV (nxI ks d) else nxV (-1)) [] 3):=by
 have c1:=e0L d;cases h:isD d with
 |false=>
  rw [h] at c1;rw [if_neg (by simp)];let l:=[0,1,2];exact Wx func361
 |true=>
  have hd:=g0e.1 h;rw [h] at c1;rw [if_pos rfl];obtain ⟨a,ea⟩:=r1S hd.1;subst ea;generalize hX:nxI ks (a:Int)=X;refine fEx func361 ?_;repeat' ((conv=>whnf);first|refine cPx c1 ?_|refine a0a ?_|(apply bRx<;>intro h<;>try exact aX))
  all_goals (conv=>whnf)
  refine b0g (fun k:Nat=>⟨[(0,.ptr 1 0 0 0),(1,.i k)],[(1,b1D true 2),(2,tmM true n ks)],3⟩) (fun k=>k<=100000/\nxI ks (k:Int)=X) (fun k=>100000-k) a [0,1,2] [] wHx ⟨by omega,hX⟩ ?_;rintro k ⟨hk,hx⟩;have c:=g0f n ks hn k;by_cases hk2:k<=99999
  .cases hb:k0Q ks k with
   |true=>
    rw [b1E hb oM] at hx;subst hx;rw [hb] at c;unfold nxV;rw [if_neg oM];have c0:=c;let l:=[0,1,2];exact Vx
   |false=>
    rw [i1I hb oM] at hx;rw [hb] at c;repeat' ((conv=>whnf);first|refine cOx (l:= [0,1,2]) c ?_|refine a0a ?_|(apply bRx<;>intro h<;>try exact aX)|exact ⟨k+1,[0,1,2],[],⟨by omega,hx⟩,(show 100000-(k+1)<100000-k by omega),⟨rfl,⟨rfl,sI (a0j oM),trivial⟩,rX⟩⟩|exact aX)
  .rw [q0t oM] at hx;subst hx;let l:=[0,1,2];exact Vx
def ddL (l:List Int) (k:Nat):List Int:=(l.take k).foldl (fun s d=>if d∈s then s else s++ [d]) []
theorem w0D {l:List Int} {k:Nat} (h:k<l.length):ddL l (k+1)=if l.getD k 0∈ddL l k then ddL l k else ddL l k++ [l.getD k 0]:=by
 unfold ddL;rw [s1c,m0b h,List.foldl_append];simp_all
theorem u0x {l:List Int} {x:Int}:∀k,k<=l.length->(x∈ddL l k↔x∈l.take k)
 |0,_=>by rfl
 |k+1,h=>by
  rw [w0D h,s1c,m0b h];have ih:=u0x (l:=l) (x:=x) k oM;grind
def ddS (l:List Int):List Int:=ddL l l.length
theorem k1B {l:List Int} {x:Int}:x∈ddS l↔x∈l:=by simp_all [ddS,u0x]
theorem u0y (l:List Int) (d:Int):k0Q (ddS l) d=k0Q l d:=by
 grind [k0Q,k1B]
theorem i1J (l:List Int) (d:Int):nxI (ddS l) d=nxI l d:=by
 unfold nxI;rw [show k0Q (ddS l)=k0Q l from funext (u0y l)]
def e1T (l:List Int):Nat->Bool
 |0=>true
 |k+1=>e1T l k&&isD (l.getD k 0)
theorem g0g {l:List Int} {k:Nat} (h:isD (l.getD k 0)=false):∀n,k<n->e1T l n=false
 |0,q=>by omega
 |n+1,q=>by
  simp only [e1T];by_cases e:k=n
  .simp_all
  .rw [g0g h n oM,t1L]
def s0s (l:List Int) (n:Nat):Int:=if 400<n then 3 else if e1T l n=true then 0 else 4
def p1S (l:List Int) (n:Nat):SV->a0k->Nat->Prop:=if s0s l n=0 then a0g (.tup [.ptr 2 0 0 0,.i 0]) [(2,b1D false 3),(3,tmM false (ddS l).length (ddS l))] 4 else a0g (.tup [.nptr,.i (s0s l n)]) [] 2
theorem n1B {m:Nat} {s:List Int} (hm:s.length=m) (x:Int):(some (HB.one false (.obj (.map false false (if a0S s x<m then m else m+1) [.ints .i64 (b0j (a0S s x) x s)] [.sc (.bools (b0j (a0S s x) true (List.replicate m true)))] (if a0S s x<m then List.range m else List.range m++ [m]) (if a0S s x<m then m else m+1)))):Option HB)=tmM false (if x∈s then s else s++ [x]).length (if x∈s then s else s++ [x]):=by
 rw [q0e];by_cases h:x∈s
 .have hi:=b0o.2 h;simp_all [b0j]
 .have hi:¬a0S s x<s.length:=fun q=>h (b0o.1 q)
  unfold b0j;have e:List.replicate m true++ [true]=List.replicate (m+1) true:=List.replicate_succ'.symm;simp_all [t1U]
theorem b1F (l:List Int) (n:Nat) (hl:l.length=n):FC prog 2 59 [.sl 1 0 0 n] [(1,some (.one true (.cols n [.sc (.ints .i64 l)])))] (p1S l n):=by
 unfold p1S s0s;by_cases h4:400<n
 .rw [if_pos h4,if_neg dC];let l:=[0,1];exact Wx func59
 rw [if_neg h4];refine fEx func59 ?_;repeat' ((conv=>whnf);first|refine a0a ?_|(apply bRx<;>intro h<;>try exact aX))
 all_goals (conv=>whnf)
 all_goals first
  |exact aX
  |skip
 refine b0g (fun k:Nat=>⟨[(4,.ptr 3 0 0 0),(13,.sl 1 0 0 n),(14,.i n),(15,.i k)],[(1,some (.one true (.cols n [.sc (.ints .i64 l)]))),(2,tmM false (ddL l k).length (ddL l k)),(3,b1D false 2)],4⟩) (fun k=>k<=n/\e1T l k=true) (fun k=>n-k) 0 [0,1,2,3] [] wHx ⟨b1f _,rfl⟩ ?_;rintro k ⟨hk,hh⟩;by_cases hk2:k<n
 .have c:=e0L (l.getD k 0);have hs:=w0D (l:=l) (k:=k) oM;cases hb:isD (l.getD k 0) with
  |false=>
   rw [hb] at c;rw [if_neg (by rw [if_neg (by rw [g0g hb n hk2];simp)];decide),if_neg (by rw [g0g hb n hk2];simp)];have c0:=c;let l:=[0,1];exact Vx
  |true=>
   rw [hb] at c;have ht:=n1B (s:=ddL l k) rfl (l.getD k 0);rw [<-hs] at ht;have hh2:e1T l (k+1)=true:=by simp only [e1T,hh,hb,t1t]
   repeat' ((conv=>whnf);first|refine cPx c ?_|refine a0a ?_|(apply bRx<;>intro h<;>try exact aX))
   all_goals (conv=>whnf)
   all_goals (try simp only [c0T,u0f,q1j] at*)
   all_goals first
    |exact ⟨k+1,[0,1,2,3],[],⟨hk2,hh2⟩,(show n-(k+1)<n-k by omega),⟨rfl,⟨rfl,rfl,rfl,sI (a0j oM),trivial⟩,⟨rfl,ht,rX⟩⟩⟩
    |exact aX
 .have e:k=n:=oM
  subst e;rw [if_pos (by rw [if_pos hh])];unfold ddS;rw [hl];let l:=[0,1,3,2];exact Vx
def w0E (b:Bk) (p c:BA):Int:=if a0q b.ps p<b.n then (b.row c).getD (a0q b.ps p) 0 else 0
theorem k1C (n:Nat) (ks:List BA) (vs:List (List Int)) (bs:List Nat) (ck:Nat):FC prog 2 205 [.map 1 0] [] (a0g (.fn 240 [.ptr 2 0 0 0]) [(2,some (.one false (.cells [.map 1 0])))] 3):=by
 let l:=[0,1,2];exact Wx func205
theorem b1G {n:Nat} {ks:List BA} (vs:List (List Int)) (bs:List Nat) (ck:Nat) (hn:n<=100000) (hz:∀s∈ks,s.size<=9223372036854775807) (hnd:ks.Nodup):
  FC prog 3 204 [.fn 240 [.ptr 2 0 0 0]] [(1,some (.one true (.obj (.map false false n [.strs ks] [.arrs 16 .i64 vs] bs ck)))),(2,some (.one true (.cells [.map 1 0])))] (a0g (.sl 3 0 0 n) [(3,some (.one false (.cols n [.sc (.strs (sortS ks))])))] 4):=
 b1d (ρ:=Tryz.keys205_ren) (ρ':=Tryz.sorted_ren) rfl rfl rfl { Tryz.keys205 with} Tryz.sorted
  (fun m=>⟨fun blk off cap ss W hH hblk hsz=>callsIn_wide.2 (AnyM.slices_Sort_string Tryz.sortS blk off cap ss W hH hblk hsz),fun p cap W=>callsIn_wide.2 (AnyM.slices_Sort_string_none Tryz.sortS p cap W)⟩)
  (f0W func204 (by rfl) (by rfl)) (enters_of func158 (by rfl) rfl) (enters_of func240 (by rfl) rfl) Tryz.underlying9 hn hz hnd
structure Bk.Cok (b:Bk):Prop where
 m:b.m<=100000
 sz:∀s∈b.cs,s.size<=9223372036854775807
 nd:b.cs.Nodup
theorem n0R (b:Bk) (hc:b.Cok):FC prog 4 166 [.ptr 1 0 0 0] (bkR b) (a0g (.sl 4 0 0 b.m) [(4,some (.one false (.cols b.m [.sc (.strs (sortS b.cs))])))] 5):=by
 have c1:=k1C b.m b.cs b.vs b.bs b.ck;have c2:=b1G (n:=b.m) (ks:=b.cs) b.vs b.bs b.ck hc.m hc.sz hc.nd;let l2:=[0,3,4];let l:=[0,3];let R:=[0,1,2,3,5];exact Wx func166
structure Px where
 p:BA
 a:Int
 c:BA
def px0:Px:=⟨⟨#[]⟩,0,⟨#[]⟩⟩
structure PxC where
 p:List BA
 a:List Int
 c:List BA
def b0C (L:List Px):PxC:=⟨L.map Px.p,L.map Px.a,L.map Px.c⟩
theorem m0w (L:List Px) (x:Px):b0C (L++ [x])=⟨(b0C L).p++ [x.p],(b0C L).a++ [x.a],(b0C L).c++ [x.c]⟩:=by simp [b0C]
abbrev pxB (n:Nat) (q:PxC):Blk:= .cols n [.sc (.strs q.p),.sc (.ints .i64 q.a),.sc (.strs q.c)]
def liR (r:List Int) (ps:List BA) (c:BA):Nat->List Px
 |0=> []
 |i+1=>if r.getD i 0=0 then liR r ps c i else liR r ps c i++ [⟨ps.getD i ⟨#[]⟩,r.getD i 0,c⟩]
def liA (b:Bk) (cs:List BA):Nat->List Px
 |0=> []
 |k+1=>liA b cs k++liR (b.row (cs.getD k ⟨#[]⟩)) b.ps (cs.getD k ⟨#[]⟩) b.n
def Bk.list (b:Bk):List Px:=liA b (sortS b.cs) b.m
theorem u0z (r:List Int) (ps:List BA) (c:BA):∀i,(liR r ps c i).length<=i
 |0=>m0c _
 |i+1=>by
  have:=u0z r ps c i;grind [liR]
theorem b1H (b:Bk) (cs:List BA):∀k,(liA b cs k).length<=k*b.n
 |0=>by simp [liA]
 |k+1=>by
  have:=b1H b cs k;have h2:=u0z (b.row (cs.getD k ⟨#[]⟩)) b.ps (cs.getD k ⟨#[]⟩) b.n;simp only [liA];grind
theorem g1c (b:Bk) (hb:b.Ok) (hc:b.Cok):FC prog 4 112 [.ptr 1 0 0 0] (bkR b) (a0g (.sl 4 0 0 b.list.length) [(4,some (.one false (pxB b.list.length (b0C b.list))))] 5):=by
 have hn:=hb.n;have hm:=hc.m;have c1:=n0R b hc;refine fEx func112 ?_;repeat' ((conv=>whnf);first|refine cOx (l:= [0,1,2,3]) c1 ?_|refine a0a ?_|(apply bRx<;>intro h<;>try exact aX))
 all_goals (conv=>whnf)
 refine b0g (fun x:Nat×Nat×List Px=>⟨[(0,.ptr 1 0 0 0),(12,.sl 4 0 0 b.m),(13,.i b.m),(14,.i x.1),(3,.sl 5 0 0 x.2.1)],(4,some (.one false (.cols b.m [.sc (.strs (sortS b.cs))])))::(5,some (.one false (pxB x.2.1 (b0C x.2.2))))::bkR b,6⟩) (fun x=>x.1<=b.m/\x.2.2=liA b (sortS b.cs) x.1/\x.2.2.length=x.2.1) (fun x=>b.m-x.1) (0,0,[]) [0,1,2,3,4,5] [.slot 3 [.sc (.strs []),.sc (.ints .i64 []),.sc (.strs [])]] wHx ⟨b1f _,rfl,rfl⟩ ?_;rintro ⟨k,m,L⟩ ⟨hk,hL,hl⟩;dsimp only at hk hL hl;by_cases hk2:k<b.m
 .have hstep:liA b (sortS b.cs) (k+1)=L++liR (b.row ((sortS b.cs).getD k ⟨#[]⟩)) b.ps ((sortS b.cs).getD k ⟨#[]⟩) b.n:=by rw [hL];rfl
  repeat' ((conv=>whnf);first|refine a0a ?_|(apply bRx<;>intro h<;>try exact aX))
  all_goals (conv=>whnf)
  all_goals (try simp only [c0T] at*)
  all_goals first
   |exact aX
   |skip
  refine b0g (fun x:Nat×Nat×List Px=>⟨[(0,.ptr 1 0 0 0),(12,.sl 4 0 0 b.m),(13,.i b.m),(14,.i k),(3,.sl 5 0 0 x.2.1),(5,.str ((sortS b.cs).getD k ⟨#[]⟩)),(6,.ptr 6 0 0 0),(27,.sl 2 0 0 b.n),(28,.i b.n),(29,.i x.1)],(4,some (.one false (.cols b.m [.sc (.strs (sortS b.cs))])))::(5,some (.one false (pxB x.2.1 (b0C x.2.2))))::(6,some (.one false (.cols 16 [.sc (.ints .i64 (b.row ((sortS b.cs).getD k ⟨#[]⟩)))])))::bkR b,7⟩) (fun x=>x.1<=b.n/\x.2.2=L++liR (b.row ((sortS b.cs).getD k ⟨#[]⟩)) b.ps ((sortS b.cs).getD k ⟨#[]⟩) x.1/\x.2.2.length=x.2.1) (fun x=>b.n-x.1) (0,m,L) [0,1,2,3,4,5,6] [] wHx ⟨b1f _,(s1s L).symm,hl⟩ ?_;rintro ⟨i,m2,L2⟩ ⟨hi,hL2,hl2⟩;dsimp only at hi hL2 hl2;have hmb:m2<=1600016:=by
   have b1:=b1H b (sortS b.cs) k;have b2:=u0z (b.row ((sortS b.cs).getD k ⟨#[]⟩)) b.ps ((sortS b.cs).getD k ⟨#[]⟩) i;have b3:k*b.n<=100000*16:=Nat.mul_le_mul oM hn;rw [<-hl2,hL2,s0c,hL];omega
  by_cases hi2:i<b.n
  .by_cases hz:(b.row ((sortS b.cs).getD k ⟨#[]⟩)).getD i 0=0
   .have h3:L2=L++liR (b.row ((sortS b.cs).getD k ⟨#[]⟩)) b.ps ((sortS b.cs).getD k ⟨#[]⟩) (i+1):=by simp only [liR];rw [if_pos hz];exact hL2
    repeat' ((conv=>whnf);first|refine a0a ?_|(apply bRx<;>intro h<;>try exact aX))
    all_goals (conv=>whnf)
    all_goals (try simp only [c0T,u0f] at*)
    all_goals first
     |exact ⟨(i+1,m2,L2),xAg,[],⟨hi2,h3,hl2⟩,(show b.n-(i+1)<b.n-i by omega),⟨rfl,⟨rfl,rfl,rfl,rfl,rfl,rfl,rfl,rfl,rfl,sI (a0j oM),trivial⟩,rX⟩⟩
     |exact aX
     |contradiction
   .have h3:L2++ [⟨b.ps.getD i ⟨#[]⟩,(b.row ((sortS b.cs).getD k ⟨#[]⟩)).getD i 0,(sortS b.cs).getD k ⟨#[]⟩⟩]=L++liR (b.row ((sortS b.cs).getD k ⟨#[]⟩)) b.ps ((sortS b.cs).getD k ⟨#[]⟩) (i+1):=by simp only [liR];rw [if_neg hz,hL2,s1T]
    have h4:(L2++ [(⟨b.ps.getD i ⟨#[]⟩,(b.row ((sortS b.cs).getD k ⟨#[]⟩)).getD i 0,(sortS b.cs).getD k ⟨#[]⟩⟩:Px)]).length=m2+1:=by rw [s0c,hl2];rfl
    have h5:=m0w L2 ⟨b.ps.getD i ⟨#[]⟩,(b.row ((sortS b.cs).getD k ⟨#[]⟩)).getD i 0,(sortS b.cs).getD k ⟨#[]⟩⟩;have h6:(some (HB.one false (pxB (m2+1) ⟨(b0C L2).p++ [b.ps.getD i ⟨#[]⟩],(b0C L2).a++ [(b.row ((sortS b.cs).getD k ⟨#[]⟩)).getD i 0],(b0C L2).c++ [(sortS b.cs).getD k ⟨#[]⟩]⟩)):Option HB)=some (.one false (pxB (m2+1) (b0C (L2++ [⟨b.ps.getD i ⟨#[]⟩,(b.row ((sortS b.cs).getD k ⟨#[]⟩)).getD i 0,(sortS b.cs).getD k ⟨#[]⟩⟩])))):=by rw [h5]
    repeat' ((conv=>whnf);first|refine a0a ?_|(apply bRx<;>intro h<;>try exact aX))
    all_goals (conv=>whnf)
    all_goals (try simp only [c0T,u0f] at*)
    all_goals first
     |exact ⟨(i+1,m2+1,_),[0,1,2,3,4,8,6],[],⟨hi2,h3,h4⟩,(show b.n-(i+1)<b.n-i by omega),⟨rfl,⟨rfl,rfl,rfl,rfl,rfl,rfl,rfl,rfl,rfl,sI (a0j oM),trivial⟩,⟨rfl,h6,rX⟩⟩⟩
     |exact aX
     |contradiction
  .have ei:i=b.n:=oM
   subst ei;repeat' ((conv=>whnf);first|refine a0a ?_|(apply bRx<;>intro h<;>try exact aX))
   all_goals (conv=>whnf)
   all_goals (try simp only [c0T] at*)
   all_goals first
    |exact ⟨(k+1,m2,L2),xAh,[],⟨hk2,hL2.trans hstep.symm,hl2⟩,(show b.m-(k+1)<b.m-k by omega),⟨rfl,⟨rfl,rfl,rfl,sI (a0j oM),rX⟩,rX⟩⟩
    |exact aX
 .have e:k=b.m:=oM
  subst e;have e2:L=b.list:=hL;subst e2;rw [hl];let l:=[0,1,2,3,5];exact Vx
theorem m0x (l:List Int) (i k:Nat) (x:Int) (h:i<l.length):(l.set i x).getD k 0=if k=i then x else l.getD k 0:=by
 grind
def r1h (f t:BA) (n d:Int):Int:=
 if e0c f=false\/e0c t=false\/f=t then 11 else if n<1\/1099511627776<n\/d<1\/1099511627776<d then 4 else 0
attribute [irreducible] r1h
def i1K:List Int:= [1,10,100,1000,10000,100000,1000000,10000000,100000000,1000000000,10000000000,100000000000,1000000000000,10000000000000,100000000000000,1000000000000000,10000000000000000,100000000000000000,1000000000000000000,10000000000000000000]
theorem g1d:∀k,k<20->i1K.getD k 0=((10^k:Nat):Int):=by trivial
theorem h0y (u:Nat) (h1:1<=u) (hu:u<18446744073709551616):k0D prog glT 163 [.int .u64 u] (.i (b0z u)):=by
 have c1:=y0N u hu;have hb:=s0k (u:=u) hu;have c2:=n0Q (e0b u) hb;have hk:e0b u*78913/262144<20:=oM
 have hn:=f1W h1 hu;have hp:=g1d _ hk;refine fEx func163 ?_;generalize e0b u*78913/262144=k at*;repeat' ((conv=>whnf);first|refine cPx c1 ?_|refine cPx c2 ?_|refine cPx (y0O _) ?_|refine a0a ?_|(apply bRx<;>intro h<;>try exact aX))
 all_goals (conv=>whnf)
 all_goals refine a0e ?_
 all_goals simp only [c0g]
 all_goals refine congrArg (SV.int .i64) ?_
 have e:∀b:Bool,b=decide ((i1K.getD k 0)<=(u:Int))->i64.wrap ((k:Int)+if b=true then 1 else 0)=(b0z u:Int):=by
  intro b hb;subst hb;rw [hn,hp];by_cases h:10^k<=u
  .have h':((10^k:Nat):Int)<=(u:Int):=Int.ofNat_le.2 h;rw [if_pos h,decide_eq_true h',if_pos rfl,a0l oM oM];rfl
  .have h':¬((10^k:Nat):Int)<=(u:Int):=fun x=>h (Int.ofNat_le.1 x)
   rw [if_neg h,decide_eq_false h',if_neg (by simp),a0l oM oM];rfl
 exact e _ rfl
theorem b1I:∀n,n<100->(n<10->c0P (b0z n) n= [((48+n:Nat):Int)])/\(¬n<10->c0P (b0z n) n= [((48+n/10:Nat):Int),((48+n%10:Nat):Int)]):=by
 grind [b0z,c0P]
theorem i0K {s:BA} {a n:Nat} (h:a+n<=s.size) (l:List Int) (hl:l.length=n) (hg:∀i,i<n->a0d s ((a+i:Nat):Int)=l.getD i 0):s.extract a (a+n)=a0m l:=by
 have h1:s.data.toList.length=s.size:=by simp
 have:(s.extract a (a+n)).data.toList=(a0m l).data.toList:=by
  unfold a0m;simp only [s1U,s1m];apply s1P;intro i;by_cases hi:i<n
  .rw [r1T,if_pos oM,s1k,m0b oM];rw [f1Q,m0b oM];simp only [k1k];have hh:=hg i hi;unfold a0d at hh;rw [u0f,List.getD,m0b oM,List.getD,m0b oM] at hh;simp only [Option.getD_some] at hh;rw [<-hh,u0f];simp
  grind
 have e2:∀x y:BA,x.data.toList=y.data.toList->x=y:=by
  intro x y h;cases x;simp_all
 grind
theorem y0Q (n:Nat) (hn:n<100):a0K prog 162 [.i n] (.str (dec n)):=by
 obtain ⟨d1,d2⟩:=b1I n hn;refine fEx func162 ?_;repeat' ((conv=>whnf);first|(refine a0f ⟨by (try simp (disch:=omega) only [a0N]);omega,by (try simp (disch:=omega) only [a0N]);omega,n1y (n:=36) (by kernel_rfl) (by (try simp (disch:=omega) only [a0N]);omega)⟩ ?_)|(refine a0f ⟨by (try simp (disch:=omega) only [a0N]);omega,by (try simp (disch:=omega) only [a0N]);omega,n1y (n:=200) (by kernel_rfl) (by (try simp (disch:=omega) only [a0N]);omega)⟩ ?_)|refine a0a ?_|(apply bRx<;>intro h<;>try exact aX))
 all_goals (conv=>whnf)
 all_goals refine a0e ?_
 all_goals simp only [c0g]
 all_goals refine congrArg SV.str ?_
 all_goals unfold dec
 .rw [d1 oM,show (i64.wrap ((n:Int)+1)).toNat=n+1 from by (try simp (disch:=omega) only [a0N]);omega];refine i0K (n:=1) (by show n+1<=36;omega) _ rfl ?_;intro i hi;have e:i=0:=oM
  subst e;refine Eq.trans (q0n (n:=36) (f:=fun i=>if i<10 then 48+i else 87+i) (by kernel_rfl) (i:=n+0) oM) ?_;rw [if_pos oM];rfl
 .rw [d2 oM,show (i64.wrap ((n:Int)*2)).toNat=n*2 from by (try simp (disch:=omega) only [a0N]);omega,show (i64.wrap (i64.wrap ((n:Int)*2)+2)).toNat=n*2+2 from by (try simp (disch:=omega) only [a0N]);omega];refine i0K (n:=2) (by show n*2+2<=200;omega) _ rfl ?_;intro i hi;rcases (show i=0\/i=1 by omega) with rfl|rfl
  .rw [show ((n*2+0:Nat):Int)=(n:Int)*2 by omega,f0i (by kernel_rfl) oM oM];rfl
  .rw [show ((n*2+1:Nat):Int)=(n:Int)*2+1 by omega,i0E (by kernel_rfl) oM oM];rfl
set_option maxHeartbeats 2000000 in
theorem e0M (l:List Int) (N o n U:Nat) (hl:l.length=N) (hN:o+n<=N) (hN2:N<=1000) (hU:U<10^n) (hU2:U<18446744073709551616):
  FC prog 2 164 [.sl 1 0 o n,.int .u64 U] [(1,some (.one false (.cols N [.sc (.ints .u8 l)])))] (a0g (.tup []) [(1,some (.one false (.cols N [.sc (.ints .u8 (y0K l N o n U n))])))] 2):=by
 refine fEx func164 ?_
 (conv=>whnf)
 refine a0h (fun m:Nat=>⟨[(0,.sl 1 0 o n),(1,.int .u64 (U/10^m:Nat)),(4,.i (n-m:Nat))],[(1,some (.one false (.cols N [.sc (.ints .u8 (y0K l N o n U m))])))],2⟩) (fun m=>m<=n) (fun m=>n-m) 0 [0,1] [] ⟨rfl,⟨rfl,?_,rfl,trivial⟩,⟨?_,trivial⟩⟩ (by omega) ?_
 .simp only [Nat.pow_zero,Nat.div_one];rfl
 .rw [b1q hl];rfl
 intro m hm;have hu:U/10^m<=U:=t1h _ _;have hdm:U/10^m<10^(n-m):=by
  rw [t1R (Nat.pow_pos (by omega)),<-Nat.pow_add,show n-m+m=n from by omega];exact hU
 generalize hq:U/10^m=q at*;by_cases h8:8<=n-m
 .repeat' ((conv=>whnf);first|(refine a0f ⟨by (try simp (disch:=omega) only [a0N]);omega,n0N (n:=200) (by kernel_rfl) (by (try simp (disch:=omega) only [a0N]);omega)⟩ ?_)|(refine a0f ⟨by (try simp (disch:=omega) only [a0N]);omega,by (try simp (disch:=omega) only [a0N]);omega⟩ ?_)|(refine a0f (by (try simp (disch:=omega) only [a0N]);omega) ?_)|refine a0a ?_|(apply bRx<;>intro h<;>try exact aX))
  all_goals (conv=>whnf)
  refine ⟨m+8,[0,1],[],by omega,by omega,⟨rfl,⟨rfl,?_,?_,trivial⟩,⟨?_,trivial⟩⟩⟩
  .refine congrArg (fun z=>some (SV.int .u64 z)) ?_
   (try simp (disch:=omega) only [a0N])
   simp only [a0U,hq,Nat.reducePow];omega
  .refine congrArg (fun z=>some (SV.i z)) ?_
   (try simp (disch:=omega) only [a0N])
   omega
  .refine congrArg (fun z=>some (HB.one false (.cols N [.sc (.ints .u8 z)]))) ?_;rw [a0z (m:=m),a0z (m:=m+1),a0z (m:=m+2),a0z (m:=m+3),a0z (m:=m+4),a0z (m:=m+5),a0z (m:=m+6),a0z (m:=m+7)];all_goals first|omega|((try simp (disch:=omega) only [a0N]);omega)|((try simp (disch:=omega) only [a0N]);rw [i0E (by kernel_rfl) (by omega) (by omega)];simp only [a0U,hq,Nat.reducePow];omega)|((try simp (disch:=omega) only [a0N]);rw [f0i (by kernel_rfl) (by omega) (by omega)];simp only [a0U,hq,Nat.reducePow];omega)
 .have hk:n-m=0\/n-m=1\/n-m=2\/n-m=3\/n-m=4\/n-m=5\/n-m=6\/n-m=7:=by omega
  rcases hk with hk|hk|hk|hk|hk|hk|hk|hk
  .obtain rfl:n=m+0:=by omega
   have hk':q<10^0:=by simpa [hk] using hdm
   repeat' ((conv=>whnf);first|(refine a0f ⟨by (try simp (disch:=omega) only [a0N]);omega,n0N (n:=200) (by kernel_rfl) (by (try simp (disch:=omega) only [a0N]);omega)⟩ ?_)|(refine a0f ⟨by (try simp (disch:=omega) only [a0N]);omega,by (try simp (disch:=omega) only [a0N]);omega⟩ ?_)|(refine a0f (by (try simp (disch:=omega) only [a0N]);omega) ?_)|((refine f0E (fun h=> ?_) (fun h=> ?_))<;>try (exfalso;revert h;(try simp (disch:=omega) only [a0N]);omega))|refine a0a ?_|(apply bRx<;>intro h<;>try exact aX))
   all_goals (conv=>whnf)
   refine a0A (l:= [0,1]) rfl rfl ⟨?_,trivial⟩ (a0b a0c);refine congrArg (fun z=>some (HB.one false (.cols N [.sc (.ints .u8 z)]))) ?_;rfl
  .obtain rfl:n=m+1:=by omega
   have hk':q<10^1:=by simpa [hk] using hdm
   repeat' ((conv=>whnf);first|(refine a0f ⟨by (try simp (disch:=omega) only [a0N]);omega,n0N (n:=200) (by kernel_rfl) (by (try simp (disch:=omega) only [a0N]);omega)⟩ ?_)|(refine a0f ⟨by (try simp (disch:=omega) only [a0N]);omega,by (try simp (disch:=omega) only [a0N]);omega⟩ ?_)|(refine a0f (by (try simp (disch:=omega) only [a0N]);omega) ?_)|((refine f0E (fun h=> ?_) (fun h=> ?_))<;>try (exfalso;revert h;(try simp (disch:=omega) only [a0N]);omega))|refine a0a ?_|(apply bRx<;>intro h<;>try exact aX))
   all_goals (conv=>whnf)
   refine a0A (l:= [0,1]) rfl rfl ⟨?_,trivial⟩ (a0b a0c);refine congrArg (fun z=>some (HB.one false (.cols N [.sc (.ints .u8 z)]))) ?_;rw [a0z (m:=m)];all_goals first|omega|((try simp (disch:=omega) only [a0N]);omega)|((try simp (disch:=omega) only [a0N]);rw [i0E (by kernel_rfl) (by omega) (by omega)];simp only [a0U,hq,Nat.reducePow];omega)|((try simp (disch:=omega) only [a0N]);rw [f0i (by kernel_rfl) (by omega) (by omega)];simp only [a0U,hq,Nat.reducePow];omega)|((try simp (disch:=omega) only [a0N]);simp only [a0U,hq,Nat.reducePow];omega)
  .obtain rfl:n=m+2:=by omega
   have hk':q<10^2:=by simpa [hk] using hdm
   repeat' ((conv=>whnf);first|(refine a0f ⟨by (try simp (disch:=omega) only [a0N]);omega,n0N (n:=200) (by kernel_rfl) (by (try simp (disch:=omega) only [a0N]);omega)⟩ ?_)|(refine a0f ⟨by (try simp (disch:=omega) only [a0N]);omega,by (try simp (disch:=omega) only [a0N]);omega⟩ ?_)|(refine a0f (by (try simp (disch:=omega) only [a0N]);omega) ?_)|((refine f0E (fun h=> ?_) (fun h=> ?_))<;>try (exfalso;revert h;(try simp (disch:=omega) only [a0N]);omega))|refine a0a ?_|(apply bRx<;>intro h<;>try exact aX))
   all_goals (conv=>whnf)
   refine a0A (l:= [0,1]) rfl rfl ⟨?_,trivial⟩ (a0b a0c);refine congrArg (fun z=>some (HB.one false (.cols N [.sc (.ints .u8 z)]))) ?_;rw [a0z (m:=m),a0z (m:=m+1)];all_goals first|omega|((try simp (disch:=omega) only [a0N]);omega)|((try simp (disch:=omega) only [a0N]);rw [i0E (by kernel_rfl) (by omega) (by omega)];simp only [a0U,hq,Nat.reducePow];omega)|((try simp (disch:=omega) only [a0N]);rw [f0i (by kernel_rfl) (by omega) (by omega)];simp only [a0U,hq,Nat.reducePow];omega)|((try simp (disch:=omega) only [a0N]);simp only [a0U,hq,Nat.reducePow];omega)
  .obtain rfl:n=m+3:=by omega
   have hk':q<10^3:=by simpa [hk] using hdm
   repeat' ((conv=>whnf);first|(refine a0f ⟨by (try simp (disch:=omega) only [a0N]);omega,n0N (n:=200) (by kernel_rfl) (by (try simp (disch:=omega) only [a0N]);omega)⟩ ?_)|(refine a0f ⟨by (try simp (disch:=omega) only [a0N]);omega,by (try simp (disch:=omega) only [a0N]);omega⟩ ?_)|(refine a0f (by (try simp (disch:=omega) only [a0N]);omega) ?_)|((refine f0E (fun h=> ?_) (fun h=> ?_))<;>try (exfalso;revert h;(try simp (disch:=omega) only [a0N]);omega))|refine a0a ?_|(apply bRx<;>intro h<;>try exact aX))
   all_goals (conv=>whnf)
   refine a0A (l:= [0,1]) rfl rfl ⟨?_,trivial⟩ (a0b a0c);refine congrArg (fun z=>some (HB.one false (.cols N [.sc (.ints .u8 z)]))) ?_;rw [a0z (m:=m),a0z (m:=m+1),a0z (m:=m+2)];all_goals first|omega|((try simp (disch:=omega) only [a0N]);omega)|((try simp (disch:=omega) only [a0N]);rw [i0E (by kernel_rfl) (by omega) (by omega)];simp only [a0U,hq,Nat.reducePow];omega)|((try simp (disch:=omega) only [a0N]);rw [f0i (by kernel_rfl) (by omega) (by omega)];simp only [a0U,hq,Nat.reducePow];omega)|((try simp (disch:=omega) only [a0N]);simp only [a0U,hq,Nat.reducePow];omega)
  .obtain rfl:n=m+4:=by omega
   have hk':q<10^4:=by simpa [hk] using hdm
   repeat' ((conv=>whnf);first|(refine a0f ⟨by (try simp (disch:=omega) only [a0N]);omega,n0N (n:=200) (by kernel_rfl) (by (try simp (disch:=omega) only [a0N]);omega)⟩ ?_)|(refine a0f ⟨by (try simp (disch:=omega) only [a0N]);omega,by (try simp (disch:=omega) only [a0N]);omega⟩ ?_)|(refine a0f (by (try simp (disch:=omega) only [a0N]);omega) ?_)|((refine f0E (fun h=> ?_) (fun h=> ?_))<;>try (exfalso;revert h;(try simp (disch:=omega) only [a0N]);omega))|refine a0a ?_|(apply bRx<;>intro h<;>try exact aX))
   all_goals (conv=>whnf)
   refine a0A (l:= [0,1]) rfl rfl ⟨?_,trivial⟩ (a0b a0c);refine congrArg (fun z=>some (HB.one false (.cols N [.sc (.ints .u8 z)]))) ?_;rw [a0z (m:=m),a0z (m:=m+1),a0z (m:=m+2),a0z (m:=m+3)];all_goals first|omega|((try simp (disch:=omega) only [a0N]);omega)|((try simp (disch:=omega) only [a0N]);rw [i0E (by kernel_rfl) (by omega) (by omega)];simp only [a0U,hq,Nat.reducePow];omega)|((try simp (disch:=omega) only [a0N]);rw [f0i (by kernel_rfl) (by omega) (by omega)];simp only [a0U,hq,Nat.reducePow];omega)|((try simp (disch:=omega) only [a0N]);simp only [a0U,hq,Nat.reducePow];omega)
  .obtain rfl:n=m+5:=by omega
   have hk':q<10^5:=by simpa [hk] using hdm
   repeat' ((conv=>whnf);first|(refine a0f ⟨by (try simp (disch:=omega) only [a0N]);omega,n0N (n:=200) (by kernel_rfl) (by (try simp (disch:=omega) only [a0N]);omega)⟩ ?_)|(refine a0f ⟨by (try simp (disch:=omega) only [a0N]);omega,by (try simp (disch:=omega) only [a0N]);omega⟩ ?_)|(refine a0f (by (try simp (disch:=omega) only [a0N]);omega) ?_)|((refine f0E (fun h=> ?_) (fun h=> ?_))<;>try (exfalso;revert h;(try simp (disch:=omega) only [a0N]);omega))|refine a0a ?_|(apply bRx<;>intro h<;>try exact aX))
   all_goals (conv=>whnf)
   refine a0A (l:= [0,1]) rfl rfl ⟨?_,trivial⟩ (a0b a0c);refine congrArg (fun z=>some (HB.one false (.cols N [.sc (.ints .u8 z)]))) ?_;rw [a0z (m:=m),a0z (m:=m+1),a0z (m:=m+2),a0z (m:=m+3),a0z (m:=m+4)];all_goals first|omega|((try simp (disch:=omega) only [a0N]);omega)|((try simp (disch:=omega) only [a0N]);rw [i0E (by kernel_rfl) (by omega) (by omega)];simp only [a0U,hq,Nat.reducePow];omega)|((try simp (disch:=omega) only [a0N]);rw [f0i (by kernel_rfl) (by omega) (by omega)];simp only [a0U,hq,Nat.reducePow];omega)|((try simp (disch:=omega) only [a0N]);simp only [a0U,hq,Nat.reducePow];omega)
  .obtain rfl:n=m+6:=by omega
   have hk':q<10^6:=by simpa [hk] using hdm
   repeat' ((conv=>whnf);first|(refine a0f ⟨by (try simp (disch:=omega) only [a0N]);omega,n0N (n:=200) (by kernel_rfl) (by (try simp (disch:=omega) only [a0N]);omega)⟩ ?_)|(refine a0f ⟨by (try simp (disch:=omega) only [a0N]);omega,by (try simp (disch:=omega) only [a0N]);omega⟩ ?_)|(refine a0f (by (try simp (disch:=omega) only [a0N]);omega) ?_)|((refine f0E (fun h=> ?_) (fun h=> ?_))<;>try (exfalso;revert h;(try simp (disch:=omega) only [a0N]);omega))|refine a0a ?_|(apply bRx<;>intro h<;>try exact aX))
   all_goals (conv=>whnf)
   refine a0A (l:= [0,1]) rfl rfl ⟨?_,trivial⟩ (a0b a0c);refine congrArg (fun z=>some (HB.one false (.cols N [.sc (.ints .u8 z)]))) ?_;rw [a0z (m:=m),a0z (m:=m+1),a0z (m:=m+2),a0z (m:=m+3),a0z (m:=m+4),a0z (m:=m+5)];all_goals first|omega|((try simp (disch:=omega) only [a0N]);omega)|((try simp (disch:=omega) only [a0N]);rw [i0E (by kernel_rfl) (by omega) (by omega)];simp only [a0U,hq,Nat.reducePow];omega)|((try simp (disch:=omega) only [a0N]);rw [f0i (by kernel_rfl) (by omega) (by omega)];simp only [a0U,hq,Nat.reducePow];omega)|((try simp (disch:=omega) only [a0N]);simp only [a0U,hq,Nat.reducePow];omega)
  .obtain rfl:n=m+7:=by omega
   have hk':q<10^7:=by simpa [hk] using hdm
   repeat' ((conv=>whnf);first|(refine a0f ⟨by (try simp (disch:=omega) only [a0N]);omega,n0N (n:=200) (by kernel_rfl) (by (try simp (disch:=omega) only [a0N]);omega)⟩ ?_)|(refine a0f ⟨by (try simp (disch:=omega) only [a0N]);omega,by (try simp (disch:=omega) only [a0N]);omega⟩ ?_)|(refine a0f (by (try simp (disch:=omega) only [a0N]);omega) ?_)|((refine f0E (fun h=> ?_) (fun h=> ?_))<;>try (exfalso;revert h;(try simp (disch:=omega) only [a0N]);omega))|refine a0a ?_|(apply bRx<;>intro h<;>try exact aX))
   all_goals (conv=>whnf)
   refine a0A (l:= [0,1]) rfl rfl ⟨?_,trivial⟩ (a0b a0c);refine congrArg (fun z=>some (HB.one false (.cols N [.sc (.ints .u8 z)]))) ?_;rw [a0z (m:=m),a0z (m:=m+1),a0z (m:=m+2),a0z (m:=m+3),a0z (m:=m+4),a0z (m:=m+5),a0z (m:=m+6)];all_goals first|omega|((try simp (disch:=omega) only [a0N]);omega)|((try simp (disch:=omega) only [a0N]);rw [i0E (by kernel_rfl) (by omega) (by omega)];simp only [a0U,hq,Nat.reducePow];omega)|((try simp (disch:=omega) only [a0N]);rw [f0i (by kernel_rfl) (by omega) (by omega)];simp only [a0U,hq,Nat.reducePow];omega)|((try simp (disch:=omega) only [a0N]);simp only [a0U,hq,Nat.reducePow];omega)
theorem m0y {u:Nat} (h:u<18446744073709551616):b0z u<=20:=by
 rcases i1B 20 (b0z u) with h1|h1
 .have hu:1<=u:=by
   all_goals grind [b0z]
  have a:=u0o u hu;have:10^20<=10^(b0z u-1):=s1V oM oM;omega
 omega
theorem g0h (i:Int) (h1: -9223372036854775808<=i) (h2:i<=9223372036854775807):k0D prog glT 111 [.i i,.i 10] (.str (b0i i)):=by
 refine fEx func111 ?_;by_cases hs:0<=i/\i<100
 .have c:=y0Q i.toNat oM;rw [Int.toNat_of_nonneg hs.1] at c;repeat' ((conv=>whnf);first|refine cPx c ?_|refine a0a ?_|(apply bRx<;>intro h<;>try exact aX))
  all_goals (conv=>whnf)
  all_goals refine a0e ?_
  unfold b0i;rw [if_neg oM];rfl
 .by_cases hi:i<0
  .have e:u64.wrap (0-u64.wrap i)=(i.natAbs:Int):=by
    simp only [IntKind.wrap,IntKind.bits,IntKind.signed];simp;omega
   have hb:i.natAbs<18446744073709551616:=oM
   have hn:=m0y hb;have hp:=f0h i.natAbs;have c2:=h0y i.natAbs oM hb;rw [<-e] at c2;have en:(i64.wrap (1+(b0z i.natAbs:Int))).toNat=1+b0z i.natAbs:=by (try simp (disch:=omega) only [a0N]);omega
   have en':(i64.wrap (1+(b0z i.natAbs:Int))).toNat-Int.toNat 1=b0z i.natAbs:=by rw [en];simp
   have c3:=e0M (List.replicate 24 0) 24 (Int.toNat 1) ((i64.wrap (1+(b0z i.natAbs:Int))).toNat-Int.toNat 1) i.natAbs rfl (by rw [en'];show 1+_<=24;omega) oM (by rw [en'];exact g0b _) hb;rw [<-e] at c3;repeat' ((conv=>whnf);first|refine cGx c2 ?_|refine cOx (l:= [0,1]) c3 ?_|(refine a0f ⟨by exact oN,by exact oN,by exact oN⟩ ?_)|(refine a0f (by exact oN) ?_)|refine a0a ?_|(apply bRx<;>intro h<;>try exact aX))
   all_goals (conv=>whnf)
   all_goals refine a0e ?_
   unfold b0i;rw [if_pos hi];refine congrArg SV.str (congrArg a0m ?_);rw [en',en];refine Eq.trans (f1X (n:=b0z i.natAbs) (by rw [m0m];omega)) ?_;rw [show Int.toNat 1=1 from rfl,w0w oM]
  .have e:u64.wrap i=(i.toNat:Int):=by (try simp (disch:=omega) only [a0N]);omega
   have hb:i.toNat<18446744073709551616:=oM
   have hn:=m0y hb;have hp:=f0h i.toNat;have c2:=h0y i.toNat oM hb;rw [<-e] at c2;have en:(i64.wrap (1+(b0z i.toNat:Int))).toNat=1+b0z i.toNat:=by (try simp (disch:=omega) only [a0N]);omega
   have en':(i64.wrap (1+(b0z i.toNat:Int))).toNat-Int.toNat 1=b0z i.toNat:=by rw [en];simp
   have c3:=e0M (List.replicate 24 0) 24 (Int.toNat 1) ((i64.wrap (1+(b0z i.toNat:Int))).toNat-Int.toNat 1) i.toNat rfl (by rw [en'];show 1+_<=24;omega) oM (by rw [en'];exact g0b _) hb;rw [<-e] at c3;repeat' ((conv=>whnf);first|refine cGx c2 ?_|refine cOx (l:= [0,1]) c3 ?_|(refine a0f ⟨by exact oN,by exact oN,by exact oN⟩ ?_)|(refine a0f (by exact oN) ?_)|refine a0a ?_|(apply bRx<;>intro h<;>try exact aX))
   all_goals (conv=>whnf)
   all_goals refine a0e ?_
   unfold b0i dec;rw [if_neg hi];refine congrArg SV.str (congrArg a0m ?_);rw [en',show Int.toNat 1=1 from rfl,w0w oM]
theorem b0Y (i:Int) (h1: -9223372036854775808<=i) (h2:i<=9223372036854775807):k0D prog glT 66 [.i i,.i 10] (.str (b0i i)):=by
 have c:=g0h i h1 h2;have c0:=c;exact Wx func66
theorem a0B (i:Int) (h1: -9223372036854775808<=i) (h2:i<=9223372036854775807):(b0i i).size<=21:=by
 grind [b0i,dec,a0m,ByteArray.size,m0y,a0H]
structure Rt where
 f:BA
 t:BA
 n:Int
 d:Int
def Rt.z:Rt:=⟨⟨#[]⟩,⟨#[]⟩,0,0⟩
def Rt.sv (r:Rt):SV:= .agg [.str r.f,.str r.t,.i r.n,.i r.d]
structure RL where
 f:List BA
 t:List BA
 n:List Int
 d:List Int
 l:Nat
def RL.at (q:RL) (i:Nat):Rt:=⟨q.f.getD i ⟨#[]⟩,q.t.getD i ⟨#[]⟩,q.n.getD i 0,q.d.getD i 0⟩
def RL.H (q:RL):a0k:= [(0,some (GB glT)),(1,some (.one true (.cols q.l [.sc (.strs q.f),.sc (.strs q.t),.sc (.ints .i64 q.n),.sc (.ints .i64 q.d)])))]
def RL.fits (q:RL) (f t:BA) (i:Nat):Prop:=(q.at i).f=f/\(q.at i).t=t/\r1h (q.at i).f (q.at i).t (q.at i).n (q.at i).d=0
instance (q:RL) (f t:BA) (i:Nat):Decidable (q.fits f t i):=by unfold RL.fits;infer_instance
theorem m0z (j:Nat):z16.getD j 0=0:=by
 grind
def q1p:BA:=⟨#[69,85,82]⟩
def r1i:BA:=⟨#[85,83,68]⟩
def p3:List BA:= [⟨#[97]⟩,⟨#[98]⟩,⟨#[99]⟩]
def k0:Bk:=⟨3,p3,0,[],[],[],0⟩
def k1:Bk:=⟨3,p3,1,[q1p],[[-100,100,0,0,0,0,0,0,0,0,0,0,0,0,0,0]],[0],1⟩
def k2:Bk:=⟨3,p3,1,[q1p],[[-100,70,30,0,0,0,0,0,0,0,0,0,0,0,0,0]],[0],1⟩
def q0:RL:=⟨[q1p],[r1i],[11],[10],1⟩
theorem g1e (s:BA):sortS [s]= [s]:=w0z (List.Perm.refl _) (t1s _ _)
end
end Go.Proofs.YtmnjebhdclmcfaaGreatDoor
namespace Go.Sy
open Go.RowKit
theorem sidx_le (l:List BA) (s:BA):a0q l s<=l.length:=by
 induction l with
 |nil=>simp [a0q]
 |cons x l ih=>
  grind [a0q]
theorem sidx_lt {l:List BA} {s:BA}:a0q l s<l.length↔s∈l:=by
 induction l with
 |nil=>simp
 |cons x l ih=>
  grind [a0q,seq]
theorem sidx_get {l:List BA} {s:BA} (h:a0q l s<l.length):l[a0q l s]? =some s:=by
 induction l with
 |nil=>trivial
 |cons x l ih=>
  simp only [a0q,seq] at h⊢;grind
theorem sidx_of_get {l:List BA} (hd:l.Nodup) {i:Nat} {s:BA} (h:l[i]? =some s):a0q l s=i:=by
 have hm:s∈l:=s1g.2 ⟨i,h⟩;have h2:=sidx_get (sidx_lt.2 hm);obtain ⟨_,e1⟩:=s1I.1 h;obtain ⟨_,e2⟩:=s1I.1 h2;exact (u1I hd).1 (e2.trans e1.symm)
theorem g0i {l:List BA} {s:BA}:b0j (a0q l s) s l=if a0q l s<l.length then l else l++ [s]:=by
 unfold b0j;split
 .rename_i h;have:=sidx_get h;refine s1P fun i=> ?_
  grind
 .rfl
end Go.Sy
namespace Go.Proofs.YtmnjebhdclmcfaaGreatDoor
open Go.RowKit Go.Sy
section
structure BkC (b:Bk):Prop where
 cl:b.cs.length=b.m
 vl:b.vs.length=b.m
 nd:b.cs.Nodup
theorem m0A {b:Bk} (h:BkC b) {c:BA} {j:Nat} (hj:b.cs[j]? =some c):b.row c=b.vs.getD j z16:=by
 unfold Bk.row;rw [Go.Sy.sidx_of_get h.nd hj]
theorem o0J {b:Bk} (h:BkC b) {c:BA} (hc:¬c∈b.cs):b.row c=z16:=by
 unfold Bk.row;have:¬a0q b.cs c<b.cs.length:=fun q=>hc (Go.Sy.sidx_lt.1 q)
 rw [List.getD,a1X (by rw [h.vl,<-h.cl];omega)];rfl
theorem n1C {b:Bk} (h:BkC b) {P:List Int->Prop} (hz:P z16) (hr:∀c,P (b.row c)) (i:Nat):P (b.vs.getD i z16):=by
 by_cases e:i<b.m
 .have hj:b.cs[i]? =some (b.cs[i]'(by rw [h.cl];omega)):=m0b _;have:=hr (b.cs[i]'(by grind));grind [m0A]
 .rw [List.getD,a1X (by rw [h.vl];omega)];grind
theorem b1J {b:Bk} (h:BkC b) (c:BA) (r:List Int):BkC (b.put c r):=by
 by_cases e:a0q b.cs c<b.m
 .have e2:a0q b.cs c<b.cs.length:=by rw [h.cl];omega
  refine ⟨?_,?_,?_⟩
  .show (b0j _ _ _).length=if _ then _ else _
   rw [if_pos e,g0i,if_pos e2];exact h.cl
  .show (b0j _ _ _).length=if _ then _ else _
   rw [if_pos e];unfold b0j;rw [if_pos (by rw [h.vl];omega),s1a];exact h.vl
  .show (b0j _ _ _).Nodup;rw [g0i,if_pos e2];exact h.nd
 .have e2:¬a0q b.cs c<b.cs.length:=by rw [h.cl];omega
  refine ⟨?_,?_,?_⟩
  .show (b0j _ _ _).length=if _ then _ else _
   rw [if_neg e,g0i,if_neg e2,s0c,h.cl];rfl
  .show (b0j _ _ _).length=if _ then _ else _
   rw [if_neg e];unfold b0j;rw [if_neg (by rw [h.vl];omega),s0c,h.vl];rfl
  .show (b0j _ _ _).Nodup;rw [g0i,if_neg e2];refine s1p.2 ⟨h.nd,by simp,fun x hx y hy=> ?_⟩;simp only [b1h] at hy;subst hy;intro q;subst q;exact e2 (Go.Sy.sidx_lt.2 hx)
theorem b1K {b:Bk} (h:BkC b) (c:BA) (r:List Int) (c':BA):(b.put c r).row c'=if c'=c then r else b.row c':=by
 have hC:=b1J h c r;by_cases e:a0q b.cs c<b.m
 .have e2:a0q b.cs c<b.cs.length:=by rw [h.cl];omega
  have ecs:(b.put c r).cs=b.cs:=by show b0j _ _ _=_;rw [g0i,if_pos e2]
  have evs:(b.put c r).vs=b.vs.set (a0q b.cs c) r:=by show b0j _ _ _=_;unfold b0j;rw [if_pos (by rw [h.vl];omega)]
  show (b.put c r).vs.getD (a0q (b.put c r).cs c') z16=_;rw [ecs,evs];by_cases q:c'=c
  .subst q;rw [if_pos rfl,List.getD,s1K (by rw [h.vl];omega)];rfl
  .have:a0q b.cs c≠a0q b.cs c':=fun w=>by
    grind [Go.Sy.sidx_get]
   simp_all
 .have e2:¬a0q b.cs c<b.cs.length:=by rw [h.cl];omega
  have ecs:(b.put c r).cs=b.cs++ [c]:=by show b0j _ _ _=_;rw [g0i,if_neg e2]
  have evs:(b.put c r).vs=b.vs++ [r]:=by show b0j _ _ _=_;unfold b0j;rw [if_neg (by rw [h.vl];omega)]
  by_cases q:c'=c
  .subst q;rw [if_pos rfl,m0A hC (j:=b.m) (by rw [ecs,f1K (by rw [h.cl];omega),h.cl,s1N];rfl),evs,List.getD,f1K (by rw [h.vl];omega),h.vl,s1N];rfl
  .rw [if_neg q];by_cases hm:c'∈b.cs
   .obtain ⟨j,hj⟩:=s1g.1 hm;have hjl:j<b.m:=by rw [<-h.cl];grind
    rw [m0A h hj,m0A hC (j:=j) (by grind),evs,List.getD,e1S (by rw [h.vl];omega)];rfl
   grind [o0J]
theorem b1L {b:Bk} (h:BkC b) (c:BA) (r:List Int) (s:BA):s∈(b.put c r).cs↔s∈b.cs\/s=c:=by
 show s∈b0j _ _ _↔_;rw [g0i];split
 .rename_i e;exact ⟨.inl,fun q=>q.elim id (fun q=>by subst q;exact Go.Sy.sidx_lt.1 e)⟩
 .simp
theorem n1D {b:Bk} (h:BkC b) (c:BA):BkC (b.del c):=by
 by_cases e:a0q b.cs c<b.m
 .refine ⟨?_,?_,?_⟩
  .show (b.cs.eraseIdx _).length=if _ then _ else _
   rw [if_pos e,List.length_eraseIdx_of_lt (by rw [h.cl];omega),h.cl]
  .show (b.vs.eraseIdx _).length=if _ then _ else _
   rw [if_pos e,List.length_eraseIdx_of_lt (by rw [h.vl];omega),h.vl]
  .exact h.nd.sublist (u1C _ _)
 .refine ⟨?_,?_,?_⟩
  .show (b.cs.eraseIdx _).length=if _ then _ else _
   rw [if_neg e,s1x (by rw [h.cl];omega),h.cl]
  .show (b.vs.eraseIdx _).length=if _ then _ else _
   rw [if_neg e,s1x (by rw [h.vl];omega),h.vl]
  .exact h.nd.sublist (u1C _ _)
theorem u0A {b:Bk} (h:BkC b) (c s:BA):s∈(b.del c).cs↔s∈b.cs/\s≠c:=by
 show s∈b.cs.eraseIdx _↔_;constructor
 .intro q;refine ⟨(u1C _ _).subset q,fun w=> ?_⟩;subst w;obtain ⟨j,hj⟩:=s1g.1 q;rw [r1f] at hj;by_cases e:j<a0q b.cs s
  .rw [if_pos e] at hj;have:=Go.Sy.sidx_of_get h.nd hj;omega
  .rw [if_neg e] at hj;have:=Go.Sy.sidx_of_get h.nd hj;omega
 .rintro ⟨q,w⟩;obtain ⟨j,hj⟩:=s1g.1 q;have hne:j≠a0q b.cs c:=fun e=>by
   grind [Go.Sy.sidx_get]
  refine s1g.2 ?_;by_cases e:j<a0q b.cs c
  .exact ⟨j,by grind⟩
  .exact ⟨j-1,by grind⟩
theorem k1D {b:Bk} (h:BkC b) (c c':BA):(b.del c).row c'=if c'=c then z16 else b.row c':=by
 have hC:=n1D h c;by_cases q:c'=c
 .subst q;rw [if_pos rfl,o0J hC (fun w=>((u0A h c' c').1 w).2 rfl)]
 .rw [if_neg q];by_cases hm:c'∈b.cs
  .obtain ⟨j,hj⟩:=s1g.1 hm;have hne:j≠a0q b.cs c:=fun e=>by
    grind [Go.Sy.sidx_get]
   rw [m0A h hj];have ecs:(b.del c).cs=b.cs.eraseIdx (a0q b.cs c):=rfl;have evs:(b.del c).vs=b.vs.eraseIdx (a0q b.cs c):=rfl;by_cases e:j<a0q b.cs c
   .rw [m0A hC (j:=j) (by grind),evs,List.getD,r1f,if_pos e];rfl
   .rw [m0A hC (j:=j-1) (by grind),evs,List.getD,r1f,if_neg oM,show j-1+1=j by omega];rfl
  grind [o0J,u0A]
theorem q1q {b:Bk} (h:BkC b) (c:BA) (r:List Int):BkC (b.mv1 c r):=by
 grind [Bk.mv1,n1D,b1J]
theorem j0L {b:Bk} (h:BkC b) (c:BA) (r:List Int) (c':BA):(b.mv1 c r).row c'=if c'=c then r else b.row c':=by
 unfold Bk.mv1;by_cases e:r=z16
 .rw [if_pos e,k1D (b1J h c r),b1K h];simp_all
 .rw [if_neg e,b1K h]
theorem b1M {b:Bk} (h:BkC b) (c:BA) (r:List Int) (s:BA):s∈(b.mv1 c r).cs↔(s∈b.cs/\s≠c)\/(s=c/\r≠z16):=by
 unfold Bk.mv1;by_cases e:r=z16
 .simp_all [u0A,b1J,b1L]
 .rw [if_neg e,b1L h];grind
structure BkI (b:Bk) (B:Int):Prop where
 C:BkC b
 n16:b.n<=16
 psl:b.ps.length=b.n
 nz:∀c,c∈b.cs->b.row c≠z16
 c3:∀c,c∈b.cs->e0c c=true
 rl:∀c,(b.row c).length=16
 rb:∀c j,-B<=(b.row c).getD j 0/\(b.row c).getD j 0<=B
 rs:∀c,(b.row c).sum=0
 rt:∀c j,b.n<=j->(b.row c).getD j 0=0
theorem BkI.ok {b:Bk} {B:Int} (h:BkI b B) (hB:B<=4503599627370496):b.Ok:=by
 refine ⟨h.n16,h.psl,n1C h.C (P:=fun r=>r.length=16) rfl h.rl,fun i j=> ?_⟩;refine n1C h.C (P:=fun r=> -4503599627370496<=r.getD j 0/\r.getD j 0<=4503599627370496) ?_ (fun c=> ?_) i
 .grind
 .have:=h.rb c j;omega
theorem BkI.cok {b:Bk} {B:Int} (h:BkI b B) (hm:b.m<=100000):b.Cok:=by
 refine ⟨hm,fun s hs=> ?_,h.C.nd⟩;have:=h.c3 s hs;simp_all [e0c]
theorem k1E {b:Bk} {B:Int} (h:BkI b B) (c:BA):c∈b.cs↔b.row c≠z16:=
 ⟨h.nz c,fun q=>Classical.byContradiction fun w=>q (o0J h.C w)⟩
theorem b1N (l:List Int) (i:Nat) (x:Int) (h:i<l.length):(l.set i x).sum=l.sum-l.getD i 0+x:=by
 induction l generalizing i with
 |nil=>trivial
 |cons y l ih=>
  cases i with
  |zero=>grind
  |succ i=>
   grind
theorem s0t {r:List Int} {F T:Nat} {a:Int} (hl:r.length=16) (hF:F<16) (hT:T<16) (hne:F≠T) (j:Nat):(i0I r F T a).getD j 0=r.getD j 0+((if j=F then-a else 0)+(if j=T then a else 0)):=by
 grind
theorem b1O {r:List Int} {F T:Nat} {a:Int} (hl:r.length=16) (hF:F<16) (hT:T<16) (hne:F≠T):(i0I r F T a).sum=r.sum:=by
 rw [b1N _ _ _ (by simp_all),b1N _ _ _ oM,m0x _ _ _ _ oM,if_neg (fun q=>hne q.symm)];omega
def stE (b:Bk) (f t c:BA) (a:Int):Int:=
 if idI b.ps f b.n<0\/idI b.ps t b.n<0 then 6
 else if idI b.ps f b.n=idI b.ps t b.n then 4
 else if f0k a c≠0 then f0k a c
 else if a<0 then 4 else 0
theorem b1P {b:Bk} {f t c:BA} {a:Int} (h:stE b f t c a=0):a0q b.ps f<b.n/\a0q b.ps t<b.n/\a0q b.ps f≠a0q b.ps t/\e0c c=true/\0<=a/\a<=4503599627370496/\f0k a c=0:=by
 unfold stE at h;split at h
 .omega
 .split at h
  .omega
  .split at h
   .omega
   .split at h
    .omega
    .have hm:=q0r a c;have g1:a0q b.ps f<b.n:=by
      rcases i1B (a0q b.ps f) b.n with q|q
      all_goals simp_all [i0J]
     have g2:a0q b.ps t<b.n:=by
      rcases i1B (a0q b.ps t) b.n with q|q
      all_goals simp_all [i0J]
     grind [k0v]
theorem i1L (b:Bk) (f t c:BA) (a:Int):mvE b f t c a=if stE b f t c a≠0 then stE b f t c a else if m0v ((b.row c).getD (a0q b.ps f) 0-a)=true/\m0v ((b.row c).getD (a0q b.ps t) 0+a)=true then 0 else 4:=by
 grind [mvE,stE]
theorem q1r {b:Bk} {B B':Int} (h:BkI b B) {f t c:BA} {a:Int} (hs:stE b f t c a=0) (hB:B<=B') (h1: -B'<=(b.row c).getD (a0q b.ps f) 0-a/\(b.row c).getD (a0q b.ps f) 0-a<=B') (h2: -B'<=(b.row c).getD (a0q b.ps t) 0+a/\(b.row c).getD (a0q b.ps t) 0+a<=B'):BkI (b.mv1 c (i0I (b.row c) (a0q b.ps f) (a0q b.ps t) a)) B':=by
 obtain ⟨hF,hT,hne,hc,ha,_⟩:=b1P hs;have hn:=h.n16;have hps:(b.mv1 c (i0I (b.row c) (a0q b.ps f) (a0q b.ps t) a)).ps=b.ps:=by unfold Bk.mv1;split<;>rfl
 have hnn:(b.mv1 c (i0I (b.row c) (a0q b.ps f) (a0q b.ps t) a)).n=b.n:=by unfold Bk.mv1;split<;>rfl
 have hg:=s0t (a:=a) (h.rl c) (show a0q b.ps f<16 by omega) (show a0q b.ps t<16 by omega) hne;refine ⟨q1q h.C _ _,by omega,by rw [hps,hnn];exact h.psl,fun s q=> ?_,fun s q=> ?_,fun s=> ?_,fun s j=> ?_,fun s=> ?_,fun s j q=> ?_⟩
 .rw [b1M h.C] at q;rw [j0L h.C];rcases q with q|q
  .rw [if_neg q.2];exact h.nz s q.1
  simp_all
 .rw [b1M h.C] at q;rcases q with q|q
  .exact h.c3 s q.1
  simp_all
 .rw [j0L h.C];split
  .rw [s1a,s1a];exact h.rl c
  .exact h.rl s
 .rw [j0L h.C];split
  .have:=h.rb c j;grind
  .have:=h.rb s j;omega
 .rw [j0L h.C];split
  .rw [b1O (h.rl c) oM oM hne];exact h.rs c
  .exact h.rs s
 .rw [hnn] at q;rw [j0L h.C];split
  .rw [hg j,if_neg oM,if_neg oM,h.rt c j q];rfl
  .exact h.rt s j q
theorem g1f (b:Bk) (f t c:BA) (a:Int):(b.mv f t c a).ps=b.ps/\(b.mv f t c a).n=b.n:=by
 unfold Bk.mv Bk.mv1;split
 .split<;>exact ⟨rfl,rfl⟩
 trivial
theorem r1j (b:Bk) (f t c:BA) (a:Int):(b.mv f t c a).m<=b.m+1:=by
 have hp:∀r,(b.put c r).m<=b.m+1:=fun r=>by
  grind [Bk.put]
 have hd:∀b':Bk,(b'.del c).m<=b'.m:=fun b'=>by
  grind [Bk.del]
 unfold Bk.mv Bk.mv1;grind
theorem r1k {b:Bk} (h:BkI b 4503599627370496) (f t c:BA) (a:Int):BkI (b.mv f t c a) 4503599627370496:=by
 by_cases e:mvE b f t c a=0
 .have e2:=e;rw [i1L] at e2;by_cases s:stE b f t c a=0
  .rw [if_neg oM] at e2;split at e2
   .rename_i g;rw [s0r,s0r] at g;unfold Bk.mv;rw [if_pos e];exact q1r h s (Int.le_refl _) g.1 g.2
   omega
  omega
 .rw [k0u e];omega
def dM (b:Bk) (f t c:BA) (a:Int) (c':BA) (j:Nat):Int:=if stE b f t c a=0/\c'=c then (if j=a0q b.ps f then-a else 0)+(if j=a0q b.ps t then a else 0) else 0
theorem n1E {b:Bk} {B:Int} (h:BkI b B) {f t c:BA} {a:Int} (he:mvE b f t c a=stE b f t c a) (c':BA) (j:Nat):((b.mv f t c a).row c').getD j 0=(b.row c').getD j 0+dM b f t c a c' j:=by
 unfold dM;by_cases s:stE b f t c a=0
 .obtain ⟨hF,hT,hne,hc,ha,_⟩:=b1P s;have hn:=h.n16;unfold Bk.mv;rw [if_pos oM,j0L h.C];by_cases q:c'=c
  .rw [if_pos q,if_pos ⟨s,q⟩,s0t (h.rl c) oM oM hne,q]
  simp_all
 simp_all [k0u]
structure Mv where
 f:BA
 t:BA
 a:Int
 c:BA
abbrev Bk.go (b:Bk) (m:Mv):Bk:=b.mv m.f m.t m.c m.a
def Bk.all (b:Bk) (M:List Mv):Bk:=M.foldl Bk.go b
theorem s0u {k:Nat} (h:k<9223372036854775807):i64.wrap ((k:Int)+1)=((k+1:Nat):Int):=by rw [a0l oM oM];rfl
theorem w0F (ps:List BA) (n:Nat) (hl:ps.length=n):FC prog 2 103 [.sl 1 0 0 n] [(1,some (.one true (.cols n [.sc (.strs ps)])))] (y0P ps):=by
 by_cases h16:16<n
 .unfold y0P c0u;rw [hl,if_pos h16,if_pos (by simp)];let l:=[0,1];exact Wx func103
 .exact k1A ps n hl oM
theorem q0u {ps:List BA}:∀{n k:Nat},nwK ps n=0->k<=n->nwK ps k=0
 |0,k,h,hk=>by simp_all
 |n+1,k,h,hk=>by
  have h0:nwK ps n=0:=by
   grind [nwK]
  by_cases e:k=n+1
  .simp_all
  .exact q0u h0 oM
theorem i0L {ps:List BA} (h:c0u ps=0):ps.length<=16/\ps.Nodup/\∀s∈ps,nmB s=true:=by
 unfold c0u at h;split at h
 .omega
 .have hE:∀k,k<ps.length->nwE ps k=0:=fun k hk=>by
   have h1:=q0u h (show k+1<=ps.length from hk);grind [nwK]
  refine ⟨by omega,?_,fun s hs=> ?_⟩
  .refine t1E.2 fun i j hi hj hij e=> ?_
   have:=hE j hj;unfold nwE at this;split at this
   .omega
   .split at this
    .omega
    .have hm:ps[j]∈ps.take j:=by
      rw [<-e];exact t1K.2 ⟨i,by grind,by simp⟩
     have hlt:=Go.Sy.sidx_lt.2 hm;rw [p1O,t1u oM] at hlt;simp_all [idI]
  .obtain ⟨k,hk,rfl⟩:=s1B hs;have:=hE k hk;unfold nwE at this;grind
theorem k1F {ps:List BA} (h:c0u ps=0):BkI (nwB ps) 0:=by
 have hr:∀c,(nwB ps).row c=z16:=fun c=>rfl
 refine ⟨⟨rfl,rfl,s1Z⟩,(i0L h).1,c0o ps,fun c q=>absurd q (s1O),fun c q=>absurd q (s1O),fun c=>rfl,fun c j=> ?_,fun c=>rfl,fun c j _=> ?_⟩
 all_goals grind
abbrev bkX (ro:Bool) (np:Nat) (ps:List BA) (b:Bk):a0k:= [(1,bkC true 2 3 np),(2,some (.one true (.cols np [.sc (.strs ps)]))),(3,bkM ro b)]
theorem s0v {b:Bk} (h:BkI b 4503599627370496) {np:Nat} {ps:List BA} (hn:b.n=np) (hp:b.ps=ps) (f t c:BA) (a:Int):FC prog 4 357 [.ptr 1 0 0 0,.str f,.str t,.agg [.i a,.str c]] (bkX false np ps b) (a0g (.i (mvE b f t c a)) [(3,bkM false (b.mv f t c a))] 4):=by
 subst hn hp;exact g1a b (h.ok (Int.le_refl _)) f t c a
theorem b1Q {b:Bk} (h:BkI b 4503599627370496) {np:Nat} {ps:List BA} (hn:b.n=np) (hp:b.ps=ps) (hm:b.m<=100000):FC prog 4 112 [.ptr 1 0 0 0] (bkX true np ps b) (a0g (.sl 4 0 0 b.list.length) [(4,some (.one false (pxB b.list.length (b0C b.list))))] 5):=by
 subst hn hp;exact g1c b (h.ok (Int.le_refl _)) (h.cok hm)
theorem BkI.up {b:Bk} {B B':Int} (h:BkI b B) (hB:B<=B'):BkI b B':=by
 have g:=h.rb;exact ⟨h.C,h.n16,h.psl,h.nz,h.c3,h.rl,fun c j=>by grind,h.rs,h.rt⟩
theorem w0G {α:Type} {l:List α} {n:Nat} (h:l.length=n):seg 0 n l=l:=by
 simp_all [seg,s1A]
theorem b1R (n:Nat) (l:List BA) (hl:l.length=n) (hn:n<=1000000):FC prog 2 104 [.sl 1 0 0 n] [(1,some (.one true (.cols n [.sc (.strs l)])))] (a0g (.sl 2 0 0 n) [(2,some (.one false (.cols n [.sc (.strs l)])))] 3):=by
 cases n with
 |zero=>
  obtain rfl:=s1D hl;refine o0E rfl ?_;refine fEx func104 ?_;repeat' (first|(refine And.intro ?_ ?_))
  all_goals first
   |exact c0y (fun _ _ _ h=> .inl h) (rOx [0,1] a0c)
   |exact c0y (fun _ _ _ h=> .inr h) (rOx [0,1,3] (a0b a0c))
   |decide
 |succ n=>
  refine fEx func104 ?_;repeat' (first|refine a0a ?_)
  all_goals (rw [i1z (n+1),w0G hl];exact rOx [0,1,3] (a0b a0c))
abbrev bk0:Bk:=⟨0,[],0,[],[],[],0⟩
abbrev p1T (b:Bk):Blk:= .obj (.map false false b.m [.strs b.cs] [.arrs 16 .i64 b.vs] b.bs b.ck)
abbrev cyC (ro:Bool) (hc hp hb hd np:Nat) (cut:Int):Option HB:=some (.one ro (.cells [.ptr hc 0 0 0,.i cut,.sl hp 0 0 np,.map hb 0,.map hd 0]))
abbrev cyP (ro:Bool) (n:Nat) (ps:List BA):Option HB:=some (.one ro (.cols n [.sc (.strs ps)]))
abbrev cyB (ro:Bool) (h m:Nat) (ds:List Int):Option HB:=some (.one ro (.obj (.map false false m [.ints .i64 ds] [.ptrs h m] (List.range m) m)))
def f7 (hp hm np:Nat) (x:Nat):Blk:= .cells [.sl hp x 0 np,.map hm x]
def f8 (np:Nat) (sp:List BA) (x:Nat):Blk:= .cols np [.sc (.strs sp)]
def f9 (B:List Bk) (x:Nat):Blk:=p1T (B.getD x bk0)
abbrev fmB (ro:Bool) (m:Nat) (f:Nat->Blk):Option HB:=some (.fam ro (fun x=>x<m) f)
def cnE (cut:Int) (ps:List BA):Int:=if cut<0\/86400<cut then 4 else c0u ps
def cnO (cut:Int) (ps:List BA) (n:Nat):SV->a0k->Nat->Prop:=if cnE cut ps=0 then a0g (.tup [.ptr 3 0 0 0,.i 0]) [(3,cyC false 1 4 5 6 n cut),(4,cyP false n ps),(5,cyB false 7 0 []),(6,tmM false 0 []),(7,fmB false 0 (f7 8 9 n)),(8,fmB false 0 (f8 n (sortS ps))),(9,fmB false 0 (f9 []))] 10 else a0g (.tup [.nptr,.i (cnE cut ps)]) [] 3
theorem i1M (cut:Int) (ps:List BA) (n:Nat) (hl:ps.length=n):FC prog 3 60 [.ptr 1 0 0 0,.i cut,.sl 2 0 0 n] [(2,some (.one true (.cols n [.sc (.strs ps)])))] (cnO cut ps n):=by
 have c1:=w0F ps n hl;unfold cnO cnE;by_cases h:cut<0\/86400<cut
 .rw [if_pos h,if_neg dC];let l:=[0,1,2];exact Wx func60
 rw [if_neg h];unfold y0P at c1;by_cases he:c0u ps=0
 .rw [if_neg (by rw [he];simp)] at c1;rw [if_pos he];have c2:=b1R n ps hl (by have:=(i0L he).1;omega);refine fEx func60 ?_;repeat' ((conv=>whnf);first|refine cOx (l:= [0,2]) c1 ?_|refine cOx (l:= [0,2]) c2 ?_|refine a0a ?_|(apply bRx<;>intro h<;>try exact aX)|exact aX|exact b0K (l:= [0,1,2,9,6,7,8,10,11,12]) [.relab (fun _ _=>none) (fun _=>0) ((7,cyB false 10 0 [])::gdN 10 0 0 [⟨0,0,f7 11 12 n⟩,⟨0,0,f8 n (sortS ps)⟩,⟨0,0,f9 []⟩]) [] 3] ⟨g0Q (n:=10) (th:=7) [⟨0,0,f7 11 12 n⟩,⟨0,0,f8 n (sortS ps)⟩,⟨0,0,f9 []⟩] dC rfl (q0i rfl (fun i hi=>by omega)),rfl,rfl,rX⟩ (a0b (a0b (a0b (a0b (a0r (a0r (a0r a0c))))))))
 .rw [if_pos he] at c1;rw [if_neg he];generalize c0u ps=e at*;let l:=[0,2];let R:=[0,1,2];exact Wx func60
theorem i1N (p:Int->Bool):∀(k:Nat) (d:Int),nxK p k d<0\/(d<=nxK p k d/\nxK p k d<d+(k:Int)/\p (nxK p k d)=true)
 |0,d=> .inl (by simp [nxK])
 |k+1,d=>by
  simp only [nxK];split
  .grind
  .rcases i1N p k (d+1) with h|⟨h1,h2,h3⟩
   all_goals grind
theorem b1S {hs:List Int} {d:Int} (h:¬nxI hs d<0):d<=nxI hs d/\nxI hs d<=99999/\k0Q hs (nxI hs d)=true:=by
 rcases i1N (k0Q hs) (100000-d).toNat d with q|⟨h1,h2,h3⟩
 .trivial
 .have h4:=h3;unfold k0Q at h4;simp only [n0M] at h4;exact ⟨h1,(g0e.1 h4.1).2,h3⟩
def ofI (hs:List Int) (cut t:Int):Int:=if h0R t<0 then-1 else if k0Q hs (h0R t)=true/\b1B t<cut then h0R t else nxI hs (h0R t+1)
def ofV (x:Int):SV:=if x<0 then .tup [.i 0,.i 14] else .tup [.i x,.i 0]
abbrev cyR (np hn:Nat) (cut:Int) (hs:List Int):a0k:= [(1,cyC true 2 4 5 6 np cut),(2,b1D true 3),(3,tmM true hn hs)]
theorem w0H (np hn:Nat) (cut:Int) (hs:List Int) (hh:hs.length=hn) (d:Int) (hd:0<=d) (hd2:d<=99999):FC prog 10 355 [.ptr 1 0 0 0,.i d] (cyR np hn cut hs) (a0g (ofV (nxI hs (d+1))) [] 10):=by
 have e:i64.wrap (d+1)=d+1:=a0l oM oM;have c:=g1b hn hs hh (d+1);have hv:(if isD (d+1)=true then nxV (nxI hs (d+1)) else nxV (-1))=nxV (nxI hs (d+1)):=by
  cases h:isD (d+1) with
  |true=>rfl
  |false=>rw [if_neg (by simp),q0t (by have:=i1H.1 h;omega)]
 rw [hv] at c;unfold nxV at c;unfold ofV;by_cases h:nxI hs (d+1)<0
 .rw [if_pos h] at c⊢;have c0:=c;let l:=[0,2,3];let R:=xAc;have q0:=e;exact Wx func355
 .rw [if_neg h] at c⊢;have c1:=c;let l:=[0,2,3];let R:=xAc;have q1:=e;exact Wx func355
theorem q0v {t:Int} (h:¬h0R t<0):okT t=true/\0<=h0R t/\h0R t<=99999/\0<=b1B t:=by
 unfold h0R b1B at*;by_cases q:okT t=true
 .have:=g0e.1 (f0l.1 q).2.2;grind
 simp_all
theorem q1s (np hn:Nat) (cut:Int) (hs:List Int) (hh:hs.length=hn) (t:Int):FC prog 10 354 [.ptr 1 0 0 0,.i t] (cyR np hn cut hs) (a0g (ofV (ofI hs cut t)) [] 10):=by
 have c1:=b1C t;unfold ofI;by_cases h:h0R t<0
 .rw [if_pos h];generalize h0R t=d at*;let l:=xAc;exact Wx func354
 .have hd:=q0v h;rw [if_neg h];have c2:=g0f hn hs hh (h0R t);have c3:=w0H np hn cut hs hh (h0R t) hd.2.1 hd.2.2.1;generalize h0R t=d at*;generalize b1B t=s at*;cases hb:k0Q hs d with
  |true=>
   rw [hb] at c2;by_cases hq:s<cut
   .rw [if_pos ⟨rfl,hq⟩];unfold ofV;rw [if_neg h];let l:=[0,2,3];let R:=xAc;exact Wx func354
   .rw [if_neg (fun w=>hq w.2)];unfold ofV at c3⊢;by_cases hx:nxI hs (d+1)<0
    .rw [if_pos hx] at c3⊢;let l3:=xAc;let l:=[0,2,3];let R:=xAc;exact Wx func354
    .rw [if_neg hx] at c3⊢;let l3:=xAc;let l:=[0,2,3];let R:=xAc;exact Wx func354
  |false=>
   rw [hb] at c2;rw [if_neg (fun w=>by simp at w)];unfold ofV at c3⊢;by_cases hx:nxI hs (d+1)<0
   .rw [if_pos hx] at c3⊢;let l3:=xAc;let l:=[0,2,3];let R:=xAc;exact Wx func354
   .rw [if_neg hx] at c3⊢;let l3:=xAc;let l:=[0,2,3];let R:=xAc;exact Wx func354
end
section
attribute [local irreducible] sortI
theorem g1g (n:Nat) (l:List Int) (hn:n<4611686018427387904):FC prog 2 328 [.sl 1 0 0 n] [(1,some (.one false (.cols n [.sc (.ints .i64 l)])))] (a0g (.tup []) [(1,some (.one false (.cols n [.sc (.ints .i64 (sortI l))])))] 2):=
 f1N ⟨fun blk off cap ss W hH hblk hsz=>AnyM.slices_Sort_int Tryz.sortI blk off cap ss W hH hblk hsz,fun p cap W=>AnyM.slices_Sort_int_none Tryz.sortI p cap W⟩ (f0W func328 (by rfl) (by rfl)) n l hn
def opL (ds cd:List Int) (sn:List Nat):List Int:=(sn.reverse.map (fun i=>ds.getD i 0)).filter (fun t=> !decide (t∈cd))
def j0M (ds cd:List Int):List Int:=sortI (ds.filter (fun t=> !decide (t∈cd)))
theorem k1G {ds cd:List Int} {i:Nat} {sn:List Nat} (h:decide (ds.getD i 0∈cd)=false):opL ds cd (i::sn)=opL ds cd sn++ [ds.getD i 0]:=by
 simp_all [opL]
theorem n1F {ds cd:List Int} {i:Nat} {sn:List Nat} (h:decide (ds.getD i 0∈cd)=true):opL ds cd (i::sn)=opL ds cd sn:=by
 simp_all [opL]
theorem k1H (ds cd:List Int) (sn:List Nat):(opL ds cd sn).length<=sn.length:=by
 unfold opL;grind
theorem n1G {m:Nat} {ds cd:List Int} {sn:List Nat} (hk:ds.length=m) (hd:sn.Nodup) (hl:∀i∈sn,i<m) (ha:∀i,i<m->i∈sn):sortI (opL ds cd sn)=j0M ds cd:=by
 refine m0d (List.Perm.filter _ ?_);have:=((List.reverse_perm sn).trans (o0D hd hl ha)).map (fun i=>ds.getD i 0)
 rwa [<-hk,h0w] at this
abbrev opR (np m nc:Nat) (cut:Int) (ds cd:List Int):a0k:= [(1,cyC true 2 4 5 6 np cut),(5,cyB true 7 m ds),(6,tmM true nc cd)]
theorem k1I (np m nc:Nat) (cut:Int) (ds cd:List Int) (hds:ds.length=m) (hcd:cd.length=nc) (hm:m<=100000):FC prog 10 326 [.ptr 1 0 0 0] (opR np m nc cut ds cd) (a0g (.sl 10 0 0 (j0M ds cd).length) [(10,some (.one false (.cols (j0M ds cd).length [.sc (.ints .i64 (j0M ds cd))])))] 11):=by
 refine fEx func326 ?_;repeat' ((conv=>whnf);first|refine a0a ?_|(apply bRx<;>intro h<;>try exact aX))
 all_goals (conv=>whnf)
 refine a0h (fun sn:List Nat=>⟨[(0,.ptr 1 0 0 0),(11,.ptr 10 0 0 0),(3,.sl 11 0 0 (opL ds cd sn).length)],(10,some (.one false (.obj (.iter 5 0 (List.range m) m sn))))::(11,some (.one false (.cols (opL ds cd sn).length [.sc (.ints .i64 (opL ds cd sn))])))::opR np m nc cut ds cd,12⟩) (fun sn=>sn.Nodup/\∀i∈sn,i<m) (fun sn=>m-sn.length) [] [0,1,2,3,4,5,6,7,8,9,10,11] [.slot 3 [.sc (.ints .i64 [])]] wHx ⟨s1Z,by simp⟩ ?_;rintro sn ⟨hnd,hb⟩;have hsl:=f0X _ sn hnd hb;have htl:=k1H ds cd sn;have cs:=g1g (opL ds cd sn).length (opL ds cd sn) oM;have hg:∀d,(List.replicate nc true).getD (a0S cd d) false=decide (d∈cd):=w0C hcd;repeat' ((conv=>whnf);first|(refine ⟨⟨rfl,rfl⟩,fun i hi hni=> ?_,fun hall=> ?_⟩)|refine cOx (l:= [0,11]) cs ?_|refine a0a ?_|(apply bRx<;>intro h<;>try exact aX))
 all_goals (conv=>whnf)
 all_goals (try simp only [hg] at h)
 .have hlt:=c0O hnd hb hi hni;refine ⟨i::sn,[0,1,2,3,4,5,6,7,8,9,10,13],[],⟨t1D.2 ⟨hni,hnd⟩,fun x hx=> ?_⟩,by simp only [i1y];omega,?_⟩
  .rcases f1I.1 hx with rfl|hx
   .exact hi
   .exact hb x hx
  .rw [k1G (by simpa using h),s0c];exact ⟨rfl,rX,rX⟩
 .have hlt:=c0O hnd hb hi hni;refine ⟨i::sn,xBa,[],⟨t1D.2 ⟨hni,hnd⟩,fun x hx=> ?_⟩,by simp only [i1y];omega,?_⟩
  .rcases f1I.1 hx with rfl|hx
   .exact hi
   .exact hb x hx
  .rw [n1F (by simpa using h)];exact ⟨rfl,rX,rX⟩
 .have ed:=n1G (cd:=cd) hds hnd hb hall;have el:(opL ds cd sn).length=(j0M ds cd).length:=by rw [<-ed,f0Z]
  rw [ed,el];exact rOx [0,1,2,3,4,5,6,7,8,9,11] (a0b a0c)
theorem b1T {B:List Bk} {m i np:Nat} {sp:List BA} (hi:i<m) (h:BkI (B.getD i bk0) 4503599627370496) (hn:(B.getD i bk0).n=np) (hp:(B.getD i bk0).ps=sp) (hm:(B.getD i bk0).m<=100000):FC prog 4 112 [.ptr 1 i 0 0] [(1,fmB true m (f7 2 3 np)),(2,fmB true m (f8 np sp)),(3,fmB true m (f9 B))] (a0g (.sl 4 0 0 (B.getD i bk0).list.length) [(4,some (.one false (pxB (B.getD i bk0).list.length (b0C (B.getD i bk0).list))))] 5):=by
 have c:=k0s [(1,⟨i,fun x=>x<m,f7 2 3 np⟩),(2,⟨i,fun x=>x<m,f8 np sp⟩),(3,⟨i,fun x=>x<m,f9 B⟩)] (by
  refine ⟨⟨by simp,by simp,_,_,rfl,hi,?_,.inl rfl⟩,⟨by simp,by simp,_,_,rfl,hi,rfl,.inl rfl⟩,⟨by simp,by simp,_,_,rfl,hi,rfl,.inl rfl⟩,trivial⟩;show Blk.cells [.sl 2 i 0 np,.map 3 i]= .cells [.sl 2 (0+i) 0 np,.map 3 (0+i)];simp) (by trivial) (by trivial) (a0b a0c) (b1Q h hn hp hm)
 have e:SV.mems (fmu [(1,⟨i,fun x=>x<m,f7 2 3 np⟩),(2,⟨i,fun x=>x<m,f8 np sp⟩),(3,⟨i,fun x=>x<m,f9 B⟩)]) [.ptr 1 0 0 0]= [.ptr 1 i 0 0]:=by
  show [SV.ptr 1 (0+i) 0 0]=_;simp
 rw [e] at c;exact c
theorem b1U:a0K prog 112 [.nptr] .nsl:=by
 exact Wx func112
def w0I (ds:List Int) (B:List Bk) (d:Int):List Px:=if d∈ds then (B.getD (a0S ds d) bk0).list else []
structure BksI (ds:List Int) (B:List Bk) (m np:Nat) (sp:List BA):Prop where
 dl:ds.length=m
 bl:B.length=m
 nd:ds.Nodup
 I:∀i,i<m->BkI (B.getD i bk0) 4503599627370496/\(B.getD i bk0).n=np/\(B.getD i bk0).ps=sp/\(B.getD i bk0).m<=100000
abbrev psR (np m:Nat) (cut:Int) (ds:List Int) (B:List Bk) (sp:List BA):a0k:= [(1,cyC true 2 4 5 6 np cut),(5,cyB true 7 m ds),(7,fmB true m (f7 8 9 np)),(8,fmB true m (f8 np sp)),(9,fmB true m (f9 B))]
theorem k0w {np m:Nat} {ds:List Int} {B:List Bk} {sp:List BA} (hb:BksI ds B m np sp) (cut:Int) (d:Int):FC prog 10 68 [.ptr 1 0 0 0,.i d] (psR np m cut ds B sp) (a0g (.sl 10 0 0 (w0I ds B d).length) [(10,some (.one false (pxB (w0I ds B d).length (b0C (w0I ds B d)))))] 11):=by
 unfold w0I;by_cases h:d∈ds
 .have hi:a0S ds d<m:=by rw [<-hb.dl];exact b0o.2 h
  obtain ⟨b1,b2,b3,b4⟩:=hb.I _ hi;rw [if_pos h];have c:=b1T (B:=B) hi b1 b2 b3 b4;have hfd:e0D false m [.ptrs 7 m] (a0S ds d)= .ptr 7 (a0S ds d) 0 0:=by
   show (bif decide (a0S ds d<m) then SV.ptr 7 (a0S ds d) 0 0 else .nptr)=_;simp_all
  have c0:=c;let l:=[0,7,8,9];let R:=xBb;have q0:=hfd;exact Wx func68
 .have hi:¬a0S ds d<m:=by rw [<-hb.dl];exact fun q=>h (b0o.1 q)
  rw [if_neg h];refine o0E rfl ?_;have hfd:e0D false m [.ptrs 7 m] (a0S ds d)= .nptr:=by
   show (bif decide (a0S ds d<m) then SV.ptr 7 (a0S ds d) 0 0 else .nptr)=_;grind
  have c:=b1U;refine fEx func68 ?_;repeat' ((conv=>whnf);first|(rw [hfd])|refine cPx c ?_|exact c0y (fun _ _ _ h=> .inl h) (rOx xAc a0c))
def clE (hs ds cd:List Int) (d:Int):Int:=if k0Q hs d=false then 14 else if d∈cd then 23 else if 0<(j0M ds cd).length/\(j0M ds cd).getD 0 0<d then 8 else 0
abbrev clH (np m hn nc:Nat) (cut:Int) (hs ds cd:List Int) (B:List Bk) (sp:List BA):a0k:= [(1,cyC true 2 4 5 6 np cut),(2,b1D true 3),(3,tmM true hn hs),(5,cyB true 7 m ds),(6,tmM false nc cd),(7,fmB true m (f7 8 9 np)),(8,fmB true m (f8 np sp)),(9,fmB true m (f9 B))]
def clO (hs ds cd:List Int) (B:List Bk) (d:Int):SV->a0k->Nat->Prop:=if clE hs ds cd d=0 then a0g (.tup [.sl 10 0 0 (w0I ds B d).length,.i 0]) [(6,tmM false (cd++ [d]).length (cd++ [d])),(10,some (.one false (pxB (w0I ds B d).length (b0C (w0I ds B d)))))] 11 else a0g (.tup [.nsl,.i (clE hs ds cd d)]) [(6,tmM false cd.length cd)] 10
theorem g1h {np m hn nc:Nat} {hs ds cd:List Int} {B:List Bk} {sp:List BA} (hb:BksI ds B m np sp) (hh:hs.length=hn) (hc:cd.length=nc) (hm:m<=100000) (cut d:Int):FC prog 10 325 [.ptr 1 0 0 0,.i d] (clH np m hn nc cut hs ds cd B sp) (clO hs ds cd B d):=by
 subst hc;have c1:=g0f hn hs hh d;have c2:=k1I np m cd.length cut ds cd hb.dl rfl hm;have c3:=k0w hb cut d;have hg:=w0C (n:=cd.length) (ks:=cd) rfl d;have hput:=n1B (s:=cd) rfl d;unfold clO clE;cases hq:k0Q hs d with
 |false=>
  rw [hq] at c1;rw [if_pos rfl,if_neg dC];let l:=[0,2,3];let R:=xAc;exact Wx func325
 |true=>
  rw [hq] at c1;rw [if_neg (show¬true=false by simp)];by_cases hd:d∈cd
  .rw [decide_eq_true hd] at hg;rw [if_pos hd,if_neg dC];refine fEx func325 ?_;repeat' ((conv=>whnf);first|refine cOx (l:= [0,2,3]) c1 ?_|refine a0a ?_|(apply bRx<;>intro h<;>try exact aX)|exact rOx xAc (a0b a0c)|(exfalso;rw [hg] at h;cases h;done))
  .rw [decide_eq_false hd] at hg;rw [if_neg hd] at hput⊢;have hol:(j0M ds cd).length<=100000:=by
    unfold j0M;rw [f0Z];exact n1r (t1i _ _) (by rw [hb.dl];exact hm)
   generalize j0M ds cd=S at*;by_cases hS:0<S.length/\S.getD 0 0<d
   .rw [if_pos hS,if_neg dC];refine fEx func325 ?_;repeat' ((conv=>whnf);first|refine cOx (l:= [0,2,3]) c1 ?_|refine cOx (l:= xAc) c2 ?_|refine a0a ?_|(apply bRx<;>intro h<;>try exact aX)|exact rOx xAc (a0b a0c)|(exfalso;rw [hg] at h;cases h;done)|exact absurd hS.2 h|exact absurd ⟨by omega,h⟩ hS|exact aX)
   .rw [if_neg hS,if_pos rfl];refine fEx func325 ?_;repeat' ((conv=>whnf);first|refine cOx (l:= [0,2,3]) c1 ?_|refine cOx (l:= xAc) c2 ?_|refine cOx (l:= xAc) c3 ?_|refine a0a ?_|(apply bRx<;>intro h<;>try exact aX)|exact a0A (l:= xBb) rfl rfl ⟨hput,rX⟩ (a0b (a0b a0c))|exact a0A (l:= [0,1,2,3,4,5,6,7,8,9,11]) rfl rfl ⟨hput,rX⟩ (a0b (a0b a0c))|(exfalso;rw [hg] at h;cases h;done)|exact absurd hS.2 h|exact absurd ⟨by omega,h⟩ hS|exact aX)
end
end Go.Proofs.YtmnjebhdclmcfaaGreatDoor
