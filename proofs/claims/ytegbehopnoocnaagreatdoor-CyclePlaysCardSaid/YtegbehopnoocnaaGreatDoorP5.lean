/- Several texts in one: Cp1. -/
import Derived.Test.YtegbehopnoocnaaGreatDoorP4
import Derived.Sort.Walk0
set_option linter.unusedVariables false
set_option linter.unusedSimpArgs false
set_option maxRecDepth 100000
namespace Go.Sy
abbrev g1y:=@List.take_length
abbrev g1z:=@List.pairwise_iff_getElem
abbrev i1i:=@Int.natCast_nonneg
abbrev j1B:=@List.length_set
abbrev j1I:=@Bool.false_and
abbrev j1R:=@List.getElem?_set_ne
abbrev j1S:=@List.getElem?_set_self
abbrev j1x:=@List.take_succ_eq_append_getElem
abbrev k1L:=@Bool.and_false
abbrev k1Q:=@Int.natCast_add
abbrev k1n:=@BitVec.toNat_ofInt
abbrev k1p:=@Nat.min_eq_left
abbrev k1q:=@Nat.le_div_iff_mul_le
abbrev k1s:=@Int.tdiv_eq_ediv_of_nonneg
abbrev l1A:=@Int.toNat_of_nonneg
abbrev l1G:=@List.getElem?_replicate
abbrev l1J:=@Nat.two_pow_pos
abbrev l1K:=@List.append_nil
abbrev l1S:=@Nat.mul_le_mul
abbrev l1W:=@Nat.pow_le_pow_right
abbrev l1X:=@Int.tmod_eq_emod_of_nonneg
abbrev l1b:=@Nat.div_mul_le_self
abbrev l1c:=@Nat.div_le_self
abbrev l1k:=@List.foldl_append
abbrev l1m:=@Nat.mul_add
abbrev l1q:=@Nat.lt_succ_self
abbrev l1v:=@Int.natCast_mul
abbrev l1w:=@Int.le_trans
end Go.Sy
namespace Go.Sy
open Go.RowKit
theorem d1Q {n:Int} (h:0<=n) (h':n<=4294967295):IntKind.u32.wrap n=n:=IntWalk.u32_in n ⟨h,h'⟩
theorem a0U {n:Int} (h:0<=n) (h':n<=18446744073709551615):IntKind.u64.wrap n=n:=IntWalk.u64_in n ⟨h,h'⟩
theorem g1i {n:Int} (h:0<=n) (h':n<=255):IntKind.u8.wrap n=n:=IntWalk.u8_in n ⟨h,h'⟩
theorem e0E {k:IntKind} {x:Int} (n:Nat) (h:n<=k.bits):g0H k x (n:Int)=x/2^n:=by
 unfold g0H;rw [p0F,k1p h,Int.fdiv_eq_ediv_of_nonneg];exact Int.pow_nonneg (by omega)
theorem h0j {x:Int}:g0H .u64 x 8=x/256:=e0E (k:= .u64) 8 (by decide)
theorem f0I {x:Int}:g0H .u64 x 16=x/65536:=e0E (k:= .u64) 16 (by decide)
theorem f0J {x:Int}:g0H .u64 x 32=x/4294967296:=e0E (k:= .u64) 32 (by decide)
theorem f0K {x:Int}:g0H .i64 x 18=x/262144:=e0E (k:= .i64) 18 (by decide)
abbrev h0k:=And.intro @a0m (And.intro @d1Q (And.intro @a0U (And.intro @g1i (And.intro @h0j (And.intro @f0I (And.intro @f0J (And.intro @f0K (And.intro @l1X (And.intro @k1s (And.intro @p0F @w0G))))))))))
theorem i1j {s:ByteArray} {x:Int} {n:Nat} (h:s.size=n) (k:x<(n:Int)):x<(s.size:Int):=by rw [h];exact k
def d0W (u:Nat):Nat:=if u=0 then 0 else u.log2+1
theorem r0d (u:Nat):u<2^d0W u:=by
 unfold d0W;split
 .omega
 .exact Nat.lt_log2_self
theorem k0q (u:Nat) (h:1<=u):2^(d0W u-1)<=u:=by
 unfold d0W;rw [if_neg (by omega),Nat.add_sub_cancel];exact Nat.log2_self_le (by omega)
theorem r0e {u k:Nat} (h1:2^k<=u) (h2:u<2^(k+1)):d0W u=k+1:=by
 have hu:1<=u:=g1x (Nat.one_le_pow _ _ (by omega)) h1;have a:=r0d u;have b:=k0q u hu;have hp:0<d0W u:=by unfold d0W;rw [if_neg (by omega)];omega
 rcases j1P (d0W u) (k+1) with h|h|h
 .have:2^d0W u<=2^k:=l1W (by omega) (by omega);omega
 .exact h
 .have:2^(k+1)<=2^(d0W u-1):=l1W (by omega) (by omega);omega
theorem p0t {u:Nat} (h:u<2^64):d0W u<=64:=by
 rcases f1L 64 (d0W u) with h1|h1
 .have hu:1<=u:=by
   rcases d1J u with e|e
   .subst e;simp [d0W] at h1
   .exact e
  have a:=k0q u hu;have:2^64<=2^(d0W u-1):=l1W (by omega) (by omega);omega
 .exact h1
theorem u0S (u k:Nat) (h:2^k<=u):d0W u=k+d0W (u/2^k):=by
 have h1:1<=u/2^k:=(Nat.one_le_div_iff (l1J k)).2 h;have a:=r0d (u/2^k);have b:=k0q (u/2^k) h1;have hp:0<d0W (u/2^k):=by unfold d0W;rw [if_neg (by omega)];omega
 have:d0W u=(k+d0W (u/2^k)-1)+1:=by
  refine r0e ?_ ?_
  .rw [show k+d0W (u/2^k)-1=(d0W (u/2^k)-1)+k from by omega,Nat.pow_add];exact (k1q (l1J k)).1 b
  .rw [show k+d0W (u/2^k)-1+1=d0W (u/2^k)+k from by omega,Nat.pow_add];exact (j1K (l1J k)).1 a
 omega
def i1k (s:ByteArray) (n:Nat) (f:Nat->Nat):Bool:=decide (s.size=n)&&(List.range n).all (fun i=>Nat.beq (s.data.toList.getD i 0).toNat (f i))
theorem d1R {s:ByteArray} {n:Nat} {f:Nat->Nat} (h:i1k s n f=true) {i:Nat} (hi:i<n):a0i s (i:Int)=(f i:Int):=by
 unfold i1k at h;simp only [k0o,k1u,k1h] at h;unfold a0i;rw [p0F,l0q (h.2 i hi)]
end Go.Sy
namespace Go.Proofs.YtegbehopnoocnaaGreatDoor
open Go.RowKit Go.Sy
section
attribute [local irreducible] a0q a0r a0k a0P
theorem a0e {k:Nat} (h:k<9223372036854775806):IntKind.i64.wrap ((k:Int)+1)=((k+1:Nat):Int):=by rw [a0m (by omega) (by omega)];rfl
def w0J (s:ByteArray) (i:Nat):Bool:=decide (65<=a0i s (i:Int))&&decide (a0i s (i:Int)<=90)
def d0L (s:ByteArray):Nat->Bool
 |0=>true
 |k+1=>d0L s k&&w0J s k
def d0M (s:ByteArray):Bool:=decide (s.size=3)&&d0L s s.size
theorem p0u {s:ByteArray} {k n:Nat} (h:k<n) (hc:w0J s k=false):d0L s n=false:=by
 induction n with
 |zero=>omega
 |succ n ih=>
  simp only [d0L];by_cases e:k=n
  .subst e;simp [hc]
  .rw [ih (by omega)];rfl
theorem b0i {s:ByteArray} {k:Nat} (h:k<s.size) (hc:a0i s (k:Int)<65\/90<a0i s (k:Int)):d0M s=false:=by
 have:w0J s k=false:=by unfold w0J;simp;omega
 unfold d0M;rw [p0u h this];simp
theorem f0l {s:ByteArray} (h:s.size≠3):d0M s=false:=by unfold d0M;simp [h]
theorem b0X {s:ByteArray} {k:Nat} (h:d0L s k=true) (h1:¬a0i s (k:Int)<65) (h2:¬90<a0i s (k:Int)):d0L s (k+1)=true:=by
 simp only [d0L,h,w0J];simp;omega
attribute [irreducible] d0M
theorem e0T (s:ByteArray):b0m Tryz.prog 109 [.str s] (.bool (d0M s)):=by
 refine fEx Tryz.func109 ?_;repeat' ((conv=>whnf);first|refine a0a ?_|(apply bRx<;>intro h<;>try (exfalso;(try dsimp only at h);omega)))
 all_goals (conv=>whnf)
 .exact a0c (by rw [f0l (by omega)];rfl)
 .refine a0E (fun k:Nat=>⟨[(0,.str s),(8,.int .i64 s.size),(9,.int .i64 k)],[],1⟩) (fun k=>k<=s.size/\d0L s k=true) (fun k=>s.size-k) 0 [0] [] wHx ⟨by omega,rfl⟩ ?_;rintro k ⟨hk,hc⟩;repeat' ((conv=>whnf);first|refine a0a ?_|(apply bRx<;>intro h<;>try (exfalso;(try dsimp only at h);omega)))
  all_goals (conv=>whnf)
  .exact a0c (by rw [b0i (k:=k) (by omega) (by omega)];rfl)
  .exact a0c (by rw [b0i (k:=k) (by omega) (by omega)];rfl)
  .exact ⟨k+1,[0],[],⟨by omega,b0X hc (by omega) (by omega)⟩,by omega,⟨rfl,⟨rfl,rfl,congrArg (fun z=>some (SV.int .i64 z)) (a0e (by omega)),trivial⟩,trivial⟩⟩
  .have e:k=s.size:=by omega
   subst e;refine a0c ?_;have:d0M s=true:=by unfold d0M;rw [hc];simp;omega
   rw [this];rfl
theorem i0U (s:ByteArray):b0m Tryz.prog 124 [.str s] (.bool (d0M s)):=by
 refine fEx Tryz.func124 ?_
 (conv=>whnf)
 refine a0E (fun k:Nat=>⟨[(0,.str s),(3,.int .i64 k)],[],1⟩) (fun k=>k<=s.size/\k<=3/\d0L s k=true) (fun k=>3-k) 0 [0] [] wHx ⟨by omega,by omega,rfl⟩ ?_;rintro k ⟨hk,h3,hc⟩;repeat' ((conv=>whnf);first|refine a0a ?_|(apply bRx<;>intro h<;>try (exfalso;(try dsimp only at h);omega)))
 all_goals (conv=>whnf)
 .exact a0c (by rw [b0i (k:=k) (by omega) (by omega)];rfl)
 .exact a0c (by rw [b0i (k:=k) (by omega) (by omega)];rfl)
 .exact ⟨k+1,[0],[],⟨by omega,by omega,b0X hc (by omega) (by omega)⟩,by omega,⟨rfl,⟨rfl,congrArg (fun z=>some (SV.int .i64 z)) (a0e (by omega)),trivial⟩,trivial⟩⟩
 all_goals refine a0c ?_
 all_goals by_cases e:s.size=3
 all_goals first
  |(have e':k=s.size:=by omega
    subst e';have:d0M s=true:=by unfold d0M;rw [hc];simp;omega
    rw [this];simp [e,e0X];done)
  |(rw [f0l e];simp [e0X];omega)
end
end Go.Proofs.YtegbehopnoocnaaGreatDoor
namespace Go.Sy
open Go.RowKit
theorem f0m {x:Nat} (h:x<18446744073709551616):d1h .u64 (x:Int) 4294967295=((x%4294967296:Nat):Int):=by
 have h1:(BitVec.ofInt 64 (x:Int)&&&BitVec.ofInt 64 4294967295).toNat=x%4294967296:=by
  rw [BitVec.toNat_and,k1n,k1n];rw [show ((x:Int)%((2^64:Nat):Int)).toNat=x by omega,show ((4294967295:Int)%((2^64:Nat):Int)).toNat=2^32-1 by decide,Nat.and_two_pow_sub_one_eq_mod]
 show IntKind.u64.wrap (((BitVec.ofInt 64 (x:Int)&&&BitVec.ofInt 64 4294967295).toNat:Nat):Int)=_;rw [h1];exact a0U (by omega) (by omega)
theorem a1B {x y k:Nat} (hx:x<18446744073709551616) (hk:2^k∣x) (hy:y<2^k) (hy2:y<18446744073709551616):ior .u64 (x:Int) (y:Int)=((x+y:Nat):Int):=by
 obtain ⟨z,rfl⟩:=hk;have h1:(BitVec.ofInt 64 ((2^k*z:Nat):Int)|||BitVec.ofInt 64 (y:Int)).toNat=2^k*z+y:=by
  rw [BitVec.toNat_or,k1n,k1n];rw [show (((2^k*z:Nat):Int)%((2^64:Nat):Int)).toNat=2^k*z by omega,show ((y:Int)%((2^64:Nat):Int)).toNat=y by omega];exact (Nat.two_pow_add_eq_or_of_lt hy z).symm
 have h2:2^k*z+y<18446744073709551616:=by rw [<-h1];exact BitVec.isLt _
 show IntKind.u64.wrap (((BitVec.ofInt 64 ((2^k*z:Nat):Int)|||BitVec.ofInt 64 (y:Int)).toNat:Nat):Int)=_;rw [h1];exact a0U (by omega) (by omega)
theorem b0p (x:Nat):IntKind.u64.wrap (x:Int)=((x%18446744073709551616:Nat):Int):=by
 simp only [IntKind.wrap,IntKind.bits,IntKind.signed];simp
theorem n0s {x s:Nat} (h:s<=64):o0v .u64 (x:Int) (s:Int)=((x*2^s%18446744073709551616:Nat):Int):=by
 unfold o0v;rw [p0F,show min s (IntKind.bits .u64)=s from k1p h,<-b0p];simp
theorem n0t {x s:Nat} (h:s<=64):g0H .u64 (x:Int) (s:Int)=((x/2^s:Nat):Int):=by
 rw [e0E (k:= .u64) s h];simp
theorem g1j {x y x0 x1 y0 y1:Nat} (hx:x=x1*4294967296+x0) (hy:y=y1*4294967296+y0):x*y=(x1*y1)*18446744073709551616+(x1*y0)*4294967296+(x0*y1)*4294967296+x0*y0:=by
 subst hx;subst hy;simp only [Nat.add_mul,l1m];have e1:x1*4294967296*(y1*4294967296)=x1*y1*18446744073709551616:=by
  rw [k1c,Nat.mul_left_comm 4294967296 y1,<-k1c]
 have e2:x1*4294967296*y0=x1*y0*4294967296:=by rw [k1c,j1Z 4294967296,<-k1c]
 have e3:x0*(y1*4294967296)=x0*y1*4294967296:=by rw [k1c]
 omega
theorem k0r {a b:Nat} (ha:a<4294967296) (hb:b<4294967296):a*b<=18446744065119617025:=by
 have:=l1S (show a<=4294967295 by omega) (show b<=4294967295 by omega);omega
structure KD (u32 u1 Y1 Y0 Q:Nat):Prop where
 b1:u1<4294967296
 b0:Y0<4294967296
 n1:2147483648<=Y1
 n2:Y1<4294967296
 lt:u32<Y1*4294967296+Y0
 q:Q=(u32*4294967296+u1)/(Y1*4294967296+Y0)
section
variable {u32 u1 Y1 Y0 Q:Nat} (k:KD u32 u1 Y1 Y0 Q)
include k
theorem KD.qlt:Q<4294967296:=by
 rw [k.q,j1K (by have:=k.n1;omega)];have:=k.lt;have:=k.b1;omega
theorem KD.le:Q<=u32/Y1:=by
 have h1:Q*(Y1*4294967296+Y0)<=u32*4294967296+u1:=by rw [k.q];exact l1b _ _
 rw [k1q (by have:=k.n1;omega)];rw [l1m,<-k1c] at h1;have:=k.b1;have h2:0<=Q*Y0:=w0F _;omega
theorem KD.gt {q r:Nat} (hr:r+q*Y1=u32) (h:4294967296<=q\/4294967296*r+u1<q*Y0):Q<q:=by
 rcases h with h|h
 .have:=k.qlt;omega
 .rw [k.q,j1K (by have:=k.n1;omega),l1m,<-k1c];subst hr;rw [Nat.add_mul];omega
theorem KD.eq {q r:Nat} (hr:r+q*Y1=u32) (hq:Q<=q) (h:q*Y0<=4294967296*r+u1):q=Q:=by
 refine Nat.le_antisymm ?_ hq;rw [k.q,k1q (by have:=k.n1;omega),l1m,<-k1c];subst hr;rw [Nat.add_mul];omega
theorem KD.eqB {q r:Nat} (hr:r+q*Y1=u32) (hq:Q<=q) (hb:q<=4294967296) (h:4294967296<=r):q=Q:=by
 refine k.eq hr hq ?_;have h1:q*Y0<=4294967296*Y0:=d1N _ hb;have:=k.b0;omega
theorem KD.init:u32/Y1<=4294967297:=by
 have h1:=k.n1;have h2:=k.lt;have h3:=k.b0;have h4:=k.n2;rw [<-Nat.lt_succ_iff,j1K (by omega)];omega
theorem KD.rem:(u32*4294967296+u1)-Q*(Y1*4294967296+Y0)=(u32*4294967296+u1)%(Y1*4294967296+Y0):=by
 rw [k.q,Nat.mod_eq_sub,j1Z (Y1*4294967296+Y0)]
end
theorem w0K {hi lo y s:Nat} (hy:y<18446744073709551616) (hlo:lo<18446744073709551616) (hhi:hi<y) (hs:s=64-d0W y):
  ∃Y u32 u10,Y=y*2^s/\Y<18446744073709551616/\9223372036854775808<=Y/\u32=hi*2^s+lo/2^(64-s)/\u10=lo*2^s%18446744073709551616/\u32<Y/\hi*2^s<18446744073709551616/\2^s∣hi*2^s/\lo/2^(64-s)<2^s/\s<=63/\
   u32*18446744073709551616+u10=(hi*18446744073709551616+lo)*2^s:=by
 have hy1:1<=y:=by omega
 have b1:=r0d y;have b2:=k0q y hy1;have b3:=p0t (u:=y) hy;have b4:1<=d0W y:=by unfold d0W;rw [if_neg (by omega)];omega
 have p0:0<2^s:=l1J s;have e1:2^(64-s)*2^s=18446744073709551616:=by rw [<-Nat.pow_add,show 64-s+s=64 by omega]
 have f1:y*2^s<18446744073709551616:=by
  rw [<-e1];refine Nat.mul_lt_mul_of_pos_right ?_ p0;rw [show 64-s=d0W y by omega];exact b1
 have f2:9223372036854775808<=y*2^s:=by
  have:=d1N (2^s) b2;rw [<-Nat.pow_add,show d0W y-1+s=63 by omega] at this;exact this
 have f3:(hi+1)*2^s<=y*2^s:=d1N _ hhi;rw [Nat.add_mul,Nat.one_mul] at f3;have f4:lo/2^(64-s)<2^s:=by
  rw [j1K (l1J _),j1Z,e1];exact hlo
 refine ⟨_,_,_,rfl,f1,f2,rfl,rfl,by omega,by omega,⟨hi,j1Z _ _⟩,f4,by omega,?_⟩;have g1:lo*2^s/18446744073709551616=lo/2^(64-s):=by
  rw [<-e1,Nat.mul_div_mul_right _ _ p0]
 have g2:=j1X (lo*2^s) 18446744073709551616;rw [g1] at g2;have g3:(hi*18446744073709551616+lo)*2^s=hi*2^s*18446744073709551616+lo*2^s:=by
  rw [Nat.add_mul,Nat.mul_right_comm]
 omega
end Go.Sy
namespace Go.Proofs.YtegbehopnoocnaaGreatDoor
open Go.RowKit Go.Sy
section
attribute [local irreducible] a0q a0r a0k a0P
theorem i1l {s:ByteArray} (h:i1k s 256 d0W=true) {x:Int} (h0:0<=x) (h1:x<256):a0i s x=(d0W x.toNat:Int):=by
 have:=d1R h (i:=x.toNat) (by omega);rw [<-this,l1A h0]
theorem u0T {u:Nat} (h:u<256):d0W u<=8:=by
 rcases f1L 8 (d0W u) with h1|h1
 .have hu:1<=u:=by
   rcases d1J u with e|e
   .subst e;simp [d0W] at h1
   .exact e
  have a:=k0q u hu;have:2^8<=2^(d0W u-1):=l1W (by omega) (by omega);omega
 .exact h1
theorem d1S {u c:Nat} {x:Int} (hx:x=((u/2^c:Nat):Int)) (h:c=0\/2^c<=u):(c:Int)+(d0W x.toNat:Int)=(d0W u:Int):=by
 subst hx;rw [p0F];rcases h with rfl|h
 .simp
 .rw [u0S u c h];omega
theorem d0N {u c:Nat} {x n:Int} (hn:n=(c:Int)) (hc:c<=56) (hx:x=((u/2^c:Nat):Int)) (h:c=0\/2^c<=u) (h1:x<256):IntKind.i64.wrap (n+IntKind.i64.wrap (d0W x.toNat:Int))=(d0W u:Int):=by
 have hb:=u0T (u:=x.toNat) (by omega);rw [a0m (n:=(d0W x.toNat:Int)) (by omega) (by omega),a0m (by omega) (by omega),hn];exact d1S hx h
theorem u0U (u:Nat) (hu:u<18446744073709551616):b0m Tryz.prog 108 [.int .u64 u] (.int .i64 (d0W u)):=by
 refine fEx Tryz.func108 ?_;repeat' ((conv=>whnf);first|(refine d0e ⟨by (try simp only [h0j,f0I,f0J,f0K] at*);(try simp (disch:=omega) only [h0k]);omega,i1j (n:=256) (by kernel_rfl) (by (try simp only [h0j,f0I,f0J,f0K] at*);(try simp (disch:=omega) only [h0k]);omega)⟩ ?_)|refine a0a ?_|(apply bRx<;>intro h<;>try (exfalso;(try dsimp only at h);omega)))
 all_goals (conv=>whnf)
 all_goals refine a0c ?_
 all_goals simp only [e0X]
 all_goals (try simp only [h0j,f0I,f0J,f0K] at*)
 all_goals rw [i1l (by kernel_rfl) (by (try simp (disch:=omega) only [h0k]);omega) (by (try simp (disch:=omega) only [h0k]);omega)]
 all_goals refine congrArg (SV.int .i64) ?_
 .exact d0N (c:=56) (by first|rfl|((try simp (disch:=omega) only [h0k]);omega)) (by omega) (by (try simp (disch:=omega) only [h0k]);omega) (by omega) (by (try simp (disch:=omega) only [h0k]);omega)
 .exact d0N (c:=48) (by first|rfl|((try simp (disch:=omega) only [h0k]);omega)) (by omega) (by (try simp (disch:=omega) only [h0k]);omega) (by omega) (by (try simp (disch:=omega) only [h0k]);omega)
 .exact d0N (c:=40) (by first|rfl|((try simp (disch:=omega) only [h0k]);omega)) (by omega) (by (try simp (disch:=omega) only [h0k]);omega) (by omega) (by (try simp (disch:=omega) only [h0k]);omega)
 .exact d0N (c:=32) (by first|rfl|((try simp (disch:=omega) only [h0k]);omega)) (by omega) (by (try simp (disch:=omega) only [h0k]);omega) (by omega) (by (try simp (disch:=omega) only [h0k]);omega)
 .exact d0N (c:=24) (by first|rfl|((try simp (disch:=omega) only [h0k]);omega)) (by omega) (by (try simp (disch:=omega) only [h0k]);omega) (by omega) (by (try simp (disch:=omega) only [h0k]);omega)
 .exact d0N (c:=16) (by first|rfl|((try simp (disch:=omega) only [h0k]);omega)) (by omega) (by (try simp (disch:=omega) only [h0k]);omega) (by omega) (by (try simp (disch:=omega) only [h0k]);omega)
 .exact d0N (c:=8) (by first|rfl|((try simp (disch:=omega) only [h0k]);omega)) (by omega) (by (try simp (disch:=omega) only [h0k]);omega) (by omega) (by (try simp (disch:=omega) only [h0k]);omega)
 .exact d0N (c:=0) (by first|rfl|((try simp (disch:=omega) only [h0k]);omega)) (by omega) (by (try simp (disch:=omega) only [h0k]);omega) (by omega) (by (try simp (disch:=omega) only [h0k]);omega)
end
section
attribute [local irreducible] a0q a0r a0k a0P
theorem k0s {x:Nat}:g0H .u64 (x:Int) 32=((x/4294967296:Nat):Int):=n0t (s:=32) (by omega)
theorem z0A {a b:Nat} (h:a*b<18446744073709551616):IntKind.u64.wrap ((a:Int)*(b:Int))=((a*b:Nat):Int):=by
 rw [<-l1v];exact a0U (by omega) (by omega)
theorem w0L {a b:Nat} (h:a+b<18446744073709551616):IntKind.u64.wrap ((a:Int)+(b:Int))=((a+b:Nat):Int):=by
 rw [<-k1Q];exact a0U (by omega) (by omega)
theorem h1V {k j:IntKind} {a b c d:Int} (h:a=c) (h':b=d):SV.tup [.int k a,.int j b]=SV.tup [.int k c,.int j d]:=by rw [h,h']
theorem m0f (x y:Nat) (hx:x<18446744073709551616) (hy:y<18446744073709551616):b0m Tryz.prog 192 [.int .u64 x,.int .u64 y] (.tup [.int .u64 (x*y/18446744073709551616:Nat),.int .u64 (x*y%18446744073709551616:Nat)]):=by
 refine fEx Tryz.func192 ?_;repeat' ((conv=>whnf);first|refine a0a ?_|(apply bRx<;>intro h<;>try (exfalso;(try dsimp only at h);omega)))
 all_goals (conv=>whnf)
 refine a0c ?_;have e1:=f0m hx;have e3:=f0m hy;have k:=g1j (x:=x) (y:=y) (x0:=x%4294967296) (x1:=x/4294967296) (y0:=y%4294967296) (y1:=y/4294967296) (by omega) (by omega);have w:IntKind.u64.wrap ((x:Int)*(y:Int))=((x*y%18446744073709551616:Nat):Int):=by rw [<-l1v,b0p]
 have a0:x%4294967296<4294967296:=by omega
 have a1:x/4294967296<4294967296:=by omega
 have b0:y%4294967296<4294967296:=by omega
 have b1:y/4294967296<4294967296:=by omega
 simp only [e0X,e1,e3,k0s,w];generalize x%4294967296=x0 at*;generalize x/4294967296=x1 at*;generalize y%4294967296=y0 at*;generalize y/4294967296=y1 at*;have m00:=k0r a0 b0;have m10:=k0r a1 b0;have m01:=k0r a0 b1;have m11:=k0r a1 b1;rw [z0A (a:=x0) (b:=y0) (by omega),z0A (a:=x1) (b:=y0) (by omega),z0A (a:=x0) (b:=y1) (by omega),z0A (a:=x1) (b:=y1) (by omega),k];generalize x0*y0=S at*;generalize x1*y0=Q at*;generalize x0*y1=R at*;generalize x1*y1=T at*;rw [k0s,w0L (by omega),k0s,f0m (by omega),w0L (by omega),w0L (by omega),k0s,w0L (by omega)];refine h1V ?_ rfl;omega
theorem g0r (u:Nat) (hu:u<18446744073709551616):b0m Tryz.prog 209 [.int .u64 u] (.int .i64 (64-d0W u:Nat)):=by
 have c:=u0U u hu;have hb:=p0t (u:=u) hu;refine fEx Tryz.func209 ?_;repeat' ((conv=>whnf);first|refine cPx c ?_|refine a0a ?_|(apply bRx<;>intro h<;>try (exfalso;(try dsimp only at h);omega)))
 all_goals (conv=>whnf)
 refine a0c (congrArg (SV.int .i64) ?_)
 (try simp (disch:=omega) only [h0k])
 omega
theorem i1m {a:Nat} (h:a*4294967296<18446744073709551616):IntKind.u64.wrap ((a:Int)*4294967296)=((a*4294967296:Nat):Int):=z0A (b:=4294967296) h
theorem d1T {a:Nat} (h:4294967296*a<18446744073709551616):IntKind.u64.wrap (4294967296*(a:Int))=((4294967296*a:Nat):Int):=z0A (a:=4294967296) h
theorem s0T {a b c d m:Nat} (h1:a=c%18446744073709551616) (h2:b=d%18446744073709551616) (h3:d<=c) (h4:c-d=m) (h5:m<18446744073709551616):IntKind.u64.wrap ((a:Int)-(b:Int))=(m:Int):=by
 subst h1;subst h2;subst h4;simp only [IntKind.wrap,IntKind.bits,IntKind.signed];simp;omega
theorem a1C {u32 u10 Q1 Q0 Y R1 R0:Nat} (l1:Q1*Y<=u32*4294967296+u10/4294967296) (r1:u32*4294967296+u10/4294967296-Q1*Y=R1) (z2:Q0*Y+R0=R1*4294967296+u10%4294967296):u32*18446744073709551616+u10=Q1*Y*4294967296+Q0*Y+R0:=by
 generalize Q1*Y=a at*;generalize Q0*Y=b at*;omega
set_option maxHeartbeats 4000000 in
theorem m0g (hi lo y:Nat) (hlo:lo<18446744073709551616) (hy:y<18446744073709551616) (hhi:hi<y):b0m Tryz.prog 194 [.int .u64 hi,.int .u64 lo,.int .u64 y] (.tup [.int .u64 ((hi*18446744073709551616+lo)/y:Nat),.int .u64 ((hi*18446744073709551616+lo)%y:Nat)]):=by
 have c:=g0r y hy;by_cases h0:hi=0
 .subst h0;refine fEx Tryz.func194 ?_;repeat' ((conv=>whnf);first|refine cPx c ?_|refine a0a ?_|(apply bRx<;>intro h<;>try (exfalso;(try dsimp only at h);omega)))
  all_goals (conv=>whnf)
  refine a0c ?_;simp only [e0X,l1Q,z0z];refine h1V ?_ ?_
  .rw [show ((lo:Int).tdiv (y:Int))=((lo/y:Nat):Int) from rfl];exact a0U (i1i _) (by have:=l1c lo y;omega)
  .rfl
 .obtain ⟨Y,u32,u10,hY,Y1,Y2,h32,h10,hlt,k1,k2,k3,k4,k5⟩:=w0K hy hlo hhi rfl;refine fEx Tryz.func194 ?_;generalize 64-d0W y=s at*;have es:IntKind.u64.wrap (s:Int)=(s:Int):=a0U (by omega) (by omega);have e64:IntKind.u64.wrap (64-(s:Int))=((64-s:Nat):Int):=by rw [a0U (by omega) (by omega)];omega
  have eY:o0v .u64 (y:Int) (IntKind.u64.wrap (s:Int))=(Y:Int):=by rw [es,n0s (by omega),hY,l1T (by omega)]
  have e32:ior .u64 (o0v .u64 (hi:Int) (IntKind.u64.wrap (s:Int))) (g0H .u64 (lo:Int) (IntKind.u64.wrap (64-IntKind.u64.wrap (s:Int))))=(u32:Int):=by
   rw [es,e64,n0s (by omega),n0t (by omega),l1T k1,h32];exact a1B k1 k2 k3 (by have:=l1c lo (2^(64-s));omega)
  have e10:o0v .u64 (lo:Int) (IntKind.u64.wrap (s:Int))=(u10:Int):=by rw [es,n0s (by omega),h10]
  have hu10:u10<18446744073709551616:=by omega
  have c0:0<=IntKind.u64.wrap (s:Int):=by rw [es];omega
  have c1:0<=IntKind.u64.wrap (64-IntKind.u64.wrap (s:Int)):=by rw [es,e64];omega
  have c2:g0H .u64 (o0v .u64 (y:Int) (IntKind.u64.wrap (s:Int))) 32≠0:=by rw [eY,k0s];omega
  repeat' ((conv=>whnf);first|refine cPx c ?_|refine d0e c0 ?_|refine d0e c1 ?_|refine d0e c2 ?_|refine a0a ?_|(apply bRx<;>intro h<;>try (exfalso;(try dsimp only at h);omega)))
  all_goals (conv=>whnf)
  have e9:g0H .u64 (o0v .u64 (y:Int) (IntKind.u64.wrap (s:Int))) 32=((Y/4294967296:Nat):Int):=by rw [eY,k0s]
  have eA:d1h .u64 (o0v .u64 (y:Int) (IntKind.u64.wrap (s:Int))) 4294967295=((Y%4294967296:Nat):Int):=by rw [eY,f0m (by omega)]
  have e13:g0H .u64 (o0v .u64 (lo:Int) (IntKind.u64.wrap (s:Int))) 32=((u10/4294967296:Nat):Int):=by rw [e10,k0s]
  have e14:d1h .u64 (o0v .u64 (lo:Int) (IntKind.u64.wrap (s:Int))) 4294967295=((u10%4294967296:Nat):Int):=by rw [e10,f0m (by omega)]
  have tdq:∀a b:Nat,a<18446744073709551616->IntKind.u64.wrap ((a:Int).tdiv (b:Int))=((a/b:Nat):Int):=fun a b h=>by
   rw [show ((a:Int).tdiv (b:Int))=((a/b:Nat):Int) from rfl];exact a0U (i1i _) (by have:=l1c a b;omega)
  have tdr:∀a b:Nat,a<18446744073709551616->IntKind.u64.wrap ((a:Int)-IntKind.u64.wrap (((a/b:Nat):Int)*(b:Int)))=((a%b:Nat):Int):=fun a b h=>by
   have h1:=j1X a b;rw [j1Z] at h1;rw [z0A (by omega)];rw [a0U (by omega) (by omega)];omega
  have e15:IntKind.u64.wrap ((ior .u64 (o0v .u64 (hi:Int) (IntKind.u64.wrap (s:Int))) (g0H .u64 (lo:Int) (IntKind.u64.wrap (64-IntKind.u64.wrap (s:Int))))).tdiv (g0H .u64 (o0v .u64 (y:Int) (IntKind.u64.wrap (s:Int))) 32))=((u32/(Y/4294967296):Nat):Int):=by
   rw [e32,e9,tdq _ _ (by omega)]
  have e16:IntKind.u64.wrap (ior .u64 (o0v .u64 (hi:Int) (IntKind.u64.wrap (s:Int))) (g0H .u64 (lo:Int) (IntKind.u64.wrap (64-IntKind.u64.wrap (s:Int))))-IntKind.u64.wrap (IntKind.u64.wrap ((ior .u64 (o0v .u64 (hi:Int) (IntKind.u64.wrap (s:Int))) (g0H .u64 (lo:Int) (IntKind.u64.wrap (64-IntKind.u64.wrap (s:Int))))).tdiv (g0H .u64 (o0v .u64 (y:Int) (IntKind.u64.wrap (s:Int))) 32))*g0H .u64 (o0v .u64 (y:Int) (IntKind.u64.wrap (s:Int))) 32))=((u32%(Y/4294967296):Nat):Int):=by
   rw [e15,e32,e9,tdr _ _ (by omega)]
  have eYY:Y/4294967296*4294967296+Y%4294967296=Y:=Nat.div_add_mod' _ _;obtain ⟨Q1,hQ1⟩:∃Q1,Q1=(u32*4294967296+u10/4294967296)/(Y/4294967296*4294967296+Y%4294967296):=⟨_,rfl⟩;have K1:KD u32 (u10/4294967296) (Y/4294967296) (Y%4294967296) Q1:=⟨by omega,by omega,by omega,by omega,by omega,hQ1⟩;obtain ⟨R1,hR1⟩:∃R1,R1=(u32*4294967296+u10/4294967296)%Y:=⟨_,rfl⟩;have hR1lt:R1<Y:=by rw [hR1];exact j1l _ (by omega)
  obtain ⟨Q0,hQ0⟩:∃Q0,Q0=(R1*4294967296+u10%4294967296)/(Y/4294967296*4294967296+Y%4294967296):=⟨_,rfl⟩;have K0:KD R1 (u10%4294967296) (Y/4294967296) (Y%4294967296) Q0:=⟨by omega,by omega,by omega,by omega,by omega,hQ0⟩;have qQ1:=K1.qlt;have qQ0:=K0.qlt;have r1:=K1.rem;have r0:=K0.rem;rw [eYY] at r1 r0 hQ1 hQ0;rw [<-hR1] at r1;have l1:Q1*Y<=u32*4294967296+u10/4294967296:=by rw [hQ1];exact l1b _ _
  have l0:Q0*Y<=R1*4294967296+u10%4294967296:=by rw [hQ0];exact l1b _ _
  have e17:IntKind.u64.wrap (IntKind.u64.wrap (IntKind.u64.wrap ((u32:Int)*4294967296)+((u10/4294967296:Nat):Int))-IntKind.u64.wrap ((Q1:Int)*(Y:Int)))=(R1:Int):=by
   have x1:IntKind.u64.wrap ((u32:Int)*4294967296)=((u32*4294967296%18446744073709551616:Nat):Int):=by rw [<-b0p];rfl
   have x2:IntKind.u64.wrap (((u32*4294967296%18446744073709551616:Nat):Int)+((u10/4294967296:Nat):Int))=(((u32*4294967296+u10/4294967296)%18446744073709551616:Nat):Int):=by
    rw [<-k1Q,b0p];congr 1;omega
   have x3:IntKind.u64.wrap ((Q1:Int)*(Y:Int))=((Q1*Y%18446744073709551616:Nat):Int):=by rw [<-b0p];rfl
   rw [x1,x2,x3];exact s0T rfl rfl l1 r1 (by omega)
  have e18:IntKind.u64.wrap ((IntKind.u64.wrap (IntKind.u64.wrap (IntKind.u64.wrap ((u32:Int)*4294967296)+((u10/4294967296:Nat):Int))-IntKind.u64.wrap ((Q1:Int)*(Y:Int)))).tdiv ((Y/4294967296:Nat):Int))=((R1/(Y/4294967296):Nat):Int):=by
   rw [e17,tdq _ _ (by omega)]
  have e16':IntKind.u64.wrap (IntKind.u64.wrap (IntKind.u64.wrap (IntKind.u64.wrap ((u32:Int)*4294967296)+((u10/4294967296:Nat):Int))-IntKind.u64.wrap ((Q1:Int)*(Y:Int)))-IntKind.u64.wrap (IntKind.u64.wrap ((IntKind.u64.wrap (IntKind.u64.wrap (IntKind.u64.wrap ((u32:Int)*4294967296)+((u10/4294967296:Nat):Int))-IntKind.u64.wrap ((Q1:Int)*(Y:Int)))).tdiv ((Y/4294967296:Nat):Int))*((Y/4294967296:Nat):Int)))=((R1%(Y/4294967296):Nat):Int):=by
   rw [e18,e17,tdr _ _ (by omega)]
  obtain ⟨R0,hR0⟩:∃R0,R0=(R1*4294967296+u10%4294967296)%Y:=⟨_,rfl⟩;have hR0lt:R0<Y:=by rw [hR0];exact j1l _ (by omega)
  have p0:0<2^s:=l1J s;have whole:(hi*18446744073709551616+lo)*2^s=(Q1*4294967296+Q0)*Y+R0:=by
   rw [<-k5,Nat.add_mul];have z1:Q1*4294967296*Y=(Q1*Y)*4294967296:=Nat.mul_right_comm _ _ _;have z2:=j1X (R1*4294967296+u10%4294967296) Y;rw [<-hQ0,<-hR0,j1Z Y] at z2;rw [z1];exact a1C l1 r1 z2
  have quot:(hi*18446744073709551616+lo)/y=Q1*4294967296+Q0:=by
   rw [<-Nat.mul_div_mul_right _ _ p0,whole,<-hY,k1l,Nat.add_mul_div_right _ _ (by omega),l1n hR0lt,z0z]
  have rest:(hi*18446744073709551616+lo)%y=R0/2^s:=by
   have z:=Nat.mul_mod_mul_right (2^s) (hi*18446744073709551616+lo) y;rw [whole,<-hY,k1l,Nat.add_mul_mod_self_right,l1T hR0lt] at z;rw [z,Nat.mul_div_cancel _ p0]
  have eq:IntKind.u64.wrap (IntKind.u64.wrap ((Q1:Int)*4294967296)+(Q0:Int))=(((hi*18446744073709551616+lo)/y:Nat):Int):=by
   rw [i1m (by omega),w0L (by omega),quot]
  have er:g0H .u64 (IntKind.u64.wrap (IntKind.u64.wrap (IntKind.u64.wrap ((R1:Int)*4294967296)+((u10%4294967296:Nat):Int))-IntKind.u64.wrap ((Q0:Int)*(Y:Int)))) (s:Int)=(((hi*18446744073709551616+lo)%y:Nat):Int):=by
   have x1:IntKind.u64.wrap ((R1:Int)*4294967296)=((R1*4294967296%18446744073709551616:Nat):Int):=by rw [<-b0p];rfl
   have x2:IntKind.u64.wrap (((R1*4294967296%18446744073709551616:Nat):Int)+((u10%4294967296:Nat):Int))=(((R1*4294967296+u10%4294967296)%18446744073709551616:Nat):Int):=by
    rw [<-k1Q,b0p];congr 1;omega
   have x3:IntKind.u64.wrap ((Q0:Int)*(Y:Int))=((Q0*Y%18446744073709551616:Nat):Int):=by rw [<-b0p];rfl
   rw [x1,x2,x3,s0T rfl rfl l0 (r0.trans hR0.symm) (by omega),n0t (by omega),rest]
  refine a0E (fun x:Nat×Nat=>⟨[(2,.int .u64 Y),(8,.int .u64 s),(9,.int .u64 (Y/4294967296:Nat)),(10,.int .u64 (Y%4294967296:Nat)),(11,.int .u64 u32),(13,.int .u64 (u10/4294967296:Nat)),(14,.int .u64 (u10%4294967296:Nat)),(15,.int .u64 x.1),(16,.int .u64 x.2)],[],1⟩) (fun x=>x.2+x.1*(Y/4294967296)=u32/\Q1<=x.1/\x.1<=4294967297/\x.2<4294967296) (fun x=>x.1) (u32/(Y/4294967296),u32%(Y/4294967296)) [0] []
   ⟨rfl,⟨congrArg (fun z=>some (SV.int .u64 z)) eY,congrArg (fun z=>some (SV.int .u64 z)) es,congrArg (fun z=>some (SV.int .u64 z)) e9,congrArg (fun z=>some (SV.int .u64 z)) eA,congrArg (fun z=>some (SV.int .u64 z)) e32,congrArg (fun z=>some (SV.int .u64 z)) e13,congrArg (fun z=>some (SV.int .u64 z)) e14,congrArg (fun z=>some (SV.int .u64 z)) e15,congrArg (fun z=>some (SV.int .u64 z)) e16,trivial⟩,trivial⟩
   ⟨by dsimp only;have:=j1X u32 (Y/4294967296);rw [j1Z] at this;omega,K1.le,K1.init,by dsimp only;have:=j1l u32 (y:=Y/4294967296) (by omega);omega⟩ ?_
  clear e9 eA e13 e14 e15 e16 eY e32 e10 es e64 c0 c1 c2 c;rintro ⟨q,r⟩ ⟨i1,i2,i3,i4⟩;dsimp only at*;have w1:q<4294967296->IntKind.u64.wrap ((q:Int)*((Y%4294967296:Nat):Int))=((q*(Y%4294967296):Nat):Int):=fun h=>z0A (by have:=k0r h (show Y%4294967296<4294967296 by omega);omega)
  have w2:IntKind.u64.wrap (4294967296*(r:Int))=((4294967296*r:Nat):Int):=d1T (by omega);have w3:IntKind.u64.wrap (((4294967296*r:Nat):Int)+((u10/4294967296:Nat):Int))=((4294967296*r+u10/4294967296:Nat):Int):=w0L (by omega);have w4:1<=q->IntKind.u64.wrap ((q:Int)-1)=((q-1:Nat):Int):=fun h=>by rw [a0U (by omega) (by omega)];omega
  have w5:IntKind.u64.wrap ((r:Int)+((Y/4294967296:Nat):Int))=((r+Y/4294967296:Nat):Int):=w0L (by omega);have w6:1<=q->(r+Y/4294967296)+(q-1)*(Y/4294967296)=u32:=fun h=>by
   have:(q-1+1)*(Y/4294967296)=q*(Y/4294967296):=by rw [Nat.sub_add_cancel h]
   rw [Nat.add_mul] at this;omega
  by_cases hc:4294967296<=q\/4294967296*r+u10/4294967296<q*(Y%4294967296)
  .have g1:=K1.gt i1 hc;have v6:=w6 (by omega);have v4:=w4 (by omega);by_cases hb:4294967296<=r+Y/4294967296
   .have hq:=K1.eqB v6 (by omega) (by omega) hb;rw [hq] at v4;repeat' ((conv=>whnf);first|(refine c0G (fun h=> ?_) (fun h=> ?_)<;>try (exfalso;first|omega|(rw [w2,w3,w1 (by omega)] at h;omega)|(rw [w5] at h;omega)))|refine a0a ?_|(apply bRx<;>intro h<;>try (exfalso;(try dsimp only at h);omega)))
    all_goals (conv=>whnf)
    all_goals simp only [v4]
    all_goals
     refine a0E (fun x:Nat×Nat=>⟨[(2,.int .u64 Y),(8,.int .u64 s),(9,.int .u64 (Y/4294967296:Nat)),(10,.int .u64 (Y%4294967296:Nat)),(14,.int .u64 (u10%4294967296:Nat)),(15,.int .u64 Q1),(17,.int .u64 R1),(18,.int .u64 x.1),(16,.int .u64 x.2)],[],1⟩) (fun x=>x.2+x.1*(Y/4294967296)=R1/\Q0<=x.1/\x.1<=4294967297/\x.2<4294967296) (fun x=>x.1) (R1/(Y/4294967296),R1%(Y/4294967296)) [0] []
      ⟨rfl,⟨rfl,rfl,rfl,rfl,rfl,rfl,congrArg (fun z=>some (SV.int .u64 z)) e17,congrArg (fun z=>some (SV.int .u64 z)) e18,congrArg (fun z=>some (SV.int .u64 z)) e16',trivial⟩,trivial⟩
      ⟨by dsimp only;have:=j1X R1 (Y/4294967296);rw [j1Z] at this;omega,K0.le,K0.init,by dsimp only;have:=j1l R1 (y:=Y/4294967296) (by omega);omega⟩ ?_
     rintro ⟨q',r'⟩ ⟨i1',i2',i3',i4'⟩;dsimp only at*;have w1':q'<4294967296->IntKind.u64.wrap ((q':Int)*((Y%4294967296:Nat):Int))=((q'*(Y%4294967296):Nat):Int):=fun h=>z0A (by have:=k0r h (show Y%4294967296<4294967296 by omega);omega)
     have w2':IntKind.u64.wrap (4294967296*(r':Int))=((4294967296*r':Nat):Int):=d1T (by omega);have w3':IntKind.u64.wrap (((4294967296*r':Nat):Int)+((u10%4294967296:Nat):Int))=((4294967296*r'+u10%4294967296:Nat):Int):=w0L (by omega);have w4':1<=q'->IntKind.u64.wrap ((q':Int)-1)=((q'-1:Nat):Int):=fun h=>by rw [a0U (by omega) (by omega)];omega
     have w5':IntKind.u64.wrap ((r':Int)+((Y/4294967296:Nat):Int))=((r'+Y/4294967296:Nat):Int):=w0L (by omega);have w6':1<=q'->(r'+Y/4294967296)+(q'-1)*(Y/4294967296)=R1:=fun h=>by
      have:(q'-1+1)*(Y/4294967296)=q'*(Y/4294967296):=by rw [Nat.sub_add_cancel h]
      rw [Nat.add_mul] at this;omega
     have fin:SV.tup [.int .u64 (IntKind.u64.wrap (IntKind.u64.wrap ((Q1:Int)*4294967296)+(Q0:Int))),.int .u64 (g0H .u64 (IntKind.u64.wrap (IntKind.u64.wrap (IntKind.u64.wrap ((R1:Int)*4294967296)+((u10%4294967296:Nat):Int))-IntKind.u64.wrap ((Q0:Int)*(Y:Int)))) (s:Int))]=SV.tup [.int .u64 ((hi*18446744073709551616+lo)/y:Nat),.int .u64 ((hi*18446744073709551616+lo)%y:Nat)]:=h1V eq er;by_cases hc':4294967296<=q'\/4294967296*r'+u10%4294967296<q'*(Y%4294967296)
     .have g1':=K0.gt i1' hc';have v6':=w6' (by omega);have v4':=w4' (by omega);by_cases hb':4294967296<=r'+Y/4294967296
      .have hq':=K0.eqB v6' (by omega) (by omega) hb';rw [hq'] at v4';repeat' ((conv=>whnf);first|(refine c0G (fun h=> ?_) (fun h=> ?_)<;>try (exfalso;first|omega|(rw [w2',w3',w1' (by omega)] at h;omega)|(rw [w5'] at h;omega)))|refine a0a ?_|(apply bRx<;>intro h<;>try (exfalso;(try dsimp only at h);omega)))
       all_goals (conv=>whnf)
       all_goals refine a0c ?_
       all_goals simp only [v4']
       all_goals exact fin
      .repeat' ((conv=>whnf);first|(refine c0G (fun h=> ?_) (fun h=> ?_)<;>try (exfalso;first|omega|(rw [w2',w3',w1' (by omega)] at h;omega)|(rw [w5'] at h;omega)))|refine a0a ?_|(apply bRx<;>intro h<;>try (exfalso;(try dsimp only at h);omega)))
       all_goals (conv=>whnf)
       all_goals exact ⟨(q'-1,r'+Y/4294967296),[0],[],⟨v6',by dsimp only;omega,by dsimp only;omega,by dsimp only;omega⟩,by dsimp only;omega,⟨rfl,⟨rfl,rfl,rfl,rfl,rfl,rfl,rfl,congrArg (fun z=>some (SV.int .u64 z)) v4',congrArg (fun z=>some (SV.int .u64 z)) w5',trivial⟩,trivial⟩⟩
     .have hq':=K0.eq i1' i2' (by omega);subst hq';repeat' ((conv=>whnf);first|(refine c0G (fun h=> ?_) (fun h=> ?_)<;>try (exfalso;first|omega|(rw [w2',w3',w1' (by omega)] at h;omega)|(rw [w5'] at h;omega)))|refine a0a ?_|(apply bRx<;>intro h<;>try (exfalso;(try dsimp only at h);omega)))
      all_goals (conv=>whnf)
      all_goals exact a0c fin
   .repeat' ((conv=>whnf);first|(refine c0G (fun h=> ?_) (fun h=> ?_)<;>try (exfalso;first|omega|(rw [w2,w3,w1 (by omega)] at h;omega)|(rw [w5] at h;omega)))|refine a0a ?_|(apply bRx<;>intro h<;>try (exfalso;(try dsimp only at h);omega)))
    all_goals (conv=>whnf)
    all_goals exact ⟨(q-1,r+Y/4294967296),[0],[],⟨v6,by dsimp only;omega,by dsimp only;omega,by dsimp only;omega⟩,by dsimp only;omega,⟨rfl,⟨rfl,rfl,rfl,rfl,rfl,rfl,rfl,congrArg (fun z=>some (SV.int .u64 z)) v4,congrArg (fun z=>some (SV.int .u64 z)) w5,trivial⟩,trivial⟩⟩
  .have hq:=(K1.eq i1 i2 (by omega)).symm;subst hq;repeat' ((conv=>whnf);first|(refine c0G (fun h=> ?_) (fun h=> ?_)<;>try (exfalso;first|omega|(rw [w2,w3,w1 (by omega)] at h;omega)|(rw [w5] at h;omega)))|refine a0a ?_|(apply bRx<;>intro h<;>try (exfalso;(try dsimp only at h);omega)))
   all_goals (conv=>whnf)
   refine a0E (fun x:Nat×Nat=>⟨[(2,.int .u64 Y),(8,.int .u64 s),(9,.int .u64 (Y/4294967296:Nat)),(10,.int .u64 (Y%4294967296:Nat)),(14,.int .u64 (u10%4294967296:Nat)),(15,.int .u64 Q1),(17,.int .u64 R1),(18,.int .u64 x.1),(16,.int .u64 x.2)],[],1⟩) (fun x=>x.2+x.1*(Y/4294967296)=R1/\Q0<=x.1/\x.1<=4294967297/\x.2<4294967296) (fun x=>x.1) (R1/(Y/4294967296),R1%(Y/4294967296)) [0] []
    ⟨rfl,⟨rfl,rfl,rfl,rfl,rfl,rfl,congrArg (fun z=>some (SV.int .u64 z)) e17,congrArg (fun z=>some (SV.int .u64 z)) e18,congrArg (fun z=>some (SV.int .u64 z)) e16',trivial⟩,trivial⟩
    ⟨by dsimp only;have:=j1X R1 (Y/4294967296);rw [j1Z] at this;omega,K0.le,K0.init,by dsimp only;have:=j1l R1 (y:=Y/4294967296) (by omega);omega⟩ ?_
   rintro ⟨q',r'⟩ ⟨i1',i2',i3',i4'⟩;dsimp only at*;have w1':q'<4294967296->IntKind.u64.wrap ((q':Int)*((Y%4294967296:Nat):Int))=((q'*(Y%4294967296):Nat):Int):=fun h=>z0A (by have:=k0r h (show Y%4294967296<4294967296 by omega);omega)
   have w2':IntKind.u64.wrap (4294967296*(r':Int))=((4294967296*r':Nat):Int):=d1T (by omega);have w3':IntKind.u64.wrap (((4294967296*r':Nat):Int)+((u10%4294967296:Nat):Int))=((4294967296*r'+u10%4294967296:Nat):Int):=w0L (by omega);have w4':1<=q'->IntKind.u64.wrap ((q':Int)-1)=((q'-1:Nat):Int):=fun h=>by rw [a0U (by omega) (by omega)];omega
   have w5':IntKind.u64.wrap ((r':Int)+((Y/4294967296:Nat):Int))=((r'+Y/4294967296:Nat):Int):=w0L (by omega);have w6':1<=q'->(r'+Y/4294967296)+(q'-1)*(Y/4294967296)=R1:=fun h=>by
    have:(q'-1+1)*(Y/4294967296)=q'*(Y/4294967296):=by rw [Nat.sub_add_cancel h]
    rw [Nat.add_mul] at this;omega
   have fin:SV.tup [.int .u64 (IntKind.u64.wrap (IntKind.u64.wrap ((Q1:Int)*4294967296)+(Q0:Int))),.int .u64 (g0H .u64 (IntKind.u64.wrap (IntKind.u64.wrap (IntKind.u64.wrap ((R1:Int)*4294967296)+((u10%4294967296:Nat):Int))-IntKind.u64.wrap ((Q0:Int)*(Y:Int)))) (s:Int))]=SV.tup [.int .u64 ((hi*18446744073709551616+lo)/y:Nat),.int .u64 ((hi*18446744073709551616+lo)%y:Nat)]:=h1V eq er;by_cases hc':4294967296<=q'\/4294967296*r'+u10%4294967296<q'*(Y%4294967296)
   .have g1':=K0.gt i1' hc';have v6':=w6' (by omega);have v4':=w4' (by omega);by_cases hb':4294967296<=r'+Y/4294967296
    .have hq':=K0.eqB v6' (by omega) (by omega) hb';rw [hq'] at v4';repeat' ((conv=>whnf);first|(refine c0G (fun h=> ?_) (fun h=> ?_)<;>try (exfalso;first|omega|(rw [w2',w3',w1' (by omega)] at h;omega)|(rw [w5'] at h;omega)))|refine a0a ?_|(apply bRx<;>intro h<;>try (exfalso;(try dsimp only at h);omega)))
     all_goals (conv=>whnf)
     all_goals refine a0c ?_
     all_goals simp only [v4']
     all_goals exact fin
    .repeat' ((conv=>whnf);first|(refine c0G (fun h=> ?_) (fun h=> ?_)<;>try (exfalso;first|omega|(rw [w2',w3',w1' (by omega)] at h;omega)|(rw [w5'] at h;omega)))|refine a0a ?_|(apply bRx<;>intro h<;>try (exfalso;(try dsimp only at h);omega)))
     all_goals (conv=>whnf)
     all_goals exact ⟨(q'-1,r'+Y/4294967296),[0],[],⟨v6',by dsimp only;omega,by dsimp only;omega,by dsimp only;omega⟩,by dsimp only;omega,⟨rfl,⟨rfl,rfl,rfl,rfl,rfl,rfl,rfl,congrArg (fun z=>some (SV.int .u64 z)) v4',congrArg (fun z=>some (SV.int .u64 z)) w5',trivial⟩,trivial⟩⟩
   .have hq':=K0.eq i1' i2' (by omega);subst hq';repeat' ((conv=>whnf);first|(refine c0G (fun h=> ?_) (fun h=> ?_)<;>try (exfalso;first|omega|(rw [w2',w3',w1' (by omega)] at h;omega)|(rw [w5'] at h;omega)))|refine a0a ?_|(apply bRx<;>intro h<;>try (exfalso;(try dsimp only at h);omega)))
    all_goals (conv=>whnf)
    all_goals exact a0c fin
end
section
attribute [local irreducible] a0q a0r a0k a0P
theorem h0l (n:Int):b0m Tryz.prog 110 [.int .i64 n] (.bool (decide (-4503599627370496<=n/\n<=4503599627370496))):=by
 refine fEx Tryz.func110 ?_;repeat' ((conv=>whnf);first|refine a0a ?_|(apply bRx<;>intro h<;>try (exfalso;(try dsimp only at h);omega)))
 all_goals (conv=>whnf)
 .exact a0c (congrArg SV.bool (by rw [decide_eq_decide];omega))
 .exact a0c (congrArg SV.bool (by rw [eq_comm,decide_eq_false_iff_not];omega))
theorem p0v (n:Int):b0m Tryz.prog 125 [.int .i64 n] (.bool (decide (-4503599627370496<=n/\n<=4503599627370496))):=by
 refine fEx Tryz.func125 ?_;repeat' ((conv=>whnf);first|refine a0a ?_|(apply bRx<;>intro h<;>try (exfalso;(try dsimp only at h);omega)))
 all_goals (conv=>whnf)
 .exact a0c (congrArg SV.bool (by rw [decide_eq_decide];omega))
 .exact a0c (congrArg SV.bool (by rw [eq_comm,decide_eq_false_iff_not];omega))
def b0O (a:Int) (c:ByteArray):Int:=if d0M c=false then 11 else if-4503599627370496<=a/\a<=4503599627370496 then 0 else 4
theorem e0F (a:Int) (c:ByteArray):(b0O a c=11\/b0O a c=4)\/(b0O a c=0/\d0M c=true/\-4503599627370496<=a/\a<=4503599627370496):=by
 unfold b0O;split
 .exact .inl (.inl rfl)
 .split
  .rename_i h1 h2;exact .inr ⟨rfl,by cases h:d0M c<;>simp_all,h2⟩
  .exact .inl (.inr rfl)
attribute [irreducible] b0O
theorem d0r (a:Int) (c:ByteArray):b0m Tryz.prog 62 [.agg [.int .i64 a,.str c]] (.int .i64 (b0O a c)):=by
 refine fEx Tryz.func62 ?_;repeat' ((conv=>whnf);first|refine cPx (e0T _) ?_|refine cPx (h0l _) ?_|refine a0a ?_|(apply bRx<;>intro h<;>try (exfalso;(try dsimp only at h);omega)))
 all_goals (conv=>whnf)
 all_goals refine a0c (congrArg (SV.int .i64) ?_)
 all_goals unfold b0O
 all_goals simp_all
theorem c0v (a:Int) (c:ByteArray):b0m Tryz.prog 70 [.agg [.int .i64 a,.str c]] (.int .i64 (b0O a c)):=by
 refine fEx Tryz.func70 ?_;repeat' ((conv=>whnf);first|refine cPx (i0U _) ?_|refine cPx (p0v _) ?_|refine a0a ?_|(apply bRx<;>intro h<;>try (exfalso;(try dsimp only at h);omega)))
 all_goals (conv=>whnf)
 all_goals refine a0c (congrArg (SV.int .i64) ?_)
 all_goals unfold b0O
 all_goals simp_all
theorem d0s (n:Int) (h1: -9223372036854775808<=n) (h2:n<=9223372036854775807):b0m Tryz.prog 193 [.int .i64 n] (.int .u64 (n.natAbs:Int)):=by
 refine fEx Tryz.func193 ?_;repeat' ((conv=>whnf);first|refine a0a ?_|(apply bRx<;>intro h<;>try (exfalso;(try dsimp only at h);omega)))
 all_goals (conv=>whnf)
 all_goals refine a0c (congrArg (SV.int .u64) ?_)
 .simp only [IntKind.wrap,IntKind.bits,IntKind.signed];simp;omega
 .dsimp only;rw [a0U (by omega) (by omega)];omega
def rnd (q r d:Nat) (mode:Int):Nat:=
 if (mode=2/\0<r)\/(mode=3/\d<=2*r)\/(mode=4/\(d<2*r\/(2*r=d/\q%2=1))) then q+1 else q
theorem p0w (q r d:Nat) (mode:Int):q<=rnd q r d mode/\rnd q r d mode<=q+1:=by unfold rnd;split<;>omega
attribute [irreducible] rnd
theorem n0u (q r d:Nat) (mode:Int) (hq:q<=4503599627370496) (hd:d<=1099511627776) (hr:r<d):b0m Tryz.prog 195 [.int .u64 q,.int .u64 r,.int .u64 d,.int .i64 mode] (.int .u64 (rnd q r d mode:Nat)):=by
 have e2:IntKind.u64.wrap (2*(r:Int))=2*(r:Int):=a0U (by omega) (by omega);have e1:IntKind.u64.wrap ((q:Int)+1)=((q+1:Nat):Int):=by rw [a0U (by omega) (by omega)];rfl
 have em:((q:Int).tmod 2)=((q%2:Nat):Int):=rfl;refine fEx Tryz.func195 ?_;repeat' ((conv=>whnf);first|refine a0a ?_|(apply bRx<;>intro h<;>try (exfalso;(try dsimp only at h);omega)))
 all_goals (conv=>whnf)
 all_goals refine a0c (congrArg (SV.int .u64) ?_)
 all_goals simp only [e1,e2,em] at*
 all_goals unfold rnd
 all_goals first
  |(rw [if_pos (by omega)];done)
  |(rw [if_neg (by omega)];done)
end
section
attribute [local irreducible] a0q a0r a0k a0P
theorem a1D {x:Nat} (h:x<9223372036854775808):d1h .i64 (x:Int) 1=((x%2:Nat):Int):=by
 have h1:(BitVec.ofInt 64 (x:Int)&&&BitVec.ofInt 64 1).toNat=x%2:=by
  rw [BitVec.toNat_and,k1n,k1n];rw [show ((x:Int)%((2^64:Nat):Int)).toNat=x by omega,show ((1:Int)%((2^64:Nat):Int)).toNat=2^1-1 by decide,Nat.and_two_pow_sub_one_eq_mod]
 show IntKind.i64.wrap (((BitVec.ofInt 64 (x:Int)&&&BitVec.ofInt 64 1).toNat:Nat):Int)=_;rw [h1];exact a0m (by omega) (by omega)
theorem a1E {x s:Nat} (h:s<=64):g0H .i64 (x:Int) (s:Int)=((x/2^s:Nat):Int):=by
 rw [e0E (k:= .i64) s h];simp
theorem g1k (a d N b:Nat) (hd:1<=d):a*(2*N+b)=d*(2*(a*N/d))+(2*(a*N%d)+a*b):=by
 have h:=j1X (a*N) d;rw [l1m,Nat.mul_left_comm a 2 N,Nat.mul_left_comm d 2];omega
theorem g1l (a d N b:Nat) (hd:1<=d):a*(2*N+b)%d=(2*(a*N%d)+a*b)%d:=by
 rw [g1k a d N b hd,Nat.mul_add_mod]
theorem g1m (a d N b L:Nat) (hd:1<=d):min (a*(2*N+b)/d) (L+1)=if L<2*min (a*N/d) (L+1)+(2*(a*N%d)+a*b)/d then L+1 else 2*min (a*N/d) (L+1)+(2*(a*N%d)+a*b)/d:=by
 rw [g1k a d N b hd,Nat.mul_add_div (by omega)];generalize a*N/d=Q;generalize (2*(a*N%d)+a*b)/d=X;split<;>omega
theorem i0G (a n d L:Nat) (ha:a<=4503599627370496) (hn:n<9007199254740992) (h1:1<=d) (hd:d<=70368744177664) (hL:L<=4503599627370496):
  b0m Tryz.prog 175 [.int .i64 a,.int .i64 n,.int .i64 d,.int .i64 L] (.tup [.int .i64 (min (a*n/d) (L+1):Nat),.int .i64 (a*n%d:Nat)]):=by
 refine fEx Tryz.func175 ?_
 (conv=>whnf)
 refine a0E (fun k:Nat=>⟨[(0,.int .i64 a),(1,.int .i64 n),(2,.int .i64 d),(3,.int .i64 L),(10,.int .i64 (min (a*(n/2^(53-k))/d) (L+1):Nat)),(11,.int .i64 (a*(n/2^(53-k))%d:Nat)),(12,.int .i64 (52-(k:Int)))],[],1⟩) (fun k=>k<=53) (fun k=>53-k) 0 [0] [] (wEx ⟨rfl,rfl,rfl,rfl,?_,?_,rfl,trivial⟩) (by omega) ?_
 .rw [show n/2^(53-0)=0 from l1n (by simpa using hn),Nat.mul_zero,Nat.zero_div,Nat.zero_min];rfl
 .rw [show n/2^(53-0)=0 from l1n (by simpa using hn),Nat.mul_zero,Nat.zero_mod];rfl
 intro k hk;by_cases hlt:k<53
 .obtain ⟨N,hN⟩:∃N,N=n/2^(53-k):=⟨_,rfl⟩;obtain ⟨b,hb⟩:∃b,b=n/2^(53-(k+1))%2:=⟨_,rfl⟩;have hN':n/2^(53-(k+1))=2*N+b:=by
   have e:2^(53-k)=2^(53-(k+1))*2:=by rw [<-Nat.pow_succ];congr 1;omega
   rw [hN,e,<-Nat.div_div_eq_div_mul,hb];omega
  have hlo:n/2^(53-(k+1))<=n:=l1c _ _;rw [<-hN];have es:IntKind.u64.wrap (52-(k:Int))=((53-(k+1):Nat):Int):=by rw [a0U (by omega) (by omega)];omega
  have ebit:d1h .i64 (g0H .i64 (n:Int) (IntKind.u64.wrap (52-(k:Int)))) 1=(b:Int):=by
   rw [es,a1E (by omega),a1D (by omega),hb]
  have hs:0<=IntKind.u64.wrap (52-(k:Int)):=by rw [es];omega
  have hr:a*N%d<d:=j1l _ (by omega);have hq:min (a*N/d) (L+1)<=4503599627370497:=by omega
  have m:=g1l a d N b h1;have v:=g1m a d N b L h1;have eb:b=0\/b=1:=by omega
  have hX:(2*(a*N%d)+a*b)/d<=2*(a*N%d)+a*b:=l1c _ _;generalize a*N%d=r at*;generalize min (a*N/d) (L+1)=q at*;rw [<-hN'] at m v;rcases eb with eb|eb
  .rw [eb] at m v hX;simp only [Nat.mul_zero,w0G] at m v hX;have q1:IntKind.i64.wrap (2*(q:Int))=((2*q:Nat):Int):=by rw [a0m (by omega) (by omega)];omega
   have q2:IntKind.i64.wrap (2*(r:Int))=((2*r:Nat):Int):=by rw [a0m (by omega) (by omega)];omega
   have q3:IntKind.i64.wrap ((IntKind.i64.wrap (2*(r:Int))).tdiv (d:Int))=((2*r/d:Nat):Int):=by
    rw [q2,show (((2*r:Nat):Int).tdiv (d:Int))=((2*r/d:Nat):Int) from rfl,a0m (l1w (by decide) (i1i _)) (by omega)]
   have q4:IntKind.i64.wrap (IntKind.i64.wrap (2*(q:Int))+IntKind.i64.wrap ((IntKind.i64.wrap (2*(r:Int))).tdiv (d:Int)))=((2*q+2*r/d:Nat):Int):=by
    rw [q1,q3,<-k1Q,a0m (l1w (by decide) (i1i _)) (by omega)]
   have q5:(IntKind.i64.wrap (2*(r:Int))).tmod (d:Int)=((2*r%d:Nat):Int):=by rw [q2];rfl
   have q6:IntKind.i64.wrap ((L:Int)+1)=((L+1:Nat):Int):=by rw [a0m (by omega) (by omega)];rfl
   repeat' ((conv=>whnf);first|refine d0e hs ?_|(refine c0G (fun h=> ?_) (fun h=> ?_)<;>try (exfalso;first|(rw [ebit] at h;omega)|omega))|refine a0a ?_|(apply bRx<;>intro h<;>try (exfalso;(try dsimp only at h);omega)))
   all_goals (conv=>whnf)
   all_goals refine ⟨k+1,[0],[],by omega,by omega,⟨rfl,⟨rfl,rfl,rfl,rfl,?_,?_,?_,trivial⟩,trivial⟩⟩
   all_goals first
    |(refine congrArg (fun z=>some (SV.int .i64 z)) ?_;rw [a0m (by omega) (by omega)];omega)
    |(refine congrArg (fun z=>some (SV.int .i64 z)) ?_;rw [m];exact q5)
    |(refine congrArg (fun z=>some (SV.int .i64 z)) ?_;rw [q4] at h;rw [v,if_pos (by omega)];exact q6)
    |(refine congrArg (fun z=>some (SV.int .i64 z)) ?_;rw [q4] at h;rw [v,if_neg (by omega)];exact q4)
  .rw [eb] at m v hX;simp only [l1Y] at m v hX;have q1:IntKind.i64.wrap (2*(q:Int))=((2*q:Nat):Int):=by rw [a0m (by omega) (by omega)];omega
   have q2:IntKind.i64.wrap (IntKind.i64.wrap (2*(r:Int))+(a:Int))=((2*r+a:Nat):Int):=by rw [a0m (n:=2*(r:Int)) (by omega) (by omega),a0m (by omega) (by omega)];omega
   have q3:IntKind.i64.wrap ((IntKind.i64.wrap (IntKind.i64.wrap (2*(r:Int))+(a:Int))).tdiv (d:Int))=(((2*r+a)/d:Nat):Int):=by
    rw [q2,show (((2*r+a:Nat):Int).tdiv (d:Int))=(((2*r+a)/d:Nat):Int) from rfl,a0m (l1w (by decide) (i1i _)) (by omega)]
   have q4:IntKind.i64.wrap (IntKind.i64.wrap (2*(q:Int))+IntKind.i64.wrap ((IntKind.i64.wrap (IntKind.i64.wrap (2*(r:Int))+(a:Int))).tdiv (d:Int)))=((2*q+(2*r+a)/d:Nat):Int):=by
    rw [q1,q3,<-k1Q,a0m (l1w (by decide) (i1i _)) (by omega)]
   have q5:(IntKind.i64.wrap (IntKind.i64.wrap (2*(r:Int))+(a:Int))).tmod (d:Int)=(((2*r+a)%d:Nat):Int):=by rw [q2];rfl
   have q6:IntKind.i64.wrap ((L:Int)+1)=((L+1:Nat):Int):=by rw [a0m (by omega) (by omega)];rfl
   repeat' ((conv=>whnf);first|refine d0e hs ?_|(refine c0G (fun h=> ?_) (fun h=> ?_)<;>try (exfalso;first|(rw [ebit] at h;omega)|omega))|refine a0a ?_|(apply bRx<;>intro h<;>try (exfalso;(try dsimp only at h);omega)))
   all_goals (conv=>whnf)
   all_goals refine ⟨k+1,[0],[],by omega,by omega,⟨rfl,⟨rfl,rfl,rfl,rfl,?_,?_,?_,trivial⟩,trivial⟩⟩
   all_goals first
    |(refine congrArg (fun z=>some (SV.int .i64 z)) ?_;rw [a0m (by omega) (by omega)];omega)
    |(refine congrArg (fun z=>some (SV.int .i64 z)) ?_;rw [m];exact q5)
    |(refine congrArg (fun z=>some (SV.int .i64 z)) ?_;rw [q4] at h;rw [v,if_pos (by omega)];exact q6)
    |(refine congrArg (fun z=>some (SV.int .i64 z)) ?_;rw [q4] at h;rw [v,if_neg (by omega)];exact q4)
 .have e:k=53:=by omega
  subst e;repeat' ((conv=>whnf);first|refine a0a ?_|(apply bRx<;>intro h<;>try (exfalso;(try dsimp only at h);omega)))
  all_goals (conv=>whnf)
  refine a0c ?_;simp [e0X]
theorem r0f (q r d:Nat) (mode:Int) (hq:q<=4503599627370497) (hd:d<=1099511627776) (hr:r<d):b0m Tryz.prog 176 [.int .i64 q,.int .i64 r,.int .i64 d,.int .i64 mode] (.int .i64 (rnd q r d mode:Nat)):=by
 have e2:IntKind.i64.wrap (2*(r:Int))=2*(r:Int):=a0m (by omega) (by omega);have e1:IntKind.i64.wrap ((q:Int)+1)=((q+1:Nat):Int):=by rw [a0m (by omega) (by omega)];rfl
 have em:((q:Int).tmod 2)=((q%2:Nat):Int):=rfl;refine fEx Tryz.func176 ?_;repeat' ((conv=>whnf);first|refine a0a ?_|(apply bRx<;>intro h<;>try (exfalso;(try dsimp only at h);omega)))
 all_goals (conv=>whnf)
 all_goals refine a0c (congrArg (SV.int .i64) ?_)
 all_goals simp only [e1,e2,em] at*
 all_goals unfold rnd
 all_goals first
  |(rw [if_pos (by omega)];done)
  |(rw [if_neg (by omega)];done)
def m0h (a num den:Int):Nat:=a.natAbs*num.natAbs/den.toNat
def n0v (a num den:Int):Nat:=a.natAbs*num.natAbs%den.toNat
def i0b (a num den mode:Int):Nat:=rnd (m0h a num den) (n0v a num den) den.toNat mode
def e0U (a:Int) (c:ByteArray) (num den mode:Int):Int:=
 if b0O a c≠0 then b0O a c else if den<1\/1099511627776<den\/num< -1099511627776\/1099511627776<num\/mode<1\/4<mode then 4 else if 4503599627370496<i0b a num den mode then 4 else 0
def m0i (a num den mode:Int):Int:=if decide (a<0)=decide (num<0) then (i0b a num den mode:Int) else-(i0b a num den mode:Int)
def orS (e:Int) (c:ByteArray):ByteArray:=if e=0 then c else ⟨#[]⟩
def orN (e:Int) (n:Int):Int:=if e=0 then n else 0
def f1N (a:Int) (c:ByteArray) (num den mode:Int):SV:= .tup [.agg [.int .i64 (orN (e0U a c num den mode) (m0i a num den mode)),.str (orS (e0U a c num den mode) c)],.int .i64 (e0U a c num den mode)]
attribute [irreducible] i0b e0U m0i orS orN m0h n0v
theorem k0t (n:Int) (c:ByteArray):b0m Tryz.prog 196 [.int .i64 n,.str c] (.tup [.agg [.int .i64 (if-4503599627370496<=n/\n<=4503599627370496 then n else 0),.str (if-4503599627370496<=n/\n<=4503599627370496 then c else ⟨#[]⟩)],.int .i64 (if-4503599627370496<=n/\n<=4503599627370496 then 0 else 4)]):=by
 refine fEx Tryz.func196 ?_;repeat' ((conv=>whnf);first|refine cPx (h0l _) ?_|refine a0a ?_|(apply bRx<;>intro h<;>try (exfalso;(try dsimp only at h);omega)))
 all_goals (conv=>whnf)
 all_goals refine a0c ?_
 .rw [if_neg (by assumption),if_neg (by assumption),if_neg (by assumption)];rfl
 .rw [if_pos (by assumption),if_pos (by assumption),if_pos (by assumption)];rfl
theorem c0j {a:Int} {c:ByteArray} {num den mode e:Int} (h:e0U a c num den mode=e) (he:e≠0):f1N a c num den mode= .tup [.agg [.int .i64 0,.str ⟨#[]⟩],.int .i64 e]:=by
 unfold f1N;rw [h];unfold orN orS;rw [if_neg he,if_neg he]
theorem k0u {a:Int} {c:ByteArray} {num den mode:Int} (h:e0U a c num den mode=0):f1N a c num den mode= .tup [.agg [.int .i64 (m0i a num den mode),.str c],.int .i64 0]:=by
 unfold f1N;rw [h];unfold orN orS;rw [if_pos rfl,if_pos rfl]
theorem r0g (a:Int) (c:ByteArray) (num den mode:Int) (hn1: -9223372036854775808<=num) (hn2:num<=9223372036854775807):b0m Tryz.prog 160 [.agg [.int .i64 a,.str c],.int .i64 num,.int .i64 den,.int .i64 mode] (f1N a c num den mode):=by
 have ck:=d0r a c;refine fEx Tryz.func160 ?_;rcases e0F a c with hm|⟨hm,hcur,ha1,ha2⟩
 .have he:e0U a c num den mode=b0O a c:=by unfold e0U;rw [if_pos (by omega)]
  rw [c0j he (by omega)];repeat' ((conv=>whnf);first|refine cPx ck ?_|refine a0a ?_|(apply bRx<;>intro h<;>try (exfalso;(try dsimp only at h);omega)))
  all_goals (conv=>whnf)
  all_goals exact a0c rfl
 .rw [hm] at ck;by_cases hp:den<1\/1099511627776<den\/num< -1099511627776\/1099511627776<num\/mode<1\/4<mode
  .have he:e0U a c num den mode=4:=by unfold e0U;rw [if_neg (by omega),if_pos hp]
   rw [c0j he (by omega)];repeat' ((conv=>whnf);first|refine cPx ck ?_|refine a0a ?_|(apply bRx<;>intro h<;>try (exfalso;(try dsimp only at h);omega)))
   all_goals (conv=>whnf)
   all_goals exact a0c rfl
  .have m1:=d0s a (by omega) (by omega);have m2:=d0s num hn1 hn2;have mm:=m0f a.natAbs num.natAbs (by omega) (by omega);have hprod:a.natAbs*num.natAbs<=4503599627370496*1099511627776:=l1S (by omega) (by omega);have ed:IntKind.u64.wrap den=(den.toNat:Int):=by rw [a0U (by omega) (by omega)];omega
   have sq:m0h a num den=a.natAbs*num.natAbs/den.toNat:=by unfold m0h;rfl
   have sr:n0v a num den=a.natAbs*num.natAbs%den.toNat:=by unfold n0v;rfl
   have hR:n0v a num den<den.toNat:=by rw [sr];exact j1l _ (by omega)
   by_cases hh:den.toNat<=a.natAbs*num.natAbs/18446744073709551616
   .have hq:4503599627370496<i0b a num den mode:=by
     have h1:=(p0w (m0h a num den) (n0v a num den) den.toNat mode).1;have h2:18446744073709551616<=m0h a num den:=by
      rw [sq,k1q (by omega)];have:=(k1q (by omega)).1 hh;omega
     unfold i0b;omega
    have he:e0U a c num den mode=4:=by unfold e0U;rw [if_neg (by omega),if_neg hp,if_pos hq]
    rw [c0j he (by omega)];repeat' ((conv=>whnf);first|refine cPx ck ?_|refine cPx m1 ?_|refine cPx m2 ?_|refine cPx mm ?_|(refine c0G (fun h=> ?_) (fun h=> ?_)<;>try (exfalso;first|omega|(dsimp only at h;rw [ed] at h;omega)))|refine a0a ?_|(apply bRx<;>intro h<;>try (exfalso;(try dsimp only at h);omega)))
    all_goals (conv=>whnf)
    all_goals exact a0c rfl
   .have dd:=m0g (a.natAbs*num.natAbs/18446744073709551616) (a.natAbs*num.natAbs%18446744073709551616) den.toNat (by omega) (by omega) (by omega);rw [Nat.div_add_mod',<-sq,<-sr,<-ed] at dd;by_cases hq:4503599627370496<m0h a num den
    .have he:e0U a c num den mode=4:=by
      have h1:=(p0w (m0h a num den) (n0v a num den) den.toNat mode).1;unfold e0U;rw [if_neg (by omega),if_neg hp,if_pos (by unfold i0b;omega)]
     rw [c0j he (by omega)];repeat' ((conv=>whnf);first|refine cPx ck ?_|refine cPx m1 ?_|refine cPx m2 ?_|refine cPx mm ?_|refine cPx dd ?_|(refine c0G (fun h=> ?_) (fun h=> ?_)<;>try (exfalso;first|omega|(dsimp only at h;rw [ed] at h;omega)))|refine a0a ?_|(apply bRx<;>intro h<;>try (exfalso;(try dsimp only at h);omega)))
     all_goals (conv=>whnf)
     all_goals exact a0c rfl
    .have rr:=n0u (m0h a num den) (n0v a num den) den.toNat mode (by omega) (by omega) hR;have en:rnd (m0h a num den) (n0v a num den) den.toNat mode=i0b a num den mode:=by unfold i0b;rfl
     have bd:=p0w (m0h a num den) (n0v a num den) den.toNat mode;rw [en] at rr bd;rw [<-ed] at rr;have ew:IntKind.i64.wrap (i0b a num den mode:Int)=(i0b a num den mode:Int):=a0m (by omega) (by omega);have ew2:IntKind.i64.wrap (0-IntKind.i64.wrap (i0b a num den mode:Int))= -(i0b a num den mode:Int):=by rw [ew,a0m (by omega) (by omega)];omega
     have t1:=k0t (IntKind.i64.wrap (i0b a num den mode:Int)) c;have t2:=k0t (IntKind.i64.wrap (0-IntKind.i64.wrap (i0b a num den mode:Int))) c;by_cases hs:(decide (a<0)==decide (num<0))=true
     .by_cases hN:4503599627370496<i0b a num den mode
      .have he:e0U a c num den mode=4:=by unfold e0U;rw [if_neg (by omega),if_neg hp,if_pos hN]
       rw [c0j he (by omega)];rw [if_neg (by rw [ew];omega),if_neg (by rw [ew];omega),if_neg (by rw [ew];omega)] at t1;repeat' ((conv=>whnf);first|refine cPx ck ?_|refine cPx m1 ?_|refine cPx m2 ?_|refine cPx mm ?_|refine cPx dd ?_|refine cPx rr ?_|refine cPx t1 ?_|(refine i0F (fun h=> ?_) (fun h=> ?_)<;>try (exfalso;exact absurd (hs.symm.trans h) (by decide)))|(refine c0G (fun h=> ?_) (fun h=> ?_)<;>try (exfalso;first|omega|(dsimp only at h;rw [ed] at h;omega)))|refine a0a ?_|(apply bRx<;>intro h<;>try (exfalso;(try dsimp only at h);omega)))
       all_goals (conv=>whnf)
       all_goals exact a0c rfl
      .have he:e0U a c num den mode=0:=by unfold e0U;rw [if_neg (by omega),if_neg hp,if_neg hN]
       have hA:m0i a num den mode=IntKind.i64.wrap (i0b a num den mode:Int):=by unfold m0i;rw [if_pos (by simpa using hs),ew]
       rw [k0u he,hA];rw [if_pos (by rw [ew];omega),if_pos (by rw [ew];omega),if_pos (by rw [ew];omega)] at t1;repeat' ((conv=>whnf);first|refine cPx ck ?_|refine cPx m1 ?_|refine cPx m2 ?_|refine cPx mm ?_|refine cPx dd ?_|refine cPx rr ?_|refine cPx t1 ?_|(refine i0F (fun h=> ?_) (fun h=> ?_)<;>try (exfalso;exact absurd (hs.symm.trans h) (by decide)))|(refine c0G (fun h=> ?_) (fun h=> ?_)<;>try (exfalso;first|omega|(dsimp only at h;rw [ed] at h;omega)))|refine a0a ?_|(apply bRx<;>intro h<;>try (exfalso;(try dsimp only at h);omega)))
       all_goals (conv=>whnf)
       all_goals exact a0c rfl
     .have hs':(decide (a<0)==decide (num<0))=false:=by simpa using hs
      by_cases hN:4503599627370496<i0b a num den mode
      .have he:e0U a c num den mode=4:=by unfold e0U;rw [if_neg (by omega),if_neg hp,if_pos hN]
       rw [c0j he (by omega)];rw [if_neg (by rw [ew2];omega),if_neg (by rw [ew2];omega),if_neg (by rw [ew2];omega)] at t2;repeat' ((conv=>whnf);first|refine cPx ck ?_|refine cPx m1 ?_|refine cPx m2 ?_|refine cPx mm ?_|refine cPx dd ?_|refine cPx rr ?_|refine cPx t2 ?_|(refine i0F (fun h=> ?_) (fun h=> ?_)<;>try (exfalso;exact absurd (hs'.symm.trans h) (by decide)))|(refine c0G (fun h=> ?_) (fun h=> ?_)<;>try (exfalso;first|omega|(dsimp only at h;rw [ed] at h;omega)))|refine a0a ?_|(apply bRx<;>intro h<;>try (exfalso;(try dsimp only at h);omega)))
       all_goals (conv=>whnf)
       all_goals exact a0c rfl
      .have he:e0U a c num den mode=0:=by unfold e0U;rw [if_neg (by omega),if_neg hp,if_neg hN]
       have hA:m0i a num den mode=IntKind.i64.wrap (0-IntKind.i64.wrap (i0b a num den mode:Int)):=by unfold m0i;rw [if_neg (by simpa using hs),ew2]
       rw [k0u he,hA];rw [if_pos (by rw [ew2];omega),if_pos (by rw [ew2];omega),if_pos (by rw [ew2];omega)] at t2;repeat' ((conv=>whnf);first|refine cPx ck ?_|refine cPx m1 ?_|refine cPx m2 ?_|refine cPx mm ?_|refine cPx dd ?_|refine cPx rr ?_|refine cPx t2 ?_|(refine i0F (fun h=> ?_) (fun h=> ?_)<;>try (exfalso;exact absurd (hs'.symm.trans h) (by decide)))|(refine c0G (fun h=> ?_) (fun h=> ?_)<;>try (exfalso;first|omega|(dsimp only at h;rw [ed] at h;omega)))|refine a0a ?_|(apply bRx<;>intro h<;>try (exfalso;(try dsimp only at h);omega)))
       all_goals (conv=>whnf)
       all_goals exact a0c rfl
theorem r0h (a:Int) (c:ByteArray) (num den mode:Int) (hn1: -9223372036854775808<=num) (hn2:num<=9223372036854775807):b0m Tryz.prog 137 [.agg [.int .i64 a,.str c],.int .i64 num,.int .i64 den,.int .i64 mode] (f1N a c num den mode):=by
 have ck:=c0v a c;refine fEx Tryz.func137 ?_;rcases e0F a c with hm|⟨hm,hcur,ha1,ha2⟩
 .have he:e0U a c num den mode=b0O a c:=by unfold e0U;rw [if_pos (by omega)]
  rw [c0j he (by omega)];repeat' ((conv=>whnf);first|refine cPx ck ?_|refine a0a ?_|(apply bRx<;>intro h<;>try (exfalso;(try dsimp only at h);omega)))
  all_goals (conv=>whnf)
  all_goals exact a0c rfl
 .rw [hm] at ck;by_cases hp:den<1\/1099511627776<den\/num< -1099511627776\/1099511627776<num\/mode<1\/4<mode
  .have he:e0U a c num den mode=4:=by unfold e0U;rw [if_neg (by omega),if_pos hp]
   rw [c0j he (by omega)];repeat' ((conv=>whnf);first|refine cPx ck ?_|refine a0a ?_|(apply bRx<;>intro h<;>try (exfalso;(try dsimp only at h);omega)))
   all_goals (conv=>whnf)
   all_goals exact a0c rfl
  .have ea:max a (IntKind.i64.wrap (0-a))=(a.natAbs:Int):=by rw [a0m (by omega) (by omega)];omega
   have en0:max num (IntKind.i64.wrap (0-num))=(num.natAbs:Int):=by rw [a0m (by omega) (by omega)];omega
   have ed:den=(den.toNat:Int):=by omega
   have hprod:a.natAbs*num.natAbs<=4503599627370496*1099511627776:=l1S (by omega) (by omega);have sq:m0h a num den=a.natAbs*num.natAbs/den.toNat:=by unfold m0h;rfl
   have sr:n0v a num den=a.natAbs*num.natAbs%den.toNat:=by unfold n0v;rfl
   have hR:n0v a num den<den.toNat:=by rw [sr];exact j1l _ (by omega)
   have dd:=i0G a.natAbs num.natAbs den.toNat 4503599627370496 (by omega) (by omega) (by omega) (by omega) (by omega);rw [<-sq,<-sr,<-ea,<-en0,<-ed] at dd;have rr:=r0f (min (m0h a num den) (4503599627370496+1)) (n0v a num den) den.toNat mode (by omega) (by omega) hR;rw [<-ed] at rr;have bd:=p0w (min (m0h a num den) (4503599627370496+1)) (n0v a num den) den.toNat mode;have bd2:=p0w (m0h a num den) (n0v a num den) den.toNat mode;have en:i0b a num den mode=rnd (m0h a num den) (n0v a num den) den.toNat mode:=by unfold i0b;rfl
   by_cases hN:4503599627370496<i0b a num den mode
   .have he:e0U a c num den mode=4:=by unfold e0U;rw [if_neg (by omega),if_neg hp,if_pos hN]
    have hbig:4503599627370496<rnd (min (m0h a num den) (4503599627370496+1)) (n0v a num den) den.toNat mode:=by
     by_cases hq:m0h a num den<=4503599627370496
     .rw [k1p (by omega),<-en];exact hN
     .omega
    rw [c0j he (by omega)];repeat' ((conv=>whnf);first|refine cPx ck ?_|refine cPx dd ?_|refine cPx rr ?_|refine a0a ?_|(apply bRx<;>intro h<;>try (exfalso;(try dsimp only at h);omega)))
    all_goals (conv=>whnf)
    all_goals exact a0c rfl
   .have he:e0U a c num den mode=0:=by unfold e0U;rw [if_neg (by omega),if_neg hp,if_neg hN]
    have hsm:rnd (min (m0h a num den) (4503599627370496+1)) (n0v a num den) den.toNat mode=i0b a num den mode:=by
     rw [k1p (by omega),<-en]
    rw [hsm] at rr bd;have ew2:IntKind.i64.wrap (0-(i0b a num den mode:Int))= -(i0b a num den mode:Int):=by rw [a0m (by omega) (by omega)];omega
    rw [k0u he];by_cases hs:(decide (a<0)==decide (num<0))=true
    .have hA:m0i a num den mode=(i0b a num den mode:Int):=by unfold m0i;rw [if_pos (by simpa using hs)]
     rw [hA];repeat' ((conv=>whnf);first|refine cPx ck ?_|refine cPx dd ?_|refine cPx rr ?_|(refine i0F (fun h=> ?_) (fun h=> ?_)<;>try (exfalso;exact absurd (hs.symm.trans h) (by decide)))|refine a0a ?_|(apply bRx<;>intro h<;>try (exfalso;(try dsimp only at h);omega)))
     all_goals (conv=>whnf)
     all_goals exact a0c rfl
    .have hs':(decide (a<0)==decide (num<0))=false:=by simpa using hs
     have hA:m0i a num den mode=IntKind.i64.wrap (0-(i0b a num den mode:Int)):=by unfold m0i;rw [if_neg (by simpa using hs),ew2]
     rw [hA];repeat' ((conv=>whnf);first|refine cPx ck ?_|refine cPx dd ?_|refine cPx rr ?_|(refine i0F (fun h=> ?_) (fun h=> ?_)<;>try (exfalso;exact absurd (hs'.symm.trans h) (by decide)))|refine a0a ?_|(apply bRx<;>intro h<;>try (exfalso;(try dsimp only at h);omega)))
     all_goals (conv=>whnf)
     all_goals exact a0c rfl
end
section
attribute [local irreducible] a0q a0r a0k a0P
theorem w0M (x y:Nat) (w:World):(callFunc 129 #[.int .u64 x,.int .u64 y,.int .u64 0]).run Tryz.prog w= .ok (.value (.tuple #[.int .u64 ((x+y)%18446744073709551616:Nat),.int .u64 ((x+y)/18446744073709551616:Nat)])) w:=by
 have hf:=Tryz.func129;have h1:(Tryz.f129.name=="runtime.NumGoroutine")=false:=by kernel_rfl
 have h2:Tryz.f129.body.isNone=true:=by kernel_rfl
 have h3:Extern.findNext Tryz.f129=none:=Option.isNone_iff_eq_none.1 (by kernel_rfl);have h4:Extern.find Tryz.f129=some (fun args=>do
  let (x,y,c)<-Extern.MathBitsCarry.three "Add64" args
  pure (Extern.MathBitsCarry.pair ((x+y+c)%Extern.MathBitsCarry.m64) ((x+y+c)/Extern.MathBitsCarry.m64))):=by kernel_rfl
 rw [run_callFunc_extern hf h1 h2 h3 h4];rfl
theorem u0V (x y:Nat):b0m Tryz.prog 129 [.int .u64 x,.int .u64 y,.int .u64 0] (.tup [.int .u64 ((x+y)%18446744073709551616:Nat),.int .u64 ((x+y)/18446744073709551616:Nat)]):=by
 refine Or.inr fun g w vs hg hu hH hvs=> ?_
 have hv:vs= [.int .u64 x,.int .u64 y,.int .u64 0]:=by
  simp only [Rvs,Rv] at hvs;obtain ⟨_,_,rfl,rfl,_,_,rfl,rfl,_,_,rfl,rfl,rfl⟩:=hvs;rfl
 subst hv;refine ⟨_,w,w0M x y w,_,[],1,g,⟨rfl,rfl,rfl⟩,n0q _,hu,fun _ _ _=>rfl,?_,⟨?_,?_⟩,a0b,⟨rfl,rfl,rfl,n0q _,fun k _ _=>rfl⟩,?_⟩
 .simp [Rv,Rvs]
 .intro h q ro b he;obtain ⟨hb,e,_⟩:=he;simp [a0s] at e
 .intro h q h' q' b ro' b' β β' _ he;obtain ⟨hb,e,_⟩:=he;simp [a0s] at e
 .intro h q b β he;obtain ⟨hb,e,_⟩:=he;simp [a0s] at e
end
section
attribute [local irreducible] a0q a0r a0k a0P
def exL (S:Int):Int:=S%18446744073709551616
def exH (S:Int):Int:=S/18446744073709551616
theorem g1n (S:Int):S=exH S*18446744073709551616+exL S/\0<=exL S/\exL S<18446744073709551616:=by unfold exL exH;omega
theorem d1U {S h l:Int} (h1:S=h*18446744073709551616+l) (h2:0<=l) (h3:l<18446744073709551616):exH S=h/\exL S=l:=by unfold exL exH;omega
def okS (S:Int):Prop:= -1267650600228229401496703205376<=S/\S<=1267650600228229401496703205376
theorem c1n {S:Int} (h:okS S): -68719476737<=exH S/\exH S<=68719476737:=by unfold okS at h;unfold exH;omega
theorem c1o (n:Int) (h1: -9223372036854775808<=n) (h2:n<=9223372036854775807):g0H .i64 n 63=if n<0 then-1 else 0:=by
 have e:g0H .i64 n 63=n/9223372036854775808:=e0E (k:= .i64) 63 (by decide);rw [e];split<;>omega
theorem g1o {n:Int} (h1: -9223372036854775808<=n) (h2:n<=9223372036854775807):IntKind.u64.wrap n=if n<0 then n+18446744073709551616 else n:=by
 unfold IntKind.wrap;simp only [IntKind.bits,IntKind.signed,j1I,j1i,if_false];rw [show (2:Int)^64=18446744073709551616 from rfl];split<;>omega
theorem g1p {n:Int} (h1:0<=n) (h2:n<18446744073709551616):IntKind.i64.wrap n=if n<9223372036854775808 then n else n-18446744073709551616:=by
 have e:IntKind.i64.wrap n=if (decide (n%18446744073709551616>=9223372036854775808))=true then n%18446744073709551616-18446744073709551616 else n%18446744073709551616:=rfl
 rw [e,Int.emod_eq_of_lt h1 h2];simp only [decide_eq_true_eq];split<;>split<;>omega
def i0H (S l:Int):Int:=if S< -l then-l else if l<S then l else S
end
section
attribute [local irreducible] a0q a0r a0k a0P
theorem a0u (k:Nat):(k:Int).toNat+0=k:=rfl
end
section
attribute [local irreducible] a0q a0r a0k a0P
def i1O (s:ByteArray) (i:Nat):Prop:=48<=a0i s (i:Int)/\a0i s (i:Int)<=57
instance (s:ByteArray) (i:Nat):Decidable (i1O s i):=by unfold i1O;infer_instance
end
section
attribute [local irreducible] a0q a0r a0k a0P
def mkB (c:Int):Bool:=decide (0<=Lib.indexByte [40,41,123,125,44,59,58,61,60,62,43,45,42,37,46] c.toNat.toUInt8)
theorem w0N (c:Int) (h0:0<=c) (h1:c<128):b0m Tryz.prog 113 [.str ⟨#[40,41,123,125,44,59,58,61,60,62,43,45,42,37,46]⟩,.int .i32 c] (.bool (mkB c)):=by
 refine n0p (vals:= [.string ⟨#[40,41,123,125,44,59,58,61,60,62,43,45,42,37,46]⟩,.int .i32 c]) (v:= .bool (mkB c)) (u0Q Tryz.func113 (by kernel_rfl) (by kernel_rfl)) ?_ ?_ ?_
 .intro g vs h;simpa [Rvs,Rv] using h
 .intro g;simp [Rv]
 .intro w;have h:=Tryz.strings_ContainsRune_ascii ⟨#[40,41,123,125,44,59,58,61,60,62,43,45,42,37,46]⟩ c w h0 h1;refine h.mono ?_;rintro e w' ⟨rfl,rfl⟩;exact ⟨rfl,Below.refl _ _⟩
def ltP (c:Int):Prop:=(97<=c/\c<=122)\/(65<=c/\c<=90)
instance (c:Int):Decidable (ltP c):=by unfold ltP;infer_instance
def wdP (c:Int):Prop:=ltP c\/(48<=c/\c<=57)\/c=95
instance (c:Int):Decidable (wdP c):=by unfold wdP;infer_instance
def l0k (c:Int):Int:=if c=32\/c=9\/c=10 then 1 else if ltP c then 2 else if 48<=c/\c<=57 then 3 else if c=95 then 4 else if c=34 then 5 else if c=35 then 6 else if c<=126/\mkB c=true then 7 else 0
theorem i32_in {c:Int} (h0:0<=c) (h1:c<=255):IntKind.i32.wrap c=c:=IntWalk.i32_in _ ⟨by omega,by omega⟩
theorem n0w {c:Int}:l0k c=2↔ltP c:=by
 unfold l0k;by_cases h:ltP c
 .have:¬(c=32\/c=9\/c=10):=by unfold ltP at h;omega
  rw [if_neg this,if_pos h];simp [h]
 .simp only [if_neg h]
  (repeat' split)<;>simp [h]
theorem d1V {c:Int}:(l0k c=2\/l0k c=3\/l0k c=4)↔wdP c:=by
 have e:∀x,l0k c=x->(l0k c=2\/l0k c=3\/l0k c=4↔x=2\/x=3\/x=4):=fun x e=>by rw [e]
 refine (e _ rfl).trans ?_;unfold wdP;by_cases h2:ltP c
 .have:=n0w.2 h2;simp [this,h2]
 .have h2':=h2;unfold ltP at h2';have n2:l0k c≠2:=fun h=>h2 (n0w.1 h)
  have e3:l0k c=3↔(48<=c/\c<=57):=by
   unfold l0k;rw [if_neg h2];(repeat' split)<;>omega
  have e4:l0k c=4↔c=95:=by
   unfold l0k;rw [if_neg h2];(repeat' split)<;>omega
  rw [e3,e4];simp [n2,h2]
theorem k0v (c:Int) (h0:0<=c) (h1:c<=255):b0m Tryz.prog 65 [.int .i32 c] (.int .i64 (l0k c)):=by
 by_cases h126:c<=126
 .have cm:=w0N c h0 (by omega);cases hm:mkB c with
  |true=>
   rw [hm] at cm;unfold l0k ltP;rw [hm];refine fEx Tryz.func65 ?_;repeat' ((conv=>whnf);first|refine cPx cm ?_|refine a0a ?_|(apply bRx<;>intro h<;>try (exfalso;(try dsimp only at h);omega)))
   all_goals (conv=>whnf)
   all_goals (refine a0c (congrArg (SV.int .i64) ?_))
   all_goals first
    |((try simp only [and_true,j1i,and_false,if_false]);(repeat' split)<;>omega)
  |false=>
   rw [hm] at cm;unfold l0k ltP;rw [hm];refine fEx Tryz.func65 ?_;repeat' ((conv=>whnf);first|refine cPx cm ?_|refine a0a ?_|(apply bRx<;>intro h<;>try (exfalso;(try dsimp only at h);omega)))
   all_goals (conv=>whnf)
   all_goals (refine a0c (congrArg (SV.int .i64) ?_))
   all_goals first
    |((try simp only [and_true,j1i,and_false,if_false]);(repeat' split)<;>omega)
 .unfold l0k ltP;refine fEx Tryz.func65 ?_;repeat' ((conv=>whnf);first|refine a0a ?_|(apply bRx<;>intro h<;>try (exfalso;(try dsimp only at h);omega)))
  all_goals (conv=>whnf)
  all_goals (refine a0c (congrArg (SV.int .i64) ?_))
  all_goals first
   |((repeat' split)<;>omega)
theorem l0l (c:Int) (h0:0<=c) (h1:c<=255):b0m Tryz.prog 114 [.int .u8 c] (.bool (decide (wdP c))):=by
 have c1:=k0v c h0 h1;have hw:=d1V (c:=c);rw [show (SV.int .i32 c)=SV.int .i32 (IntKind.i32.wrap c) by rw [i32_in h0 h1]] at c1;generalize l0k c=x at c1 hw;refine fEx Tryz.func114 ?_;repeat' ((conv=>whnf);first|refine cPx c1 ?_|refine a0a ?_|(apply bRx<;>intro h<;>try (exfalso;(try dsimp only at h);omega)))
 all_goals (conv=>whnf)
 all_goals first
  |exact a0c (congrArg SV.bool (decide_eq_true (hw.1 (by omega))).symm)
  |exact a0c (congrArg SV.bool (decide_eq_decide.2 ⟨fun hh=>hw.1 (Or.inr (Or.inr hh)),fun hh=>(hw.2 hh).resolve_left (by omega)|>.resolve_left (by omega)⟩))
def q0A (s:ByteArray):Nat->Bool
 |0=>true
 |k+1=>q0A s k&&decide (wdP (a0i s (k:Int)))
theorem w0O {s:ByteArray} {k:Nat} (h:q0A s k=true) (h1:wdP (a0i s (k:Int))):q0A s (k+1)=true:=by
 simp only [q0A,h,j1O,decide_eq_true_eq];exact h1
theorem u0W {s:ByteArray} {k n:Nat} (h:k<n) (hc:¬wdP (a0i s (k:Int))):q0A s n=false:=by
 induction n with
 |zero=>omega
 |succ n ih=>
  simp only [q0A];by_cases e:k=n
  .subst e;simp [hc]
  .rw [ih (by omega)];rfl
theorem w0P {s:ByteArray} {k n:Nat} (h:k<n) (hd:q0A s n=true):wdP (a0i s (k:Int)):=by
 by_cases hc:wdP (a0i s (k:Int))
 .exact hc
 .rw [u0W h hc] at hd;cases hd
theorem i0c {s:ByteArray}:∀n,q0A s n=false->∃k,k<n/\q0A s k=true/\¬wdP (a0i s (k:Int))
 |0,h=>by simp [q0A] at h
 |n+1,h=>by
  cases hn:q0A s n with
  |false=>obtain ⟨k,h1,h2⟩:=i0c n hn;exact ⟨k,by omega,h2⟩
  |true=>
   refine ⟨n,by omega,hn,fun hw=> ?_⟩;rw [w0O hn hw] at h;cases h
theorem m0j (s:ByteArray) (e:Nat) (he:e<=s.size) (ht:q0A s e=true) (hx:e=s.size\/¬wdP (a0i s (e:Int))) (hs:s.size<=1000000):b0m Tryz.prog 66 [.str s,.int .i64 0] (.str (s.extract 0 e)):=by
 refine fEx Tryz.func66 ?_
 (conv=>whnf)
 refine a0E (fun k:Nat=>⟨[(0,.str s),(1,.int .i64 0),(5,.int .i64 k)],[],1⟩) (fun k=>k<=e) (fun k=>e-k) 0 [0] [] wHx (by omega) ?_;intro k hk;have bd:=h0e s (k:Int);have c:=l0l (a0i s (k:Int)) bd.1 bd.2;by_cases hk2:k<e
 .rw [decide_eq_true (w0P hk2 ht)] at c;repeat' ((conv=>whnf);first|refine cPx c ?_|refine a0a ?_|(apply bRx<;>intro h<;>try (exfalso;(try dsimp only at h);omega)))
  all_goals (conv=>whnf)
  all_goals first
   |exact ⟨k+1,[0],[],by omega,by omega,⟨rfl,⟨rfl,rfl,congrArg (fun z=>some (SV.int .i64 z)) (a0e (by omega)),trivial⟩,trivial⟩⟩
   |(exfalso;omega)
 .have e1:k=e:=by omega
  subst e1;by_cases hsz:k<s.size
  .rw [decide_eq_false (hx.resolve_left (by omega))] at c;repeat' ((conv=>whnf);first|refine cPx c ?_|refine a0a ?_|(apply bRx<;>intro h<;>try (exfalso;(try dsimp only at h);omega)))
   all_goals (conv=>whnf)
   all_goals first
    |exact a0c rfl
    |(exfalso;omega)
  .repeat' ((conv=>whnf);first|refine a0a ?_|(apply bRx<;>intro h<;>try (exfalso;(try dsimp only at h);omega)))
   all_goals (conv=>whnf)
   all_goals first
    |exact a0c rfl
    |(exfalso;omega)
def nmB (s:ByteArray):Bool:=decide (1<=s.size)&&decide (s.size<=16)&&decide (ltP (a0i s 0))&&q0A s s.size
theorem g1q {s:ByteArray} (h:¬s=⟨#[]⟩):1<=s.size:=by
 rcases d1J s.size with h0|h0
 .exfalso;apply h;cases s with|mk d=>
  have:d= #[]:=j1Y h0;rw [this]
 .exact h0
theorem r0i (s:ByteArray):s.extract 0 s.size=s:=by
 apply ByteArray.ext;simp
theorem u0X (s:ByteArray):b0m Tryz.prog 41 [.str s] (.bool (nmB s)):=by
 unfold nmB;by_cases h0:s=⟨#[]⟩
 .subst h0;refine fEx Tryz.func41 ?_;repeat' ((conv=>whnf);first|refine a0a ?_|(apply bRx<;>intro h<;>try (exfalso;(try dsimp only at h);omega)))
  all_goals (conv=>whnf)
  all_goals first
   |exact a0c rfl
   |(exfalso;exact h rfl)
 .have hz:=g1q h0;by_cases h16:s.size<=16
  .have bd:=h0e s 0;have c1:=k0v (a0i s 0) bd.1 bd.2;rw [show (SV.int .i32 (a0i s 0))=SV.int .i32 (IntKind.i32.wrap (a0i s 0)) by rw [i32_in bd.1 bd.2]] at c1;by_cases hl:ltP (a0i s 0)
   .rw [n0w.2 hl] at c1;cases hw:q0A s s.size with
    |true=>
     have c2:=m0j s s.size (n0q _) hw (.inl rfl) (by omega);rw [r0i] at c2;rw [decide_eq_true hz,decide_eq_true h16,decide_eq_true hl];refine fEx Tryz.func41 ?_;repeat' ((conv=>whnf);first|refine cPx c1 ?_|refine cPx c2 ?_|refine a0a ?_|(apply bRx<;>intro h<;>try (exfalso;(try dsimp only at h);omega)))
     all_goals (conv=>whnf)
     all_goals first
      |exact a0c rfl
      |(exfalso;exact h0 (by assumption))
      |(exfalso;omega)
      |exact a0c (congrArg SV.bool (decide_eq_true rfl))
    |false=>
     obtain ⟨k,k1,k2,k3⟩:=i0c _ hw;have c2:=m0j s k (by omega) k2 (.inr k3) (by omega);have hsz:(s.extract 0 k).size=k:=by rw [ByteArray.size_extract];omega
     rw [decide_eq_true hz,decide_eq_true h16,decide_eq_true hl];refine fEx Tryz.func41 ?_;repeat' ((conv=>whnf);first|refine cPx c1 ?_|refine cPx c2 ?_|refine a0a ?_|(apply bRx<;>intro h<;>try (exfalso;(try dsimp only at h);omega)))
     all_goals (conv=>whnf)
     all_goals first
      |exact a0c rfl
      |(exfalso;exact h0 (by assumption))
      |(exfalso;omega)
      |exact a0c (congrArg SV.bool (decide_eq_false (by rw [hsz];omega)))
   .have hne:l0k (a0i s 0)≠2:=fun h=>hl (n0w.1 h)
    rw [decide_eq_false hl];generalize l0k (a0i s 0)=x at c1 hne;refine fEx Tryz.func41 ?_;repeat' ((conv=>whnf);first|refine cPx c1 ?_|refine a0a ?_|(apply bRx<;>intro h<;>try (exfalso;(try dsimp only at h);omega)))
    all_goals (conv=>whnf)
    all_goals first
     |(exfalso;exact h0 (by assumption))
     |(exfalso;omega)
     |exact a0c (by rw [k1L];rfl)
  .rw [decide_eq_false h16];refine fEx Tryz.func41 ?_;repeat' ((conv=>whnf);first|refine a0a ?_|(apply bRx<;>intro h<;>try (exfalso;(try dsimp only at h);omega)))
   all_goals (conv=>whnf)
   all_goals first
    |(exfalso;exact h0 (by assumption))
    |(exfalso;omega)
    |exact a0c (by rw [k1L];rfl)
end
end Go.Proofs.YtegbehopnoocnaaGreatDoor
namespace Go.Sy
open Go.RowKit
theorem m0k (s:ByteArray):s.toList=ofB s:=by
 exact (by simpa using m1A s:s.toList=s.data.toList)
theorem h0m (a b:ByteArray):a0D a b=decide (ofB a<ofB b):=by
 unfold a0D;rw [m0k,m0k,Go.Proofs.bytesLess_eq]
theorem w0Q {a b:ByteArray} (h:ofB a=ofB b):a=b:=by rw [<-w0C a,<-w0C b,h]
theorem a0p (a:ByteArray):a0D a a=false:=by rw [h0m];exact decide_eq_false (List.lt_irrefl _)
theorem r0j {a b:ByteArray} (h:a0D a b=true):a0D b a=false:=by
 rw [h0m] at h⊢;exact decide_eq_false (List.lt_asymm (of_decide_eq_true h))
theorem d0t {a b c:ByteArray} (h:a0D a b=true) (k:a0D b c=true):a0D a c=true:=by
 rw [h0m] at*;exact decide_eq_true (List.lt_trans (of_decide_eq_true h) (of_decide_eq_true k))
theorem c0w {a b:ByteArray} (h:a0D a b=false) (hne:a≠b):a0D b a=true:=by
 rw [h0m] at*;have h1:=of_decide_eq_false h;have h2:ofB b<=ofB a:=List.not_lt.1 h1;rcases List.le_iff_lt_or_eq.1 h2 with h3|h3
 .exact decide_eq_true h3
 .exact absurd (w0Q h3.symm) hne
theorem c0C {l:List ByteArray} (hd:l.Nodup):(sortS l).Pairwise (fun a b=>a0D a b=true):=by
 have tr:∀a b c:List UInt8,leB a b=true->leB b c=true->leB a c=true:=fun a b c h1 h2=>by simp only [leB,decide_eq_true_eq] at*;exact List.le_trans h1 h2
 have tot:∀a b:List UInt8,(leB a b||leB b a)=true:=fun a b=>by simp only [leB,j1E,decide_eq_true_eq];exact List.le_total a b
 have h1:=l1E tr tot (l.map ofB);have hd2:(sortS l).Nodup:=(b0L l).symm.nodup hd;have h2:(sortS l).Pairwise (fun a b=>leB (ofB a) (ofB b)=true):=by
  unfold sortS;rw [List.pairwise_map];exact h1
 refine (List.Pairwise.and h2 hd2).imp ?_;rintro a b ⟨h3,h4⟩;rw [h0m];simp only [leB,decide_eq_true_eq] at h3;rcases List.le_iff_lt_or_eq.1 h3 with h5|h5
 .exact decide_eq_true h5
 .exact absurd (w0Q h5) h4
theorem a1F {l:List ByteArray} (hd:l.Nodup) {i j:Nat} (hij:i<j) (hj:j<l.length):a0D ((sortS l).getD i ⟨#[]⟩) ((sortS l).getD j ⟨#[]⟩)=true:=by
 have hj':j<(sortS l).length:=by rw [a0S];exact hj
 have:=g1z.1 (c0C hd) i j (by omega) hj' hij;simpa [List.getD,hj',show i<(sortS l).length by omega] using this
theorem n0x {l m:List ByteArray} (hp:m.Perm l) (hm:m.Pairwise (fun a b=>a0D a b=true)):sortS l=m:=by
 have hdm:m.Nodup:=hm.imp (fun {a b} h e=>by subst e;rw [a0p] at h;cases h);refine k1x (le:=fun a b=>a0D a b=true) (fun a b _ _ h1 h2=> ?_) (c0C (hp.nodup hdm)) hm ((b0L l).trans hp.symm);rw [r0j h1] at h2;cases h2
end Go.Sy
namespace Go.Proofs.YtegbehopnoocnaaGreatDoor
open Go.RowKit Go.Sy
section
attribute [local irreducible] a0q a0r a0k a0P
def idI (ps:List ByteArray) (s:ByteArray) (n:Nat):Int:=if a0o ps s<n then (a0o ps s:Int) else-1
theorem sidx_le (s:ByteArray):∀l:List ByteArray,a0o l s<=l.length
 | []=>n0q _
 |x::l=>by
  have:=sidx_le s l;simp only [a0o,d1G];cases seq x s<;>simp only [cond_true,cond_false]<;>omega
theorem s0U {a b:ByteArray}:seq a b=true↔a=b:=by unfold seq;exact decide_eq_true_iff
theorem w0R {s:ByteArray}:∀(l:List ByteArray) (j:Nat),j<a0o l s->¬l.getD j ⟨#[]⟩=s
 | [],j,h=>by simp [a0o] at h
 |x::l,j,h=>by
  simp only [a0o] at h;cases hx:seq x s with
  |true=>rw [hx] at h;simp at h
  |false=>
   rw [hx] at h;simp only [cond_false] at h;cases j with
   |zero=>intro e;rw [s0U.2 (show x=s from e)] at hx;cases hx
   |succ j=>exact w0R l j (by omega)
theorem d0u {s:ByteArray}:∀(l:List ByteArray),a0o l s<l.length->l.getD (a0o l s) ⟨#[]⟩=s
 | [],h=>by simp [a0o] at h
 |x::l,h=>by
  simp only [a0o] at h⊢;cases hx:seq x s with
  |true=>exact s0U.1 hx
  |false=>
   rw [hx] at h;simp only [cond_false,d1G] at h⊢;exact d0u l (by omega)
theorem m0W {s:ByteArray} {l:List ByteArray} {k:Nat} (hk:k<l.length) (h:l.getD k ⟨#[]⟩=s) (hlo:∀j,j<k->¬l.getD j ⟨#[]⟩=s):a0o l s=k:=by
 rcases j1P (a0o l s) k with q|q|q
 .exact absurd (d0u l (by omega)) (hlo _ q)
 .exact q
 .exact absurd h (w0R l k q)
theorem k0w (n:Nat) (ps:List ByteArray) (s:ByteArray) (hl:ps.length=n) (hn:n<=100000):FC Tryz.prog 2 61 [.sl 1 0 0 n,.str s] [(1,some (.one true (.cols n [.sc (.strs ps)])))] (a0h (.int .i64 (idI ps s n)) [] 2):=by
 refine fEx Tryz.func61 ?_;repeat' ((conv=>whnf);first|refine a0a ?_|(apply bRx<;>intro h<;>try (exfalso;(try dsimp only at h);omega)))
 all_goals (conv=>whnf)
 refine a0f (fun k:Nat=>⟨[(0,.sl 1 0 0 n),(1,.str s),(6,.sl 1 0 0 n),(7,.int .i64 n),(8,.int .i64 k)],[(1,some (.one true (.cols n [.sc (.strs ps)])))],2⟩) (fun k=>k<=n/\∀j,j<k->¬ps.getD j ⟨#[]⟩=s) (fun k=>n-k) 0 [0,1] [] wHx ⟨w0F _,fun j hj=>by omega⟩ ?_;rintro k ⟨hk,hlo⟩;by_cases hk2:k<n
 .by_cases q:ps.getD k ⟨#[]⟩=s
  .have hi:idI ps s n=(k:Int):=by
    have e:=m0W (by omega) q hlo;unfold idI;rw [e,if_pos hk2]
   rw [hi];repeat' ((conv=>whnf);first|refine a0a ?_|(apply bRx<;>intro h<;>try (exfalso;(try dsimp only at h);omega)))
   all_goals (conv=>whnf)
   all_goals (try simp only [a0u] at*)
   all_goals first
    |exact rOx [0,1] a0b
    |(exfalso;first|omega|contradiction|exact absurd q.symm (by assumption))
    |trace_state
  .have hnx:∀j,j<k+1->¬ps.getD j ⟨#[]⟩=s:=fun j hj=>by
    by_cases e:j=k
    .subst e;exact q
    .exact hlo j (by omega)
   repeat' ((conv=>whnf);first|refine a0a ?_|(apply bRx<;>intro h<;>try (exfalso;(try dsimp only at h);omega)))
   all_goals (conv=>whnf)
   all_goals (try simp only [a0u] at*)
   all_goals first
    |exact ⟨k+1,[0,1],[],⟨hk2,hnx⟩,(show n-(k+1)<n-k by omega),⟨rfl,⟨rfl,rfl,rfl,rfl,congrArg (fun z=>some (SV.int .i64 z)) (a0e (by omega)),trivial⟩,⟨rfl,trivial⟩⟩⟩
    |(exfalso;first|omega|contradiction|exact q ((by assumption:s=_).symm))
    |trace_state
 .have e:k=n:=by omega
  subst e;have hi:idI ps s k= -1:=by
   unfold idI;rw [if_neg];intro q;exact hlo _ q (d0u ps (by omega))
  rw [hi];repeat' ((conv=>whnf);first|refine a0a ?_|(apply bRx<;>intro h<;>try (exfalso;(try dsimp only at h);omega)))
  all_goals (conv=>whnf)
  all_goals first
   |exact rOx [0,1] a0b
   |(exfalso;omega)
   |trace_state
theorem p0x (n:Nat) (ps:List ByteArray) (s:ByteArray) (hl:ps.length=n) (hn:n<=100000):FC Tryz.prog 2 42 [.sl 1 0 0 n,.str s] [(1,some (.one true (.cols n [.sc (.strs ps)])))] (a0h (.bool (decide (0<=idI ps s n))) [] 2):=by
 have c:=k0w n ps s hl hn;refine fEx Tryz.func42 ?_;repeat' ((conv=>whnf);first|refine cOx (l:= [0,1]) c ?_|refine a0a ?_|(apply bRx<;>intro h<;>try (exfalso;(try dsimp only at h);omega)))
 all_goals (conv=>whnf)
 all_goals exact rOx [0,1] a0b
theorem f0j {P:Program} {f:FuncId} {fn:Func} (h:P.funcs[f]? =some fn) (hb:fn.body.isSome=true) (hn:(fn.name=="runtime.NumGoroutine")=false):e0Q P f:=by
 obtain ⟨c,hc⟩:=j1t.1 hb;exact ⟨fn,c,h,hc,hn⟩
theorem a1G (n:Nat) (l:List ByteArray) (hn:n<4611686018427387904):FC Tryz.prog 2 43 [.sl 1 0 0 n] [(1,some (.one false (.cols n [.sc (.strs l)])))] (a0h (.tup []) [(1,some (.one false (.cols n [.sc (.strs (sortS l))])))] 2):=
 a1w ⟨fun blk off cap ss W hH hblk hsz=>AnyM.slices_Sort_string Tryz.sortS blk off cap ss W hH hblk hsz,fun p cap W=>AnyM.slices_Sort_string_none Tryz.sortS p cap W⟩ (f0j Tryz.func43 (by kernel_rfl) (by kernel_rfl)) n l hn
structure Bk where
 n:Nat
 ps:List ByteArray
 m:Nat
 cs:List ByteArray
 vs:List (List Int)
 bs:List Nat
 ck:Nat
abbrev bkM (ro:Bool) (b:Bk):Option HB:=some (.one ro (.obj (.map false false b.m [.strs b.cs] [.arrs 16 .i64 b.vs] b.bs b.ck)))
abbrev bkP (ro:Bool) (b:Bk):Option HB:=some (.one ro (.cols b.n [.sc (.strs b.ps)]))
abbrev bkC (ro:Bool) (hp hm n:Nat):Option HB:=some (.one ro (.cells [.sl hp 0 0 n,.map hm 0]))
def nwE (ps:List ByteArray) (k:Nat):Int:=if nmB (ps.getD k ⟨#[]⟩)=false then 5 else if 0<=idI (ps.take k) (ps.getD k ⟨#[]⟩) k then 7 else 0
def nwK (ps:List ByteArray):Nat->Int
 |0=>0
 |k+1=>if nwK ps k≠0 then nwK ps k else nwE ps k
theorem n0y {ps:List ByteArray} {k:Nat} (h0:nwK ps k=0) (h1:nwE ps k≠0):∀n,k<n->nwK ps n=nwE ps k
 |0,h=>by omega
 |n+1,h=>by
  simp only [nwK];by_cases e:k=n
  .subst e;rw [if_neg (by omega)]
  .rw [n0y h0 h1 n (by omega),if_pos h1]
def b0u (ps:List ByteArray):Int:=if 16<ps.length then 3 else nwK ps ps.length
def nwB (ps:List ByteArray):Bk:=⟨ps.length,sortS ps,0,[],[],[],0⟩
def u0Y (ps:List ByteArray):SV->a0j->Nat->Prop:=if b0u ps≠0 then a0h (.tup [.nptr,.int .i64 (b0u ps)]) [] 2 else a0h (.tup [.ptr 2 0 0 0,.int .i64 0]) [(2,bkC false 3 4 ps.length),(3,bkP false (nwB ps)),(4,bkM false (nwB ps))] 5
theorem w0S {ps:List ByteArray} {k:Nat} (hk:k<ps.length):ps.take (k+1)=ps.take k++ [ps.getD k ⟨#[]⟩]:=by
 rw [j1x hk,List.getD,k0n hk];rfl
theorem d1W (ps:List ByteArray) (n:Nat) (hl:ps.length=n) (hn:n<=100000):FC Tryz.prog 2 21 [.sl 1 0 0 n] [(1,some (.one true (.cols n [.sc (.strs ps)])))] (u0Y ps):=by
 unfold u0Y b0u;by_cases h16:16<n
 .rw [hl,if_pos h16,if_pos (by decide)];refine fEx Tryz.func21 ?_;repeat' ((conv=>whnf);first|refine a0a ?_|(apply bRx<;>intro h<;>try (exfalso;(try dsimp only at h);omega)))
  all_goals (conv=>whnf)
  all_goals first
   |exact rOx [0,1] a0b
   |(exfalso;omega)
   |trace_state
 rw [hl,if_neg h16];refine fEx Tryz.func21 ?_;repeat' ((conv=>whnf);first|refine a0a ?_|(apply bRx<;>intro h<;>try (exfalso;(try dsimp only at h);omega)))
 all_goals (conv=>whnf)
 refine a0f (fun k:Nat=>⟨[(4,.ptr 2 0 0 0),(13,.sl 1 0 0 n),(14,.int .i64 n),(15,.int .i64 k)],[(1,some (.one true (.cols n [.sc (.strs ps)]))),(2,bkC false 3 4 k),(3,some (.one false (.cols k [.sc (.strs (ps.take k))]))),(4,bkM false (nwB ps))],5⟩) (fun k=>k<=n/\nwK ps k=0) (fun k=>n-k) 0 [0,1,3,4,2] [.cell 3 0 [.sc (.strs [])]] wHx ⟨w0F _,rfl⟩ ?_;rintro k ⟨hk,h0⟩;by_cases hk2:k<n
 .have c1:=u0X (ps.getD k ⟨#[]⟩);have c2:=p0x k (ps.take k) (ps.getD k ⟨#[]⟩) (by rw [d1P];omega) (by omega);have hE:nwE ps k=if nmB (ps.getD k ⟨#[]⟩)=false then 5 else if 0<=idI (ps.take k) (ps.getD k ⟨#[]⟩) k then 7 else 0:=rfl
  have hst:=fun h=>n0y h0 h n hk2
  have hs0:nwE ps k=0->nwK ps (k+1)=0:=fun h=>by simp only [nwK];rw [if_neg (by omega)];exact h
  have htk:=w0S (ps:=ps) (k:=k) (by omega);cases hnm:nmB (ps.getD k ⟨#[]⟩) with
  |false=>
   rw [hnm] at c1;rw [hnm,if_pos rfl] at hE;rw [hst (by omega),hE,if_pos (by decide)];repeat' ((conv=>whnf);first|refine cPx c1 ?_|refine cOx (l:= [0,3]) c2 ?_|refine a0a ?_|(apply bRx<;>intro h<;>try (exfalso;(try dsimp only at h);omega)))
   all_goals (conv=>whnf)
   all_goals first
    |exact rOx [0,1] a0b
    |(exfalso;omega)
    |trace_state
  |true=>
   rw [hnm] at c1;rw [hnm,if_neg (by simp)] at hE;by_cases hin:0<=idI (ps.take k) (ps.getD k ⟨#[]⟩) k
   .rw [if_pos hin] at hE;rw [decide_eq_true hin] at c2;rw [hst (by omega),hE,if_pos (by decide)];repeat' ((conv=>whnf);first|refine cPx c1 ?_|refine cOx (l:= [0,3]) c2 ?_|refine a0a ?_|(apply bRx<;>intro h<;>try (exfalso;(try dsimp only at h);omega)))
    all_goals (conv=>whnf)
    all_goals first
     |exact rOx [0,1] a0b
     |(exfalso;omega)
     |trace_state
   .rw [if_neg hin] at hE;rw [decide_eq_false hin] at c2;have hr:(some (HB.one false (.cols (k+1) [.sc (.strs (ps.take k++ [ps.getD k ⟨#[]⟩]))])):Option HB)=some (.one false (.cols (k+1) [.sc (.strs (ps.take (k+1)))])):=by rw [htk]
    repeat' ((conv=>whnf);first|refine cPx c1 ?_|refine cOx (l:= [0,3]) c2 ?_|refine a0a ?_|(apply bRx<;>intro h<;>try (exfalso;(try dsimp only at h);omega)))
    all_goals (conv=>whnf)
    all_goals first
     |exact ⟨k+1,[0,1,2,6,4],[],⟨hk2,hs0 hE⟩,(show n-(k+1)<n-k by omega),⟨rfl,⟨rfl,rfl,rfl,congrArg (fun z=>some (SV.int .i64 z)) (a0e (by omega)),trivial⟩,⟨rfl,rfl,hr,rfl,trivial⟩⟩⟩
     |(exfalso;omega)
     |trace_state
 .have e:k=n:=by omega
  subst e;have eT:ps.take k=ps:=by rw [<-hl,g1y]
  rw [eT,if_neg (by omega)];have c3:=a1G k ps (by omega);repeat' ((conv=>whnf);first|refine cOx (l:= [0,3]) c3 ?_|refine a0a ?_|(apply bRx<;>intro h<;>try (exfalso;(try dsimp only at h);omega)))
  all_goals (conv=>whnf)
  all_goals first
   |exact c0S (l:= [0,1,2,3,4]) rfl rfl ⟨rfl,by rw [<-hl];rfl,rfl,trivial⟩ (a0d (a0d (a0d a0b)))
   |(exfalso;omega)
   |trace_state
end
section
attribute [local irreducible] a0q a0r a0k a0P
abbrev z16:List Int:=List.replicate 16 0
abbrev Bk.ix (b:Bk) (c:ByteArray):Nat:=a0o b.cs c
abbrev Bk.row (b:Bk) (c:ByteArray):List Int:=b.vs.getD (a0o b.cs c) z16
abbrev bkH (b:Bk):a0j:= [(1,bkC true 2 3 b.n),(2,bkP true b),(3,bkM false b)]
abbrev bkR (b:Bk):a0j:= [(1,bkC true 2 3 b.n),(2,bkP true b),(3,bkM true b)]
def Bk.put (b:Bk) (c:ByteArray) (r:List Int):Bk:=
 ⟨b.n,b.ps,if a0o b.cs c<b.m then b.m else b.m+1,a0Z (a0o b.cs c) c b.cs,a0Z (a0o b.cs c) r b.vs,if a0o b.cs c<b.m then b.bs else b.bs++ [b.ck],if a0o b.cs c<b.m then b.ck else b.ck+1⟩
def Bk.del (b:Bk) (c:ByteArray):Bk:=
 ⟨b.n,b.ps,if a0o b.cs c<b.m then b.m-1 else b.m,b.cs.eraseIdx (a0o b.cs c),b.vs.eraseIdx (a0o b.cs c),b.bs.eraseIdx (a0o b.cs c),b.ck⟩
structure Bk.Ok (b:Bk):Prop where
 n:b.n<=16
 ps:b.ps.length=b.n
 len:∀i,(b.vs.getD i z16).length=16
 bd:∀i j,-4503599627370496<=(b.vs.getD i z16).getD j 0/\(b.vs.getD i z16).getD j 0<=4503599627370496
def f0n (x:Int):Bool:=decide (-4503599627370496<=x)&&decide (x<=4503599627370496)
theorem m0l {x:Int}:f0n x=true↔-4503599627370496<=x/\x<=4503599627370496:=by unfold f0n;simp
theorem w0T {x:Int}:f0n x=false↔¬(-4503599627370496<=x/\x<=4503599627370496):=by rw [<-m0l];simp
theorem f0L (x:Int):b0m Tryz.prog 63 [.int .i64 x] (.bool (f0n x)):=by
 by_cases h: -4503599627370496<=x/\x<=4503599627370496
 .rw [m0l.2 h];refine fEx Tryz.func63 ?_;repeat' ((conv=>whnf);first|refine a0a ?_|(apply bRx<;>intro h<;>try (exfalso;(try dsimp only at h);omega)))
  all_goals (conv=>whnf)
  all_goals first
   |exact a0c rfl
   |(refine a0c (congrArg SV.bool ?_);simp;omega)
   |(exfalso;omega)
   |trace_state
 .rw [w0T.2 h];refine fEx Tryz.func63 ?_;repeat' ((conv=>whnf);first|refine a0a ?_|(apply bRx<;>intro h<;>try (exfalso;(try dsimp only at h);omega)))
  all_goals (conv=>whnf)
  all_goals first
   |exact a0c rfl
   |(refine a0c (congrArg SV.bool ?_);simp;omega)
   |(exfalso;omega)
   |trace_state
abbrev h0n (r:List Int) (F T:Nat) (a:Int):List Int:=(r.set F (r.getD F 0-a)).set T (r.getD T 0+a)
def mvE (b:Bk) (f t c:ByteArray) (a:Int):Int:=
 if idI b.ps f b.n<0\/idI b.ps t b.n<0 then 6
 else if idI b.ps f b.n=idI b.ps t b.n then 4
 else if b0O a c≠0 then b0O a c
 else if a<0 then 4
 else if f0n ((b.row c).getD (a0o b.ps f) 0-a)=true/\f0n ((b.row c).getD (a0o b.ps t) 0+a)=true then 0 else 4
def Bk.mv1 (b:Bk) (c:ByteArray) (r:List Int):Bk:=if r=z16 then (b.put c r).del c else b.put c r
def Bk.mv (b:Bk) (f t c:ByteArray) (a:Int):Bk:=if mvE b f t c a=0 then b.mv1 c (h0n (b.row c) (a0o b.ps f) (a0o b.ps t) a) else b
theorem i0I {b:Bk} {f t c:ByteArray} {a:Int} (h:mvE b f t c a≠0):b.mv f t c a=b:=if_neg h
theorem i0J {ps:List ByteArray} {s:ByteArray} {n:Nat} (h:a0o ps s<n):idI ps s n=(a0o ps s:Int):=if_pos h
theorem i0K {ps:List ByteArray} {s:ByteArray} {n:Nat} (h:¬a0o ps s<n):idI ps s n= -1:=if_neg h
theorem a1H (b:Bk) (hb:b.Ok) (f t c:ByteArray) (a:Int):FC Tryz.prog 4 39 [.ptr 1 0 0 0,.str f,.str t,.agg [.int .i64 a,.str c]] (bkH b) (a0h (.int .i64 (mvE b f t c a)) [(3,bkM false (b.mv f t c a))] 4):=by
 have hn:=hb.n;have c1:=k0w b.n b.ps f hb.ps (by omega);have c2:=k0w b.n b.ps t hb.ps (by omega);have c3:=d0r a c;by_cases h1:a0o b.ps f<b.n
 case neg=>
  have e:mvE b f t c a=6:=by unfold mvE;rw [i0K h1,if_pos (Or.inl (by decide))]
  rw [i0I (by rw [e];decide),e];rw [i0K h1] at c1;refine fEx Tryz.func39 ?_;repeat' ((conv=>whnf);first|refine cOx (l:= [0,2]) c1 ?_|refine cOx (l:= [0,2]) c2 ?_|refine a0a ?_|(apply bRx<;>intro h<;>try (exfalso;(try dsimp only at h);omega)))
  all_goals (conv=>whnf)
  all_goals first
   |exact rOx [0,1,2,3] (a0d a0b)
   |(exfalso;omega)
   |trace_state
 by_cases h2:a0o b.ps t<b.n
 case neg=>
  have e:mvE b f t c a=6:=by unfold mvE;rw [i0K h2,if_pos (Or.inr (by decide))]
  rw [i0I (by rw [e];decide),e];rw [i0K h2] at c2;refine fEx Tryz.func39 ?_;repeat' ((conv=>whnf);first|refine cOx (l:= [0,2]) c1 ?_|refine cOx (l:= [0,2]) c2 ?_|refine a0a ?_|(apply bRx<;>intro h<;>try (exfalso;(try dsimp only at h);omega)))
  all_goals (conv=>whnf)
  all_goals first
   |exact rOx [0,1,2,3] (a0d a0b)
   |(exfalso;omega)
   |trace_state
 have e0:mvE b f t c a=if a0o b.ps f=a0o b.ps t then 4 else if b0O a c≠0 then b0O a c else if a<0 then 4 else if f0n ((b.row c).getD (a0o b.ps f) 0-a)=true/\f0n ((b.row c).getD (a0o b.ps t) 0+a)=true then 0 else 4:=by
  unfold mvE;rw [i0J h1,i0J h2,if_neg (by omega)];by_cases q:a0o b.ps f=a0o b.ps t
  .rw [if_pos q,if_pos (by omega)]
  .rw [if_neg q,if_neg (by omega)]
 rw [i0J h1] at c1;rw [i0J h2] at c2;by_cases h3:a0o b.ps f=a0o b.ps t
 .rw [if_pos h3] at e0;rw [i0I (by rw [e0];decide),e0];refine fEx Tryz.func39 ?_;repeat' ((conv=>whnf);first|refine cOx (l:= [0,2]) c1 ?_|refine cOx (l:= [0,2]) c2 ?_|refine a0a ?_|(apply bRx<;>intro h<;>try (exfalso;(try dsimp only at h);omega)))
  all_goals (conv=>whnf)
  all_goals first
   |exact rOx [0,1,2,3] (a0d a0b)
   |(exfalso;omega)
   |trace_state
 rw [if_neg h3] at e0;by_cases h4:b0O a c=0
 case neg=>
  rw [if_pos h4] at e0;rw [i0I (by rw [e0];exact h4),e0];refine fEx Tryz.func39 ?_;repeat' ((conv=>whnf);first|refine cOx (l:= [0,2]) c1 ?_|refine cOx (l:= [0,2]) c2 ?_|refine cPx c3 ?_|refine a0a ?_|(apply bRx<;>intro h<;>try (exfalso;(try dsimp only at h);omega)))
  all_goals (conv=>whnf)
  all_goals first
   |exact rOx [0,1,2,3] (a0d a0b)
   |(exfalso;omega)
   |trace_state
 rw [if_neg (by simpa using h4)] at e0;rw [h4] at c3;have ham:=e0F a c;rw [h4] at ham;have hlen:=hb.len (a0o b.cs c);have hbd:=hb.bd (a0o b.cs c);have hF: -4503599627370496<=(b.row c).getD (a0o b.ps f) 0/\(b.row c).getD (a0o b.ps f) 0<=4503599627370496:=hbd (a0o b.ps f);have hT: -4503599627370496<=(b.row c).getD (a0o b.ps t) 0/\(b.row c).getD (a0o b.ps t) 0<=4503599627370496:=hbd (a0o b.ps t);by_cases h5:a<0
 .rw [if_pos h5] at e0;rw [i0I (by rw [e0];decide),e0];refine fEx Tryz.func39 ?_;repeat' ((conv=>whnf);first|refine cOx (l:= [0,2]) c1 ?_|refine cOx (l:= [0,2]) c2 ?_|refine cPx c3 ?_|refine a0a ?_|(apply bRx<;>intro h<;>try (exfalso;(try dsimp only at h);omega)))
  all_goals (conv=>whnf)
  all_goals first
   |exact rOx [0,1,2,3] (a0d a0b)
   |(exfalso;omega)
   |trace_state
 rw [if_neg h5] at e0;have g1:IntKind.i64.wrap ((b.row c).getD (a0o b.ps f) 0-a)=(b.row c).getD (a0o b.ps f) 0-a:=a0m (by omega) (by omega);have g2:((b.row c).set (a0o b.ps f) ((b.row c).getD (a0o b.ps f) 0-a)).getD (a0o b.ps t) 0=(b.row c).getD (a0o b.ps t) 0:=by
  rw [List.getD,j1R h3];rfl
 have g3:IntKind.i64.wrap ((b.row c).getD (a0o b.ps t) 0+a)=(b.row c).getD (a0o b.ps t) 0+a:=a0m (by omega) (by omega);have g4:(h0n (b.row c) (a0o b.ps f) (a0o b.ps t) a).getD (a0o b.ps f) 0=(b.row c).getD (a0o b.ps f) 0-a:=by
  unfold h0n;rw [List.getD,j1R (fun e=>h3 e.symm),j1S (by rw [hlen];omega)];rfl
 have g5:(h0n (b.row c) (a0o b.ps f) (a0o b.ps t) a).getD (a0o b.ps t) 0=(b.row c).getD (a0o b.ps t) 0+a:=by
  unfold h0n;rw [List.getD,j1S (by rw [j1B,hlen];omega)];rfl
 by_cases h6:f0n ((b.row c).getD (a0o b.ps f) 0-a)=true/\f0n ((b.row c).getD (a0o b.ps t) 0+a)=true
 case neg=>
  rw [if_neg h6] at e0;rw [i0I (by rw [e0];decide),e0];refine fEx Tryz.func39 ?_;repeat' ((conv=>whnf);first|refine cOx (l:= [0,2]) c1 ?_|refine cOx (l:= [0,2]) c2 ?_|refine cPx c3 ?_|refine cPx (f0L _) ?_|refine a0a ?_|(apply bRx<;>intro h<;>try (exfalso;(try dsimp only at h);omega)))
  all_goals (conv=>whnf)
  all_goals (try simp only [a0u,p0F,g1,g2,g3,g4,g5] at*)
  all_goals first
   |exact rOx [0,1,2,3] (a0d a0b)
   |(exfalso;omega)
   |(exfalso;exact h6 ⟨by assumption,by assumption⟩)
   |trace_state
 rw [if_pos h6] at e0;have e1:b.mv f t c a=b.mv1 c (h0n (b.row c) (a0o b.ps f) (a0o b.ps t) a):=by unfold Bk.mv;rw [if_pos e0]
 rw [e1,e0];have h61:=h6.1;have h62:=h6.2;by_cases h7:h0n (b.row c) (a0o b.ps f) (a0o b.ps t) a=z16
 .unfold Bk.mv1;rw [if_pos h7];refine fEx Tryz.func39 ?_;repeat' ((conv=>whnf);first|refine cOx (l:= [0,2]) c1 ?_|refine cOx (l:= [0,2]) c2 ?_|refine cPx c3 ?_|refine cPx (f0L _) ?_|refine a0a ?_|(apply bRx<;>intro h<;>try (exfalso;(try dsimp only at h);omega)))
  all_goals (conv=>whnf)
  all_goals (try simp only [a0u,p0F,g1,g2,g3,g4,g5] at*)
  all_goals first
   |exact rOx [0,1,2,3] (a0d a0b)
   |(exfalso;omega)
   |(exfalso;exact bnf h61 (by assumption))
   |(exfalso;exact bnf h62 (by assumption))
   |contradiction
   |trace_state
 .unfold Bk.mv1;rw [if_neg h7];refine fEx Tryz.func39 ?_;repeat' ((conv=>whnf);first|refine cOx (l:= [0,2]) c1 ?_|refine cOx (l:= [0,2]) c2 ?_|refine cPx c3 ?_|refine cPx (f0L _) ?_|refine a0a ?_|(apply bRx<;>intro h<;>try (exfalso;(try dsimp only at h);omega)))
  all_goals (conv=>whnf)
  all_goals (try simp only [a0u,p0F,g1,g2,g3,g4,g5] at*)
  all_goals first
   |exact rOx [0,1,2,3] (a0d a0b)
   |(exfalso;omega)
   |(exfalso;exact bnf h61 (by assumption))
   |(exfalso;exact bnf h62 (by assumption))
   |contradiction
   |trace_state
end
section
attribute [local irreducible] a0q a0r a0k a0P
def isD (d:Int):Bool:=decide (0<=d)&&decide (d<=99999)
theorem f0o {d:Int}:isD d=true↔0<=d/\d<=99999:=by unfold isD;simp
theorem c1p {d:Int}:isD d=false↔d<0\/99999<d:=by
 unfold isD;rw [Bool.and_eq_false_iff,decide_eq_false_iff_not,decide_eq_false_iff_not];omega
theorem e0l (d:Int):b0m Tryz.prog 19 [.int .i64 d] (.bool (isD d)):=by
 unfold isD;by_cases h1:0<=d<;>by_cases h2:d<=99999;all_goals simp only [h1,h2,decide_true,decide_false,l1H,k1L,j1O,j1I]
 all_goals refine fEx Tryz.func19 ?_
 all_goals repeat' ((conv=>whnf);first|refine a0a ?_|(apply bRx<;>intro h<;>try (exfalso;(try dsimp only at h);omega)))
 all_goals (conv=>whnf)
 all_goals first
  |exact a0c rfl
  |exact a0c (congrArg SV.bool (by simp;omega))
  |(exfalso;omega)
  |trace_state
def wkI (d:Int):Int:=if isD d=true then (d+3)%7 else-1
theorem j0e {a b:Int} (h:0<=a):a.tmod b=a%b:=by rw [l1X h]
theorem s0V {a b:Int} (h:0<=a):a.tdiv b=a/b:=by rw [k1s h]
theorem r0k (d:Int):b0m Tryz.prog 59 [.int .i64 d] (.int .i64 (wkI d)):=by
 have c:=e0l d;unfold wkI;cases h:isD d with
 |true=>
  have hd:=f0o.1 h;rw [h] at c;rw [if_pos rfl];refine fEx Tryz.func59 ?_;repeat' ((conv=>whnf);first|refine cPx c ?_|refine a0a ?_|(apply bRx<;>intro h<;>try (exfalso;(try dsimp only at h);omega)))
  all_goals (conv=>whnf)
  all_goals first
   |exact a0c (congrArg (SV.int .i64) (by rw [a0m (n:=d+3) (by omega) (by omega),j0e (by omega)]))
   |(exfalso;omega)
   |trace_state
 |false=>
  rw [h] at c;rw [if_neg (by simp)];refine fEx Tryz.func59 ?_;repeat' ((conv=>whnf);first|refine cPx c ?_|refine a0a ?_|(apply bRx<;>intro h<;>try (exfalso;(try dsimp only at h);omega)))
  all_goals (conv=>whnf)
  all_goals first
   |exact a0c rfl
   |(exfalso;omega)
   |trace_state
def okT (t:Int):Bool:=decide (0<=t)&&(decide (t<=1099511627776)&&isD (t/86400))
def j0f (t:Int):Int:=if okT t=true then t/86400 else-1
def a1I (t:Int):Int:=if okT t=true then t%86400 else-1
theorem e0G {t:Int}:okT t=true↔0<=t/\t<=1099511627776/\isD (t/86400)=true:=by unfold okT;simp
theorem d1X (t:Int):b0m Tryz.prog 35 [.int .i64 t] (.tup [.int .i64 (j0f t),.int .i64 (a1I t)]):=by
 have c:=e0l (t/86400);unfold j0f a1I;by_cases h1:0<=t
 .by_cases h2:t<=1099511627776
  .have e1:IntKind.i64.wrap (t.tdiv 86400)=t/86400:=by rw [s0V h1,a0m (by omega) (by omega)]
   have e2:t.tmod 86400=t%86400:=j0e h1;cases h3:isD (t/86400) with
   |true=>
    have hk:okT t=true:=e0G.2 ⟨h1,h2,h3⟩;rw [h3] at c;rw [if_pos hk,if_pos hk];refine fEx Tryz.func35 ?_;repeat' ((conv=>whnf);first|(simp only [e1])|refine cPx c ?_|refine a0a ?_|(apply bRx<;>intro h<;>try (exfalso;(try dsimp only at h);omega)))
    all_goals (conv=>whnf)
    all_goals (try simp only [e2])
    all_goals first
     |exact a0c rfl
     |(exfalso;omega)
     |trace_state
   |false=>
    have hk:¬okT t=true:=fun q=>by have:=(e0G.1 q).2.2;rw [h3] at this;cases this
    rw [h3] at c;rw [if_neg hk,if_neg hk];refine fEx Tryz.func35 ?_;repeat' ((conv=>whnf);first|(simp only [e1])|refine cPx c ?_|refine a0a ?_|(apply bRx<;>intro h<;>try (exfalso;(try dsimp only at h);omega)))
    all_goals (conv=>whnf)
    all_goals first
     |exact a0c rfl
     |(exfalso;omega)
     |trace_state
  .have hk:¬okT t=true:=fun q=>h2 (e0G.1 q).2.1
   rw [if_neg hk,if_neg hk];refine fEx Tryz.func35 ?_;repeat' ((conv=>whnf);first|refine a0a ?_|(apply bRx<;>intro h<;>try (exfalso;(try dsimp only at h);omega)))
   all_goals (conv=>whnf)
   all_goals first
    |exact a0c rfl
    |(exfalso;omega)
    |trace_state
 .have hk:¬okT t=true:=fun q=>h1 (e0G.1 q).1
  rw [if_neg hk,if_neg hk];refine fEx Tryz.func35 ?_;repeat' ((conv=>whnf);first|refine a0a ?_|(apply bRx<;>intro h<;>try (exfalso;(try dsimp only at h);omega)))
  all_goals (conv=>whnf)
  all_goals first
   |exact a0c rfl
   |(exfalso;omega)
   |trace_state
abbrev tmM (ro:Bool) (n:Nat) (ks:List Int):Option HB:=some (.one ro (.obj (.map false false n [.ints .i64 ks] [.sc (.bools (List.replicate n true))] (List.range n) n)))
abbrev v0C (ro:Bool) (h:Nat):Option HB:=some (.one ro (.cells [.map h 0]))
theorem m0m {n:Nat} {ks:List Int} (hn:ks.length=n) (d:Int):(List.replicate n true).getD (a0F ks d) false=decide (d∈ks):=by
 by_cases h:d∈ks
 .rw [decide_eq_true h,List.getD,l1G,if_pos (by have:=b0e.2 h;omega)];rfl
 .rw [decide_eq_false h,List.getD,l1G,if_neg (fun q=>h (b0e.1 (by omega)))];rfl
def j0g (hs:List Int) (d:Int):Bool:=isD d&&(decide ((d+3)%7<5)&& !decide (d∈hs))
theorem f0p (n:Nat) (ks:List Int) (hn:ks.length=n) (d:Int):FC Tryz.prog 3 36 [.ptr 1 0 0 0,.int .i64 d] [(1,v0C true 2),(2,tmM true n ks)] (a0h (.bool (j0g ks d)) [] 3):=by
 have c1:=e0l d;have c2:=r0k d;have hg:=m0m hn d;unfold j0g;cases h:isD d with
 |false=>
  rw [h] at c1;rw [j1I];refine fEx Tryz.func36 ?_;repeat' ((conv=>whnf);first|refine cPx c1 ?_|refine cPx c2 ?_|refine a0a ?_|(apply bRx<;>intro h<;>try (exfalso;(try dsimp only at h);omega)))
  all_goals (conv=>whnf)
  all_goals first
   |exact rOx [0,1,2] a0b
   |(exfalso;omega)
   |trace_state
 |true=>
  have hd:=f0o.1 h;unfold wkI at c2;rw [if_pos h] at c2;rw [h] at c1;rw [j1O];by_cases q:(d+3)%7<5
  .rw [decide_eq_true q,j1O];refine fEx Tryz.func36 ?_;repeat' ((conv=>whnf);first|refine cPx c1 ?_|refine cPx c2 ?_|refine a0a ?_|(apply bRx<;>intro h<;>try (exfalso;(try dsimp only at h);omega)))
   all_goals (conv=>whnf)
   all_goals (try simp only [hg] at*)
   all_goals first
    |exact rOx [0,1,2] a0b
    |(exfalso;omega)
    |trace_state
  .rw [decide_eq_false q,j1I];refine fEx Tryz.func36 ?_;repeat' ((conv=>whnf);first|refine cPx c1 ?_|refine cPx c2 ?_|refine a0a ?_|(apply bRx<;>intro h<;>try (exfalso;(try dsimp only at h);omega)))
   all_goals (conv=>whnf)
   all_goals first
    |exact rOx [0,1,2] a0b
    |(exfalso;omega)
    |trace_state
def nxK (p:Int->Bool):Nat->Int->Int
 |0,_=> -1
 |k+1,d=>if p d=true then d else nxK p k (d+1)
def nxI (hs:List Int) (d:Int):Int:=nxK (j0g hs) (100000-d).toNat d
def nxV (x:Int):SV:=if x<0 then .tup [.int .i64 0,.int .i64 4] else .tup [.int .i64 x,.int .i64 0]
theorem n0z {hs:List Int} {d:Int} (h:j0g hs d=true) (hd:d<=99999):nxI hs d=d:=by
 unfold nxI;obtain ⟨k,hk⟩:∃k,(100000-d).toNat=k+1:=⟨(99999-d).toNat,by omega⟩;rw [hk];exact if_pos h
theorem s0W {hs:List Int} {d:Int} (h:j0g hs d=false) (hd:d<=99999):nxI hs d=nxI hs (d+1):=by
 unfold nxI;obtain ⟨k,hk⟩:∃k,(100000-d).toNat=k+1:=⟨(99999-d).toNat,by omega⟩;rw [hk,show (100000-(d+1)).toNat=k by omega];simp only [nxK,h,j1i,if_false]
theorem n0A {hs:List Int} {d:Int} (hd:99999<d):nxI hs d= -1:=by
 unfold nxI;rw [show (100000-d).toNat=0 by omega];rfl
theorem a1J (n:Nat) (ks:List Int) (hn:ks.length=n) (d:Int):FC Tryz.prog 3 60 [.ptr 1 0 0 0,.int .i64 d] [(1,v0C true 2),(2,tmM true n ks)] (a0h (if isD d=true then nxV (nxI ks d) else nxV (-1)) [] 3):=by
 have c1:=e0l d;cases h:isD d with
 |false=>
  rw [h] at c1;rw [if_neg (by simp)];refine fEx Tryz.func60 ?_;repeat' ((conv=>whnf);first|refine cPx c1 ?_|refine a0a ?_|(apply bRx<;>intro h<;>try (exfalso;(try dsimp only at h);omega)))
  all_goals (conv=>whnf)
  all_goals first
   |exact rOx [0,1,2] a0b
   |(exfalso;omega)
   |trace_state
 |true=>
  have hd:=f0o.1 h;rw [h] at c1;rw [if_pos rfl];obtain ⟨a,ea⟩:=j1F hd.1;subst ea;generalize hX:nxI ks (a:Int)=X;refine fEx Tryz.func60 ?_;repeat' ((conv=>whnf);first|refine cPx c1 ?_|refine a0a ?_|(apply bRx<;>intro h<;>try (exfalso;(try dsimp only at h);omega)))
  all_goals (conv=>whnf)
  refine a0f (fun k:Nat=>⟨[(0,.ptr 1 0 0 0),(1,.int .i64 k)],[(1,v0C true 2),(2,tmM true n ks)],3⟩) (fun k=>k<=100000/\nxI ks (k:Int)=X) (fun k=>100000-k) a [0,1,2] [] wHx ⟨by omega,hX⟩ ?_;rintro k ⟨hk,hx⟩;have c:=f0p n ks hn k;by_cases hk2:k<=99999
  .cases hb:j0g ks k with
   |true=>
    rw [n0z hb (by omega)] at hx;subst hx;rw [hb] at c;unfold nxV;rw [if_neg (by omega)];repeat' ((conv=>whnf);first|refine cOx (l:= [0,1,2]) c ?_|refine a0a ?_|(apply bRx<;>intro h<;>try (exfalso;(try dsimp only at h);omega)))
    all_goals (conv=>whnf)
    all_goals first
     |exact rOx [0,1,2] a0b
     |(exfalso;omega)
     |trace_state
   |false=>
    rw [s0W hb (by omega)] at hx;rw [hb] at c;repeat' ((conv=>whnf);first|refine cOx (l:= [0,1,2]) c ?_|refine a0a ?_|(apply bRx<;>intro h<;>try (exfalso;(try dsimp only at h);omega)))
    all_goals (conv=>whnf)
    all_goals first
     |exact ⟨k+1,[0,1,2],[],⟨by omega,hx⟩,(show 100000-(k+1)<100000-k by omega),⟨rfl,⟨rfl,congrArg (fun z=>some (SV.int .i64 z)) (a0e (by omega)),trivial⟩,⟨rfl,rfl,trivial⟩⟩⟩
     |(exfalso;omega)
     |trace_state
  .rw [n0A (by omega)] at hx;subst hx;repeat' ((conv=>whnf);first|refine a0a ?_|(apply bRx<;>intro h<;>try (exfalso;(try dsimp only at h);omega)))
   all_goals (conv=>whnf)
   all_goals first
    |exact rOx [0,1,2] a0b
    |(exfalso;omega)
    |trace_state
def ddL (l:List Int) (k:Nat):List Int:=(l.take k).foldl (fun s d=>if d∈s then s else s++ [d]) []
theorem s0X {l:List Int} {k:Nat} (h:k<l.length):ddL l (k+1)=if l.getD k 0∈ddL l k then ddL l k else ddL l k++ [l.getD k 0]:=by
 unfold ddL;rw [List.take_add_one,k0n h,l1k];simp only [Option.toList_some,j1u,List.foldl_nil,List.getD,k0n h,j1A]
theorem r0l {l:List Int} {x:Int}:∀k,k<=l.length->(x∈ddL l k↔x∈l.take k)
 |0,_=>by simp [ddL]
 |k+1,h=>by
  rw [s0X h,List.take_add_one,k0n h];have ih:=r0l (l:=l) (x:=x) k (by omega);have e:l.getD k 0=l[k]:=by rw [List.getD,k0n h];rfl
  have ih2:=r0l (l:=l) (x:=l[k]) k (by omega);rw [e];split
  .rename_i q;simp only [g1h,ih,Option.mem_toList,Option.some.injEq];constructor
   .exact .inl
   .rintro (g|g)
    .exact g
    .subst g;exact ih2.1 q
  .simp only [g1h,ih,Option.mem_toList,Option.some.injEq,a1A];exact ⟨fun g=>g.imp id Eq.symm,fun g=>g.imp id Eq.symm⟩
def ddS (l:List Int):List Int:=ddL l l.length
theorem d1Y {l:List Int} {x:Int}:x∈ddS l↔x∈l:=by unfold ddS;rw [r0l _ (n0q _),g1y]
theorem r0m (l:List Int) (d:Int):j0g (ddS l) d=j0g l d:=by
 unfold j0g;have:decide (d∈ddS l)=decide (d∈l):=decide_eq_decide.2 d1Y;rw [this]
theorem c1q (l:List Int) (d:Int):nxI (ddS l) d=nxI l d:=by
 unfold nxI;rw [show j0g (ddS l)=j0g l from funext (r0m l)]
def z0B (l:List Int):Nat->Bool
 |0=>true
 |k+1=>z0B l k&&isD (l.getD k 0)
theorem f0q {l:List Int} {k:Nat} (h:isD (l.getD k 0)=false):∀n,k<n->z0B l n=false
 |0,q=>by omega
 |n+1,q=>by
  simp only [z0B];by_cases e:k=n
  .subst e;rw [h,k1L]
  .rw [f0q h n (by omega),j1I]
def c1r (l:List Int) (n:Nat):Int:=if 400<n then 3 else if z0B l n=true then 0 else 4
def g1r (l:List Int) (n:Nat):SV->a0j->Nat->Prop:=if c1r l n=0 then a0h (.tup [.ptr 2 0 0 0,.int .i64 0]) [(2,v0C false 3),(3,tmM false (ddS l).length (ddS l))] 4 else a0h (.tup [.nptr,.int .i64 (c1r l n)]) [] 2
theorem g1s {m:Nat} {s:List Int} (hm:s.length=m) (x:Int):(some (HB.one false (.obj (.map false false (if a0F s x<m then m else m+1) [.ints .i64 (a0Z (a0F s x) x s)] [.sc (.bools (a0Z (a0F s x) true (List.replicate m true)))] (if a0F s x<m then List.range m else List.range m++ [m]) (if a0F s x<m then m else m+1)))):Option HB)=tmM false (if x∈s then s else s++ [x]).length (if x∈s then s else s++ [x]):=by
 rw [n0r];by_cases h:x∈s
 .have hi:=b0e.2 h;rw [if_pos h,if_pos hi,if_pos (by omega),if_pos (by omega),hm];unfold a0Z;rw [List.length_replicate,if_pos (by omega),List.set_replicate_self]
 .have hi:¬a0F s x<s.length:=fun q=>h (b0e.1 q)
  rw [if_neg h,if_neg hi,if_neg (by omega),if_neg (by omega)];unfold a0Z;have e:List.replicate m true++ [true]=List.replicate (m+1) true:=List.replicate_succ'.symm;rw [List.length_replicate,if_neg (by omega),a1N,hm,f1M,<-List.range_succ,e]
theorem w0U (l:List Int) (n:Nat) (hl:l.length=n):FC Tryz.prog 2 5 [.sl 1 0 0 n] [(1,some (.one true (.cols n [.sc (.ints .i64 l)])))] (g1r l n):=by
 unfold g1r c1r;by_cases h4:400<n
 .rw [if_pos h4,if_neg (by decide)];refine fEx Tryz.func5 ?_;repeat' ((conv=>whnf);first|refine a0a ?_|(apply bRx<;>intro h<;>try (exfalso;(try dsimp only at h);omega)))
  all_goals (conv=>whnf)
  all_goals first
   |exact rOx [0,1] a0b
   |(exfalso;omega)
   |trace_state
 rw [if_neg h4];refine fEx Tryz.func5 ?_;repeat' ((conv=>whnf);first|refine a0a ?_|(apply bRx<;>intro h<;>try (exfalso;(try dsimp only at h);omega)))
 all_goals (conv=>whnf)
 all_goals first
  |(exfalso;omega)
  |skip
 refine a0f (fun k:Nat=>⟨[(4,.ptr 3 0 0 0),(13,.sl 1 0 0 n),(14,.int .i64 n),(15,.int .i64 k)],[(1,some (.one true (.cols n [.sc (.ints .i64 l)]))),(2,tmM false (ddL l k).length (ddL l k)),(3,v0C false 2)],4⟩) (fun k=>k<=n/\z0B l k=true) (fun k=>n-k) 0 [0,1,2,3] [] wHx ⟨w0F _,rfl⟩ ?_;rintro k ⟨hk,hh⟩;by_cases hk2:k<n
 .have c:=e0l (l.getD k 0);have hs:=s0X (l:=l) (k:=k) (by omega);cases hb:isD (l.getD k 0) with
  |false=>
   rw [hb] at c;rw [if_neg (by rw [if_neg (by rw [f0q hb n hk2];simp)];decide),if_neg (by rw [f0q hb n hk2];simp)];repeat' ((conv=>whnf);first|refine cPx c ?_|refine a0a ?_|(apply bRx<;>intro h<;>try (exfalso;(try dsimp only at h);omega)))
   all_goals (conv=>whnf)
   all_goals first
    |exact rOx [0,1] a0b
    |(exfalso;omega)
    |trace_state
  |true=>
   rw [hb] at c;have ht:=g1s (s:=ddL l k) rfl (l.getD k 0);rw [<-hs] at ht;have hh2:z0B l (k+1)=true:=by simp only [z0B,hh,hb,l1H]
   repeat' ((conv=>whnf);first|refine cPx c ?_|refine a0a ?_|(apply bRx<;>intro h<;>try (exfalso;(try dsimp only at h);omega)))
   all_goals (conv=>whnf)
   all_goals (try simp only [a0u,p0F,w0G] at*)
   all_goals first
    |exact ⟨k+1,[0,1,2,3],[],⟨hk2,hh2⟩,(show n-(k+1)<n-k by omega),⟨rfl,⟨rfl,rfl,rfl,congrArg (fun z=>some (SV.int .i64 z)) (a0e (by omega)),trivial⟩,⟨rfl,ht,rfl,trivial⟩⟩⟩
    |(exfalso;omega)
    |trace_state
 .have e:k=n:=by omega
  subst e;rw [if_pos (by rw [if_pos hh])];unfold ddS;rw [hl];repeat' ((conv=>whnf);first|refine a0a ?_|(apply bRx<;>intro h<;>try (exfalso;(try dsimp only at h);omega)))
  all_goals (conv=>whnf)
  all_goals first
   |exact rOx [0,1,3,2] (a0d (a0d a0b))
   |(exfalso;omega)
   |trace_state
end
section
attribute [local irreducible] a0q a0r a0k a0P
def q0B (b:Bk) (p c:ByteArray):Int:=if a0o b.ps p<b.n then (b.row c).getD (a0o b.ps p) 0 else 0
theorem l0m (s:ByteArray):b0m Tryz.prog 75 [.str s] (.bool (d0M s)):=by
 refine fEx Tryz.func75 ?_;repeat' ((conv=>whnf);first|refine a0a ?_|(apply bRx<;>intro h<;>try (exfalso;(try dsimp only at h);omega)))
 all_goals (conv=>whnf)
 .exact a0c (by rw [f0l (by omega)];rfl)
 .refine a0E (fun k:Nat=>⟨[(0,.str s),(8,.int .i64 s.size),(9,.int .i64 k)],[],1⟩) (fun k=>k<=s.size/\d0L s k=true) (fun k=>s.size-k) 0 [0] [] wHx ⟨by omega,rfl⟩ ?_;rintro k ⟨hk,hc⟩;repeat' ((conv=>whnf);first|refine a0a ?_|(apply bRx<;>intro h<;>try (exfalso;(try dsimp only at h);omega)))
  all_goals (conv=>whnf)
  .exact a0c (by rw [b0i (k:=k) (by omega) (by omega)];rfl)
  .exact a0c (by rw [b0i (k:=k) (by omega) (by omega)];rfl)
  .exact ⟨k+1,[0],[],⟨by omega,b0X hc (by omega) (by omega)⟩,by omega,⟨rfl,⟨rfl,rfl,congrArg (fun z=>some (SV.int .i64 z)) (a0e (by omega)),trivial⟩,trivial⟩⟩
  .have e:k=s.size:=by omega
   subst e;refine a0c ?_;have:d0M s=true:=by unfold d0M;rw [hc];simp;omega
   rw [this];rfl
theorem d1Z (n:Nat) (ks:List ByteArray) (vs:List (List Int)) (bs:List Nat) (ck:Nat):FC Tryz.prog 2 112 [.map 1 0] [] (a0h (.fn 151 [.ptr 2 0 0 0]) [(2,some (.one false (.cells [.map 1 0])))] 3):=by
 refine fEx Tryz.func112 ?_;repeat' ((conv=>whnf);first|refine a0a ?_|(apply bRx<;>intro h<;>try (exfalso;(try dsimp only at h);omega)))
 all_goals (conv=>whnf)
 all_goals exact rOx [0,1,2] (a0d a0b)
theorem w0V {n:Nat} {ks:List ByteArray} (vs:List (List Int)) (bs:List Nat) (ck:Nat) (hn:n<=100000) (hz:∀s∈ks,s.size<=9223372036854775807) (hnd:ks.Nodup):
  FC Tryz.prog 3 111 [.fn 151 [.ptr 2 0 0 0]] [(1,some (.one true (.obj (.map false false n [.strs ks] [.arrs 16 .i64 vs] bs ck)))),(2,some (.one true (.cells [.map 1 0])))] (a0h (.sl 3 0 0 n) [(3,some (.one false (.cols n [.sc (.strs (sortS ks))])))] 4):=
 w0D (ρ:=Tryz.keys112_ren) (ρ':=Tryz.sorted_ren) rfl rfl rfl { Tryz.keys112 with} Tryz.sorted
  (fun m=>⟨fun blk off cap ss W hH hblk hsz=>callsIn_wide.2 (AnyM.slices_Sort_string Tryz.sortS blk off cap ss W hH hblk hsz),fun p cap W=>callsIn_wide.2 (AnyM.slices_Sort_string_none Tryz.sortS p cap W)⟩)
  (f0j Tryz.func111 (by kernel_rfl) (by kernel_rfl)) (enters_of Tryz.func43 (by kernel_rfl) rfl) (enters_of Tryz.func151 (by kernel_rfl) rfl) Tryz.underlying9 hn hz hnd
structure Bk.Cok (b:Bk):Prop where
 m:b.m<=100000
 sz:∀s∈b.cs,s.size<=9223372036854775807
 nd:b.cs.Nodup
theorem g0c (b:Bk) (hc:b.Cok):FC Tryz.prog 4 64 [.ptr 1 0 0 0] (bkR b) (a0h (.sl 4 0 0 b.m) [(4,some (.one false (.cols b.m [.sc (.strs (sortS b.cs))])))] 5):=by
 have c1:=d1Z b.m b.cs b.vs b.bs b.ck;have c2:=w0V (n:=b.m) (ks:=b.cs) b.vs b.bs b.ck hc.m hc.sz hc.nd;refine fEx Tryz.func64 ?_;repeat' ((conv=>whnf);first|refine cOx (l:= [0,3]) c1 ?_|refine cOx (l:= [0,3,4]) c2 ?_|refine a0a ?_|(apply bRx<;>intro h<;>try (exfalso;(try dsimp only at h);omega)))
 all_goals (conv=>whnf)
 all_goals exact rOx [0,1,2,3,5] (a0d a0b)
end
section
attribute [local irreducible] a0q a0r a0k a0P
structure Px where
 p:ByteArray
 a:Int
 c:ByteArray
def px0:Px:=⟨⟨#[]⟩,0,⟨#[]⟩⟩
structure PxC where
 p:List ByteArray
 a:List Int
 c:List ByteArray
def a0y (L:List Px):PxC:=⟨L.map Px.p,L.map Px.a,L.map Px.c⟩
theorem h0o (L:List Px) (x:Px):a0y (L++ [x])=⟨(a0y L).p++ [x.p],(a0y L).a++ [x.a],(a0y L).c++ [x.c]⟩:=by simp [a0y]
abbrev pxB (n:Nat) (q:PxC):Blk:= .cols n [.sc (.strs q.p),.sc (.ints .i64 q.a),.sc (.strs q.c)]
def liR (r:List Int) (ps:List ByteArray) (c:ByteArray):Nat->List Px
 |0=> []
 |i+1=>if r.getD i 0=0 then liR r ps c i else liR r ps c i++ [⟨ps.getD i ⟨#[]⟩,r.getD i 0,c⟩]
def liA (b:Bk) (cs:List ByteArray):Nat->List Px
 |0=> []
 |k+1=>liA b cs k++liR (b.row (cs.getD k ⟨#[]⟩)) b.ps (cs.getD k ⟨#[]⟩) b.n
def Bk.list (b:Bk):List Px:=liA b (sortS b.cs) b.m
theorem g0s (r:List Int) (ps:List ByteArray) (c:ByteArray):∀i,(liR r ps c i).length<=i
 |0=>n0q _
 |i+1=>by
  have:=g0s r ps c i;simp only [liR];split<;>simp<;>omega
theorem n0B (b:Bk) (cs:List ByteArray):∀k,(liA b cs k).length<=k*b.n
 |0=>by simp [liA]
 |k+1=>by
  have:=n0B b cs k;have h2:=g0s (b.row (cs.getD k ⟨#[]⟩)) b.ps (cs.getD k ⟨#[]⟩) b.n;simp only [liA,a1N];rw [Nat.succ_mul];omega
theorem a1K (b:Bk) (hb:b.Ok) (hc:b.Cok):FC Tryz.prog 4 40 [.ptr 1 0 0 0] (bkR b) (a0h (.sl 4 0 0 b.list.length) [(4,some (.one false (pxB b.list.length (a0y b.list))))] 5):=by
 have hn:=hb.n;have hm:=hc.m;have c1:=g0c b hc;refine fEx Tryz.func40 ?_;repeat' ((conv=>whnf);first|refine cOx (l:= [0,1,2,3]) c1 ?_|refine a0a ?_|(apply bRx<;>intro h<;>try (exfalso;(try dsimp only at h);omega)))
 all_goals (conv=>whnf)
 refine a0f (fun x:Nat×Nat×List Px=>⟨[(0,.ptr 1 0 0 0),(12,.sl 4 0 0 b.m),(13,.int .i64 b.m),(14,.int .i64 x.1),(3,.sl 5 0 0 x.2.1)],(4,some (.one false (.cols b.m [.sc (.strs (sortS b.cs))])))::(5,some (.one false (pxB x.2.1 (a0y x.2.2))))::bkR b,6⟩) (fun x=>x.1<=b.m/\x.2.2=liA b (sortS b.cs) x.1/\x.2.2.length=x.2.1) (fun x=>b.m-x.1) (0,0,[]) [0,1,2,3,4,5] [.slot 3 [.sc (.strs []),.sc (.ints .i64 []),.sc (.strs [])]] wHx ⟨w0F _,rfl,rfl⟩ ?_;rintro ⟨k,m,L⟩ ⟨hk,hL,hl⟩;dsimp only at hk hL hl;by_cases hk2:k<b.m
 .have hstep:liA b (sortS b.cs) (k+1)=L++liR (b.row ((sortS b.cs).getD k ⟨#[]⟩)) b.ps ((sortS b.cs).getD k ⟨#[]⟩) b.n:=by rw [hL];rfl
  repeat' ((conv=>whnf);first|refine a0a ?_|(apply bRx<;>intro h<;>try (exfalso;(try dsimp only at h);omega)))
  all_goals (conv=>whnf)
  all_goals (try simp only [a0u] at*)
  all_goals first
   |(exfalso;omega)
   |skip
  refine a0f (fun x:Nat×Nat×List Px=>⟨[(0,.ptr 1 0 0 0),(12,.sl 4 0 0 b.m),(13,.int .i64 b.m),(14,.int .i64 k),(3,.sl 5 0 0 x.2.1),(5,.str ((sortS b.cs).getD k ⟨#[]⟩)),(6,.ptr 6 0 0 0),(27,.sl 2 0 0 b.n),(28,.int .i64 b.n),(29,.int .i64 x.1)],(4,some (.one false (.cols b.m [.sc (.strs (sortS b.cs))])))::(5,some (.one false (pxB x.2.1 (a0y x.2.2))))::(6,some (.one false (.cols 16 [.sc (.ints .i64 (b.row ((sortS b.cs).getD k ⟨#[]⟩)))])))::bkR b,7⟩) (fun x=>x.1<=b.n/\x.2.2=L++liR (b.row ((sortS b.cs).getD k ⟨#[]⟩)) b.ps ((sortS b.cs).getD k ⟨#[]⟩) x.1/\x.2.2.length=x.2.1) (fun x=>b.n-x.1) (0,m,L) [0,1,2,3,4,5,6] [] wHx ⟨w0F _,(l1K L).symm,hl⟩ ?_;rintro ⟨i,m2,L2⟩ ⟨hi,hL2,hl2⟩;dsimp only at hi hL2 hl2;have hmb:m2<=1600016:=by
   have b1:=n0B b (sortS b.cs) k;have b2:=g0s (b.row ((sortS b.cs).getD k ⟨#[]⟩)) b.ps ((sortS b.cs).getD k ⟨#[]⟩) i;have b3:k*b.n<=100000*16:=l1S (by omega) hn;rw [<-hl2,hL2,a1N,hL];omega
  by_cases hi2:i<b.n
  .by_cases hz:(b.row ((sortS b.cs).getD k ⟨#[]⟩)).getD i 0=0
   .have h3:L2=L++liR (b.row ((sortS b.cs).getD k ⟨#[]⟩)) b.ps ((sortS b.cs).getD k ⟨#[]⟩) (i+1):=by simp only [liR];rw [if_pos hz];exact hL2
    repeat' ((conv=>whnf);first|refine a0a ?_|(apply bRx<;>intro h<;>try (exfalso;(try dsimp only at h);omega)))
    all_goals (conv=>whnf)
    all_goals (try simp only [a0u,p0F] at*)
    all_goals first
     |exact ⟨(i+1,m2,L2),[0,1,2,3,4,5,6],[],⟨hi2,h3,hl2⟩,(show b.n-(i+1)<b.n-i by omega),⟨rfl,⟨rfl,rfl,rfl,rfl,rfl,rfl,rfl,rfl,rfl,congrArg (fun z=>some (SV.int .i64 z)) (a0e (by omega)),trivial⟩,⟨rfl,rfl,rfl,rfl,rfl,rfl,trivial⟩⟩⟩
     |(exfalso;omega)
     |contradiction
     |trace_state
   .have h3:L2++ [⟨b.ps.getD i ⟨#[]⟩,(b.row ((sortS b.cs).getD k ⟨#[]⟩)).getD i 0,(sortS b.cs).getD k ⟨#[]⟩⟩]=L++liR (b.row ((sortS b.cs).getD k ⟨#[]⟩)) b.ps ((sortS b.cs).getD k ⟨#[]⟩) (i+1):=by simp only [liR];rw [if_neg hz,hL2,l1j]
    have h4:(L2++ [(⟨b.ps.getD i ⟨#[]⟩,(b.row ((sortS b.cs).getD k ⟨#[]⟩)).getD i 0,(sortS b.cs).getD k ⟨#[]⟩⟩:Px)]).length=m2+1:=by rw [a1N,hl2];rfl
    have h5:=h0o L2 ⟨b.ps.getD i ⟨#[]⟩,(b.row ((sortS b.cs).getD k ⟨#[]⟩)).getD i 0,(sortS b.cs).getD k ⟨#[]⟩⟩;have h6:(some (HB.one false (pxB (m2+1) ⟨(a0y L2).p++ [b.ps.getD i ⟨#[]⟩],(a0y L2).a++ [(b.row ((sortS b.cs).getD k ⟨#[]⟩)).getD i 0],(a0y L2).c++ [(sortS b.cs).getD k ⟨#[]⟩]⟩)):Option HB)=some (.one false (pxB (m2+1) (a0y (L2++ [⟨b.ps.getD i ⟨#[]⟩,(b.row ((sortS b.cs).getD k ⟨#[]⟩)).getD i 0,(sortS b.cs).getD k ⟨#[]⟩⟩])))):=by rw [h5]
    repeat' ((conv=>whnf);first|refine a0a ?_|(apply bRx<;>intro h<;>try (exfalso;(try dsimp only at h);omega)))
    all_goals (conv=>whnf)
    all_goals (try simp only [a0u,p0F] at*)
    all_goals first
     |exact ⟨(i+1,m2+1,_),[0,1,2,3,4,8,6],[],⟨hi2,h3,h4⟩,(show b.n-(i+1)<b.n-i by omega),⟨rfl,⟨rfl,rfl,rfl,rfl,rfl,rfl,rfl,rfl,rfl,congrArg (fun z=>some (SV.int .i64 z)) (a0e (by omega)),trivial⟩,⟨rfl,h6,rfl,rfl,rfl,rfl,trivial⟩⟩⟩
     |(exfalso;omega)
     |contradiction
     |trace_state
  .have ei:i=b.n:=by omega
   subst ei;repeat' ((conv=>whnf);first|refine a0a ?_|(apply bRx<;>intro h<;>try (exfalso;(try dsimp only at h);omega)))
   all_goals (conv=>whnf)
   all_goals (try simp only [a0u] at*)
   all_goals first
    |exact ⟨(k+1,m2,L2),[0,1,2,3,4,5],[],⟨hk2,hL2.trans hstep.symm,hl2⟩,(show b.m-(k+1)<b.m-k by omega),⟨rfl,⟨rfl,rfl,rfl,congrArg (fun z=>some (SV.int .i64 z)) (a0e (by omega)),rfl,trivial⟩,⟨rfl,rfl,rfl,rfl,rfl,trivial⟩⟩⟩
    |(exfalso;omega)
    |trace_state
 .have e:k=b.m:=by omega
  subst e;have e2:L=b.list:=hL;subst e2;rw [hl];repeat' ((conv=>whnf);first|refine a0a ?_|(apply bRx<;>intro h<;>try (exfalso;(try dsimp only at h);omega)))
  all_goals (conv=>whnf)
  all_goals first
   |exact rOx [0,1,2,3,5] (a0d a0b)
   |(exfalso;omega)
   |trace_state
end
section
attribute [local irreducible] a0q a0r a0k a0P
def swK (ws:List Int):Nat->Int
 |0=>0
 |k+1=>swK ws k+ws.getD k 0
def wMx (ws:List Int):Nat->Bool
 |0=>true
 |k+1=>wMx ws k&&decide (ws.getD k 0<=1099511627776)
theorem j0h {ws:List Int} {k:Nat} (h:¬ws.getD k 0<=1099511627776):∀n,k<n->wMx ws n=false
 |0,q=>by omega
 |n+1,q=>by
  simp only [wMx];by_cases e:k=n
  .subst e;rw [decide_eq_false h,k1L]
  .rw [j0h h n (by omega),j1I]
theorem k0x {ws:List Int} {n:Nat} (h:∀k,k<n->1<=ws.getD k 0):∀k,k<=n->wMx ws k=true->(k:Int)<=swK ws k/\swK ws k<=1099511627776*(k:Int)
 |0,_,_=>by simp [swK]
 |k+1,hk,hm=>by
  simp only [wMx,k0o,decide_eq_true_eq] at hm;have ih:=k0x h k (by omega) hm.1;have h1:=h k (by omega);simp only [swK];omega
def swT (ws:List Int) (n:Nat):SV:=if wMx ws n=true then .tup [.int .u64 (swK ws n),.bool (decide (0<swK ws n))] else .tup [.int .u64 0,.bool false]
theorem w0W (ws:List Int) (n:Nat) (hn:n<=64) (hw:∀k,k<n->1<=ws.getD k 0) (hw2:∀k,k<n->ws.getD k 0<=9223372036854775807):FC Tryz.prog 2 197 [.sl 1 0 0 n] [(1,some (.one true (.cols n [.sc (.ints .i64 ws)])))] (a0h (swT ws n) [] 2):=by
 refine fEx Tryz.func197 ?_;repeat' ((conv=>whnf);first|refine a0a ?_|(apply bRx<;>intro h<;>try (exfalso;(try dsimp only at h);omega)))
 all_goals (conv=>whnf)
 all_goals first
  |(exfalso;omega)
  |skip
 refine a0f (fun k:Nat=>⟨[(10,.sl 1 0 0 n),(11,.int .i64 n),(12,.int .i64 k),(4,.int .u64 (swK ws k))],[(1,some (.one true (.cols n [.sc (.ints .i64 ws)])))],2⟩) (fun k=>k<=n/\wMx ws k=true) (fun k=>n-k) 0 [0,1] [] wHx ⟨w0F _,rfl⟩ ?_;rintro k ⟨hk,hm⟩;have hb:=k0x hw k hk hm;by_cases hk2:k<n
 .have h1:=hw k hk2;have h2:=hw2 k hk2;by_cases q:ws.getD k 0<=1099511627776
  .have hm2:wMx ws (k+1)=true:=by simp only [wMx];rw [hm,decide_eq_true q];rfl
   have e1:IntKind.u64.wrap (ws.getD k 0)=ws.getD k 0:=a0U (by omega) (by omega);have e2:IntKind.u64.wrap (swK ws k+ws.getD k 0)=swK ws (k+1):=by rw [a0U (by omega) (by omega)];rfl
   repeat' ((conv=>whnf);first|refine a0a ?_|(apply bRx<;>intro h<;>try (exfalso;(try dsimp only at h);omega)))
   all_goals (conv=>whnf)
   all_goals (try simp only [a0u,p0F,w0G,e1,e2] at*)
   all_goals first
    |exact ⟨k+1,[0,1],[],⟨hk2,hm2⟩,(show n-(k+1)<n-k by omega),⟨rfl,⟨rfl,rfl,congrArg (fun z=>some (SV.int .i64 z)) (a0e (by omega)),rfl,trivial⟩,⟨rfl,trivial⟩⟩⟩
    |(exfalso;omega)
    |trace_state
  .have hm2:=j0h q n hk2;unfold swT;rw [if_neg (by rw [hm2];simp)];repeat' ((conv=>whnf);first|refine a0a ?_|(apply bRx<;>intro h<;>try (exfalso;(try dsimp only at h);omega)))
   all_goals (conv=>whnf)
   all_goals (try simp only [a0u,p0F,w0G] at*)
   all_goals first
    |exact rOx [0,1] a0b
    |(exfalso;omega)
    |trace_state
 .have e:k=n:=by omega
  subst e;unfold swT;rw [if_pos hm];repeat' ((conv=>whnf);first|refine a0a ?_|(apply bRx<;>intro h<;>try (exfalso;(try dsimp only at h);omega)))
  all_goals (conv=>whnf)
  all_goals first
   |exact rOx [0,1] a0b
   |(exfalso;omega)
   |trace_state
def e1a (x y:Int):Int:=if x<y then-1 else if y<x then 1 else 0
theorem p0y (x:Int):b0m Tryz.prog 211 [.int .u64 x] (.bool false):=by
 refine fEx Tryz.func211 ?_;repeat' ((conv=>whnf);first|refine a0a ?_|(apply bRx<;>intro h<;>try (exfalso;(try dsimp only at h);omega)))
 all_goals (conv=>whnf)
 all_goals exact a0c (congrArg SV.bool (by simp))
theorem r0n (x y:Int):b0m Tryz.prog 200 [.int .u64 x,.int .u64 y] (.int .i64 (e1a x y)):=by
 have c1:=p0y x;have c2:=p0y y;unfold e1a;refine fEx Tryz.func200 ?_;repeat' ((conv=>whnf);first|refine cPx c1 ?_|refine cPx c2 ?_|refine a0a ?_|(apply bRx<;>intro h<;>try (exfalso;(try dsimp only at h);omega)))
 all_goals (conv=>whnf)
 all_goals first
  |(rw [if_pos (by omega)];exact a0c rfl)
  |(rw [if_neg (by omega),if_pos (by omega)];exact a0c rfl)
  |(rw [if_neg (by omega),if_neg (by omega)];exact a0c rfl)
  |(exfalso;omega)
  |trace_state
abbrev rsH (n:Nat) (rs:List Int):a0j:= [(1,some (.one true (.cols n [.sc (.ints .u64 rs)]))),(2,some (.one true (.cells [.sl 1 0 0 n])))]
theorem u0Z (n:Nat) (rs:List Int) (a b:Nat) (ha:a<n) (hb:b<n):FC Tryz.prog 3 199 [.int .i64 a,.int .i64 b,.ptr 2 0 0 0] (rsH n rs) (a0h (.int .i64 (e1a (rs.getD b 0) (rs.getD a 0))) [] 3):=by
 have c:=r0n (rs.getD b 0) (rs.getD a 0);refine fEx Tryz.func199 ?_;repeat' ((conv=>whnf);first|refine cPx c ?_|refine a0a ?_|(apply bRx<;>intro h<;>try (exfalso;(try dsimp only at h);omega)))
 all_goals (conv=>whnf)
 all_goals first
  |exact rOx [0,1,2] a0b
  |(exfalso;omega)
  |trace_state
def sw1 (l:List Int) (j:Nat):List Int:=(l.set (j+1) (l.getD j 0)).set j (l.getD (j+1) 0)
def s0Y (rs:List Int):Nat->List Int->List Int
 |0,l=>l
 |j+1,l=>if rs.getD (l.getD j 0).toNat 0<rs.getD (l.getD (j+1) 0).toNat 0 then s0Y rs j (sw1 l j) else l
def d0C (rs l:List Int):Nat->List Int
 |0=>l
 |k+1=>s0Y rs (k+1) (d0C rs l k)
def inR (n:Nat) (l:List Int):Prop:=l.length=n/\∀k,k<n->0<=l.getD k 0/\l.getD k 0<n
theorem b0j (l:List Int) (i k:Nat) (x:Int) (h:i<l.length):(l.set i x).getD k 0=if k=i then x else l.getD k 0:=by
 by_cases e:k=i
 .subst e;rw [if_pos rfl,List.getD,j1S h];rfl
 .rw [if_neg e,List.getD,j1R (fun q=>e q.symm)];rfl
theorem s0Z (l:List Int) (j k:Nat) (h:j+1<l.length):(sw1 l j).getD k 0=if k=j then l.getD (j+1) 0 else if k=j+1 then l.getD j 0 else l.getD k 0:=by
 unfold sw1;rw [b0j _ _ _ _ (by rw [j1B];omega)];split
 .rfl
 .rw [b0j _ _ _ _ h]
theorem w0X {n:Nat} {l:List Int} {j:Nat} (hj:j+1<n) (h:inR n l):inR n (sw1 l j):=by
 refine ⟨by unfold sw1;rw [j1B,j1B];exact h.1,fun k hk=> ?_⟩;rw [s0Z l j k (by have:=h.1;omega)];split
 .exact h.2 _ (by omega)
 .split
  .exact h.2 _ (by omega)
  .exact h.2 _ hk
theorem w0Y {n:Nat} (rs:List Int):∀(j:Nat) (l:List Int),j<n->inR n l->inR n (s0Y rs j l)
 |0,l,_,h=>h
 |j+1,l,hj,h=>by
  simp only [s0Y];split
  .exact w0Y rs j _ (by omega) (w0X hj h)
  .exact h
theorem i0d {n:Nat} (rs l:List Int) (h:inR n l):∀k,k<n->inR n (d0C rs l k)
 |0,_=>h
 |k+1,hk=>w0Y rs (k+1) _ hk (i0d rs l h k (by omega))
theorem a1L {j:Nat} (h:j<9223372036854775806):IntKind.i64.wrap (((j+1:Nat):Int)-1)=(j:Int):=by rw [a0m (by omega) (by omega)];omega
abbrev isH (n:Nat) (l rs:List Int):a0j:= [(1,some (.one false (.cols n [.sc (.ints .i64 l)]))),(2,some (.one true (.cols n [.sc (.ints .u64 rs)]))),(3,some (.one true (.cells [.sl 2 0 0 n])))]
theorem a1M (n:Nat) (l rs:List Int) (hn:n<=100000) (hl:inR n l):FC Tryz.prog 4 215 [.sl 1 0 0 n,.int .i64 0,.int .i64 n,.fn 199 [.ptr 3 0 0 0]] (isH n l rs) (a0h (.tup []) [(1,some (.one false (.cols n [.sc (.ints .i64 (d0C rs l (n-1)))])))] 4):=by
 refine fEx Tryz.func215 ?_;repeat' ((conv=>whnf);first|refine a0a ?_|(apply bRx<;>intro h<;>try (exfalso;(try dsimp only at h);omega)))
 all_goals (conv=>whnf)
 refine a0f (fun k:Nat=>⟨[(0,.sl 1 0 0 n),(1,.int .i64 0),(2,.int .i64 n),(3,.fn 199 [.ptr 3 0 0 0]),(8,.int .i64 ((k+1:Nat):Int))],isH n (d0C rs l k) rs,4⟩) (fun k=>k<=n-1) (fun k=>n-k) 0 [0,1,2,3] [] wHx (w0F _) ?_;intro k hk;by_cases hk2:k+1<n
 .have hin:=i0d rs l hl k (by omega);have hst:d0C rs l (k+1)=s0Y rs (k+1) (d0C rs l k):=rfl;generalize hT:d0C rs l (k+1)=T at*;have hTb:(some (HB.one false (.cols n [.sc (.ints .i64 T)])):Option HB)=some (.one false (.cols n [.sc (.ints .i64 (d0C rs l (k+1)))])):=by rw [hT]
  generalize d0C rs l k=L0 at*;repeat' ((conv=>whnf);first|refine a0a ?_|(apply bRx<;>intro h<;>try (exfalso;(try dsimp only at h);omega)))
  all_goals (conv=>whnf)
  all_goals (try simp only [a0u] at*)
  all_goals first
   |(exfalso;omega)
   |skip
  refine a0f (fun x:Nat×List Int=>⟨[(0,.sl 1 0 0 n),(1,.int .i64 0),(2,.int .i64 n),(3,.fn 199 [.ptr 3 0 0 0]),(8,.int .i64 ((k+1:Nat):Int)),(9,.int .i64 (x.1:Int))],isH n x.2 rs,4⟩) (fun x=>x.1<=k+1/\inR n x.2/\s0Y rs x.1 x.2=T) (fun x=>x.1) (k+1,L0) [0,1,2,3] [] wHx ⟨n0q _,hin,hst.symm⟩ ?_;rintro ⟨j,L⟩ ⟨hj,hL,hJ⟩;dsimp only at hj hL hJ;cases j with
  |zero=>
   have e:L=T:=hJ;subst e;repeat' ((conv=>whnf);first|refine a0a ?_|(apply bRx<;>intro h<;>try (exfalso;(try dsimp only at h);omega)))
   all_goals (conv=>whnf)
   all_goals first
    |exact ⟨k+1,[0,1,2,3],[],(show k+1<=n-1 by omega),(show n-(k+1)<n-k by omega),⟨rfl,⟨rfl,rfl,rfl,rfl,congrArg (fun z=>some (SV.int .i64 z)) (a0e (by omega)),trivial⟩,⟨hTb,rfl,rfl,trivial⟩⟩⟩
    |(exfalso;omega)
    |trace_state
  |succ j=>
   have hp:=a1L (j:=j) (by omega);have r1:=hL.2 j (by omega);have r2:=hL.2 (j+1) (by omega);obtain ⟨a,ea⟩:=j1F r2.1;obtain ⟨b,eb⟩:=j1F r1.1;have c:=u0Z n rs a b (by omega) (by omega);simp only [s0Y] at hJ;rw [ea,eb,p0F,p0F] at hJ;rw [<-ea,<-eb] at c;by_cases q:rs.getD b 0<rs.getD a 0
   .have hv:e1a (rs.getD b 0) (rs.getD a 0)= -1:=by unfold e1a;rw [if_pos q]
    rw [hv] at c;rw [if_pos q] at hJ;have hs:=w0X (j:=j) (by omega) hL;repeat' ((conv=>whnf);first|refine cOx (l:= [0,2,3]) c ?_|(simp only [hp])|refine a0a ?_|(apply bRx<;>intro h<;>try (exfalso;(try dsimp only at h);omega)))
    all_goals (conv=>whnf)
    all_goals (try simp only [a0u,p0F,w0G,hp] at*)
    all_goals first
     |exact ⟨(j,sw1 L j),[0,1,2,3],[],⟨(show j<=k+1 by omega),hs,hJ⟩,l1q j,⟨rfl,⟨rfl,rfl,rfl,rfl,rfl,rfl,trivial⟩,⟨rfl,rfl,rfl,trivial⟩⟩⟩
     |(exfalso;omega)
     |trace_state
   .obtain ⟨v,hv,h0⟩:∃v,e1a (rs.getD b 0) (rs.getD a 0)=v/\0<=v:=⟨_,rfl,by unfold e1a;rw [if_neg q];split<;>omega⟩;rw [hv] at c;rw [if_neg q] at hJ;subst hJ;repeat' ((conv=>whnf);first|refine cOx (l:= [0,2,3]) c ?_|(simp only [hp])|refine a0a ?_|(apply bRx<;>intro h<;>try (exfalso;(try dsimp only at h);omega)))
    all_goals (conv=>whnf)
    all_goals (try simp only [a0u,p0F,w0G,hp] at*)
    all_goals first
     |exact ⟨k+1,[0,1,2,3],[],(show k+1<=n-1 by omega),(show n-(k+1)<n-k by omega),⟨rfl,⟨rfl,rfl,rfl,rfl,congrArg (fun z=>some (SV.int .i64 z)) (a0e (by omega)),trivial⟩,⟨hTb,rfl,rfl,trivial⟩⟩⟩
     |(exfalso;omega)
     |trace_state
 .have e:k=n-1:=by omega
  subst e;repeat' ((conv=>whnf);first|refine a0a ?_|(apply bRx<;>intro h<;>try (exfalso;(try dsimp only at h);omega)))
  all_goals (conv=>whnf)
  all_goals first
   |exact rOx [0,1,2,3] (a0d a0b)
   |(exfalso;omega)
   |trace_state
end
section
attribute [local irreducible] a0q a0r a0k a0P
theorem v0a (n:Nat) (l rs:List Int) (hn:n<=16) (hl:inR n l):FC Tryz.prog 4 210 [.sl 1 0 0 n,.int .i64 n,.fn 199 [.ptr 3 0 0 0]] (isH n l rs) (a0h (.tup []) [(1,some (.one false (.cols n [.sc (.ints .i64 (d0C rs l (n-1)))])))] 4):=by
 have c:=a1M n l rs (by omega) hl;refine fEx Tryz.func210 ?_;repeat' ((conv=>whnf);first|refine a0a ?_|(apply bRx<;>intro h<;>try (exfalso;(try dsimp only at h);omega)))
 all_goals (conv=>whnf)
 refine a0f (fun k:Unit=>⟨[(0,.sl 1 0 0 n),(1,.int .i64 n),(2,.fn 199 [.ptr 3 0 0 0]),(6,.int .i64 20),(7,.int .i64 0),(8,.int .i64 20)],isH n l rs,4⟩) (fun k=>True) (fun k=>0) () [0,1,2,3] [] wHx trivial ?_;rintro ⟨⟩ _;repeat' ((conv=>whnf);first|refine cOx (l:= [0,1,2,3]) c ?_|refine a0a ?_|(apply bRx<;>intro h<;>try (exfalso;(try dsimp only at h);omega)))
 all_goals (conv=>whnf)
 all_goals first
  |(exfalso;omega)
  |skip
 refine a0f (fun k:Unit=>⟨[(0,.sl 1 0 0 n),(1,.int .i64 n),(2,.fn 199 [.ptr 3 0 0 0]),(6,.int .i64 20)],isH n (d0C rs l (n-1)) rs,4⟩) (fun k=>True) (fun k=>0) () [0,1,2,3] [] wHx trivial ?_;rintro ⟨⟩ _;repeat' ((conv=>whnf);first|refine a0a ?_|(apply bRx<;>intro h<;>try (exfalso;(try dsimp only at h);omega)))
 all_goals (conv=>whnf)
 all_goals first
  |exact rOx [0,1,2,3] (a0d a0b)
  |(exfalso;omega)
  |trace_state
theorem r0o (n:Nat) (l rs:List Int) (hn:n<=16) (hl:inR n l):FC Tryz.prog 4 198 [.sl 1 0 0 n,.fn 199 [.ptr 3 0 0 0]] (isH n l rs) (a0h (.tup []) [(1,some (.one false (.cols n [.sc (.ints .i64 (d0C rs l (n-1)))])))] 4):=by
 have c:=v0a n l rs hn hl;refine fEx Tryz.func198 ?_;repeat' ((conv=>whnf);first|refine cOx (l:= [0,1,2,3]) c ?_|refine a0a ?_|(apply bRx<;>intro h<;>try (exfalso;(try dsimp only at h);omega)))
 all_goals (conv=>whnf)
 all_goals exact rOx [0,1,2,3] (a0d a0b)
def d0X {α:Type} (f:Nat->α) (z:α) (n:Nat):Nat->List α
 |0=>List.replicate n z
 |k+1=>(d0X f z n k).set k (f k)
theorem b0K {α:Type} (f:Nat->α) (z:α) (n:Nat):∀k,(d0X f z n k).length=n
 |0=>by simp [d0X]
 |k+1=>by simp only [d0X,j1B];exact b0K f z n k
theorem d0v {α:Type} (f:Nat->α) (z d:α) (n:Nat):∀k i,i<k->i<n->(d0X f z n k).getD i d=f i
 |0,i,h,_=>by omega
 |k+1,i,h,hn=>by
  simp only [d0X];by_cases e:i=k
  .subst e;rw [List.getD,j1S (by rw [b0K];exact hn)];rfl
  .rw [List.getD,j1R (fun q=>e q.symm)];exact d0v f z d n k i (by omega) hn
def qN (A:Nat) (ws:List Int) (n i:Nat):Nat:=A*(ws.getD i 0).toNat/(swK ws n).toNat
def rN (A:Nat) (ws:List Int) (n i:Nat):Nat:=A*(ws.getD i 0).toNat%(swK ws n).toNat
def qsK (A:Nat) (ws:List Int) (n:Nat):Nat->Nat
 |0=>0
 |k+1=>qsK A ws n k+qN A ws n k
theorem e1b {A:Nat} {ws:List Int} {n:Nat} (hw:∀k,k<n->1<=ws.getD k 0):∀k,k<=n->(qsK A ws n k:Int)*swK ws n<=A*swK ws k/\0<=swK ws k
 |0,_=>by simp [qsK,swK]
 |k+1,hk=>by
  have ih:=e1b (A:=A) hw k (by omega);have h1:=hw k (by omega);have hS:0<=swK ws n:=by
   have:∀m,m<=n->0<=swK ws m:=by
    intro m;induction m with
    |zero=>intro _;simp [swK]
    |succ m ihm=>intro hm;have:=ihm (by omega);have:=hw m (by omega);simp only [swK];omega
   exact this n (n0q _)
  simp only [qsK,swK];have hq:qN A ws n k*(swK ws n).toNat<=A*(ws.getD k 0).toNat:=l1b _ _;have hq2:(qN A ws n k:Int)*swK ws n<=A*ws.getD k 0:=by
   have e1:((swK ws n).toNat:Int)=swK ws n:=l1A hS;have e2:((ws.getD k 0).toNat:Int)=ws.getD k 0:=l1A (by omega);have:=Int.ofNat_le.2 hq;rw [l1v,l1v,e1,e2] at this;exact this
  refine ⟨?_,by omega⟩;rw [k1Q,Int.add_mul,Int.mul_add];omega
theorem i0e {ws:List Int} {n:Nat} (hw:∀k,k<n->1<=ws.getD k 0):∀d k,k+d<=n->swK ws k+d<=swK ws (k+d)
 |0,k,_=>by simp
 |d+1,k,h=>by
  have ih:=i0e hw d k (by omega);have h1:=hw (k+d) (by omega);have:swK ws (k+(d+1))=swK ws (k+d)+ws.getD (k+d) 0:=rfl;omega
theorem p0z {A:Nat} {ws:List Int} {n:Nat} (hw:∀k,k<n->1<=ws.getD k 0) {k:Nat} (hk:k<=n) (hn:1<=n):qsK A ws n k<=A:=by
 have h1:=(e1b (A:=A) hw k hk).1;have hm:=i0e hw (n-k) k (by omega);rw [show k+(n-k)=n by omega] at hm;have h0:=(e1b (A:=A) hw k hk).2;have hS:1<=swK ws n:=by
  have:=i0e hw n 0 (by omega);rw [z0z] at this;have e:swK ws 0=0:=rfl;omega
 have h2:(A:Int)*swK ws k<=A*swK ws n:=l1N (by omega) (i1i A);have h3:(qsK A ws n k:Int)*swK ws n<=A*swK ws n:=l1w h1 h2;have:=Int.le_of_mul_le_mul_right h3 (by omega);omega
theorem g1t {A:Nat} {ws:List Int} {n:Nat} (hw:∀k,k<n->1<=ws.getD k 0) {k:Nat} (hk:k<n):qN A ws n k<=A:=by
 have h1:=p0z (A:=A) hw (k:=k+1) (by omega) (by omega);simp only [qsK] at h1;omega
theorem j1a {ws:List Int} {n:Nat} (hw:∀k,k<n->1<=ws.getD k 0) {k:Nat} (hk:k<n):ws.getD k 0<=swK ws n:=by
 have hm:=i0e hw (n-(k+1)) (k+1) (by omega);rw [show k+1+(n-(k+1))=n by omega] at hm;have h0:=i0e hw k 0 (by omega);rw [z0z] at h0;have e:swK ws 0=0:=rfl;have e2:swK ws (k+1)=swK ws k+ws.getD k 0:=rfl;omega
def c0n (P ord:List Int):Nat->List Int
 |0=>P
 |k+1=>(c0n P ord k).set (ord.getD k 0).toNat ((c0n P ord k).getD (ord.getD k 0).toNat 0+1)
theorem h0p (P ord:List Int):∀k,(c0n P ord k).length=P.length
 |0=>rfl
 |k+1=>by simp only [c0n,j1B];exact h0p P ord k
theorem j0i {P ord:List Int} {A:Int} (hP:∀i,0<=P.getD i 0/\P.getD i 0<=A) (hA:0<=A):∀k i,0<=(c0n P ord k).getD i 0/\(c0n P ord k).getD i 0<=A+k
 |0,i=>by have:=hP i;simp only [c0n];omega
 |k+1,i=>by
  have ih:=j0i hP hA (ord:=ord) k;simp only [c0n];by_cases e:(ord.getD k 0).toNat<(c0n P ord k).length
  .rw [b0j _ _ _ _ e];split
   .have:=ih (ord.getD k 0).toNat;omega
   .have:=ih i;omega
  .rw [List.set_eq_of_length_le (by omega)];have:=ih i;omega
def spQ (A:Nat) (ws:List Int) (n:Nat):List Int:=d0X (fun i=>(qN A ws n i:Int)) 0 n n
def spR (A:Nat) (ws:List Int) (n:Nat):List Int:=d0X (fun i=>(rN A ws n i:Int)) 0 n n
def spI (n:Nat):List Int:=d0X (fun i=>(i:Int)) 0 n n
def spO (A:Nat) (ws:List Int) (n:Nat):List Int:=d0C (spR A ws n) (spI n) (n-1)
def spL (A:Nat) (ws:List Int) (n:Nat):Nat:=min (A-qsK A ws n n) n
def spP (A:Nat) (ws:List Int) (n:Nat):List Int:=c0n (spQ A ws n) (spO A ws n) (spL A ws n)
def spE (A:Nat) (c:ByteArray) (ws:List Int) (n:Nat):Int:=if b0O A c≠0 then b0O A c else if wMx ws n=true/\0<swK ws n then 0 else 4
abbrev spB (A:Nat) (c:ByteArray) (ws:List Int) (n:Nat):Blk:= .cols n [.sc (.ints .i64 (d0X (fun i=>(spP A ws n).getD i 0) 0 n n)),.sc (.strs (d0X (fun _=>c) ⟨#[]⟩ n n))]
def e1c (A:Nat) (c:ByteArray) (ws:List Int) (n:Nat):SV->a0j->Nat->Prop:=if spE A c ws n≠0 then a0h (.tup [.nsl,.int .i64 (spE A c ws n)]) [] 2 else a0h (.tup [.sl 2 0 0 n,.int .i64 0]) [(2,some (.one false (spB A c ws n)))] 3
theorem p0A (n:Nat):inR n (spI n):=by
 refine ⟨b0K _ _ _ _,fun k hk=> ?_⟩;unfold spI;rw [d0v _ _ _ _ _ _ hk hk];omega
theorem c1s (A:Nat) (ws:List Int) (n:Nat) (hn:1<=n):inR n (spO A ws n):=i0d _ _ (p0A n) _ (by omega)
theorem j0j {f:Nat->Int} {n:Nat} {A:Int} (hA:0<=A) (h:∀i,i<n->0<=f i/\f i<=A):∀k,k<=n->∀i,0<=(d0X f 0 n k).getD i 0/\(d0X f 0 n k).getD i 0<=A
 |0,_,i=>by
  simp only [d0X];rw [List.getD,l1G];split<;>simp<;>omega
 |k+1,hk,i=>by
  simp only [d0X];rw [b0j _ _ _ _ (by rw [b0K];omega)];split
  .exact h k (by omega)
  .exact j0j hA h k (by omega) i
end
section
attribute [local irreducible] a0q a0r a0k a0P
theorem m0n (A:Nat) (ws:List Int) (n:Nat) (hA:A<=4503599627370496) (hw:∀k,k<n->1<=ws.getD k 0) (hm:wMx ws n=true) (hn:n<=64) {k:Nat} (hk:k<n):
  ∃W S:Nat,ws.getD k 0=W/\swK ws n=S/\W<18446744073709551616/\S<18446744073709551616/\A*W/18446744073709551616<S/\A*W/S=qN A ws n k/\A*W%S=rN A ws n k/\W<=1099511627776:=by
 have h1:=hw k hk;have hb:=k0x hw n (n0q _) hm;have hwl:=j1a hw hk;have hmk:∀m,k<m->wMx ws m=true->ws.getD k 0<=1099511627776:=by
  intro m hkm h;rcases Int.lt_or_le 1099511627776 (ws.getD k 0) with q|q
  .exact absurd (j0h (show¬ws.getD k 0<=1099511627776 by omega) m hkm) (by rw [h];decide)
  .exact q
 have hw40:=hmk n hk hm;obtain ⟨W,eW⟩:=j1F (a:=ws.getD k 0) (by omega);obtain ⟨S,eS⟩:=j1F (a:=swK ws n) (by omega);have hAW:A*W<=4503599627370496*W:=d1N _ hA;refine ⟨W,S,eW,eS,by omega,by omega,?_,by unfold qN;rw [eW,eS];rfl,by unfold rN;rw [eW,eS];rfl,by omega⟩;have:A*W/18446744073709551616<W:=by
  rw [j1K (by decide)];omega
 omega
theorem r0p (A:Nat) (c:ByteArray) (ws:List Int) (n:Nat) (hA:A<=9223372036854775807) (hn:n<=16) (hw:∀k,k<n->1<=ws.getD k 0) (hw2:∀k,k<n->ws.getD k 0<=9223372036854775807):FC Tryz.prog 2 161 [.agg [.int .i64 A,.str c],.sl 1 0 0 n] [(1,some (.one true (.cols n [.sc (.ints .i64 ws)])))] (e1c A c ws n):=by
 have c1:=d0r A c;have c2:=w0W ws n (by omega) hw hw2;have c3:=d0s A (by omega) (by omega);have ec3:((A:Int).natAbs:Int)=A:=by omega
 rw [ec3] at c3;unfold e1c;by_cases h1:b0O A c=0
 case neg=>
  have e:spE A c ws n=b0O A c:=by unfold spE;rw [if_pos h1]
  rw [e,if_pos h1];refine fEx Tryz.func161 ?_;repeat' ((conv=>whnf);first|refine cPx c1 ?_|refine a0a ?_|(apply bRx<;>intro h<;>try (exfalso;(try dsimp only at h);omega)))
  all_goals (conv=>whnf)
  all_goals first
   |exact rOx [0,1] a0b
   |(exfalso;omega)
   |trace_state
 have hA2:A<=4503599627370496:=by
  have:=e0F A c;rw [h1] at this;omega
 have e0:spE A c ws n=if wMx ws n=true/\0<swK ws n then 0 else 4:=by unfold spE;rw [if_neg (by simpa using h1)]
 rw [h1] at c1;by_cases h2:wMx ws n=true/\0<swK ws n
 case neg=>
  rw [if_neg h2] at e0;rw [e0,if_pos (by decide)];unfold swT at c2;by_cases h3:wMx ws n=true
  .rw [if_pos h3,decide_eq_false (fun q=>h2 ⟨h3,q⟩)] at c2;refine fEx Tryz.func161 ?_;repeat' ((conv=>whnf);first|refine cPx c1 ?_|refine cOx (l:= [0,1]) c2 ?_|refine a0a ?_|(apply bRx<;>intro h<;>try (exfalso;(try dsimp only at h);omega)))
   all_goals (conv=>whnf)
   all_goals first
    |exact rOx [0,1] a0b
    |(exfalso;omega)
    |trace_state
  .rw [if_neg h3] at c2;refine fEx Tryz.func161 ?_;repeat' ((conv=>whnf);first|refine cPx c1 ?_|refine cOx (l:= [0,1]) c2 ?_|refine a0a ?_|(apply bRx<;>intro h<;>try (exfalso;(try dsimp only at h);omega)))
   all_goals (conv=>whnf)
   all_goals first
    |exact rOx [0,1] a0b
    |(exfalso;omega)
    |trace_state
 rw [if_pos h2] at e0;rw [e0,if_neg (by decide)];unfold swT at c2;rw [if_pos h2.1,decide_eq_true h2.2] at c2;have hn1:1<=n:=by
  rcases d1J n with q|q
  .subst q;exact absurd h2.2 (by simp [swK])
  .exact q
 have hbW:=k0x hw n (n0q _) h2.1;refine fEx Tryz.func161 ?_;repeat' ((conv=>whnf);first|refine cPx c1 ?_|refine cOx (l:= [0,1]) c2 ?_|refine cPx c3 ?_|refine a0a ?_|(apply bRx<;>intro h<;>try (exfalso;(try dsimp only at h);omega)))
 all_goals (conv=>whnf)
 refine a0f (fun k:Nat=>⟨[(2,.ptr 2 0 0 0),(7,.int .u64 (swK ws n)),(9,.int .u64 A),(10,.int .u64 ((A:Int)-qsK A ws n k)),(11,.sl 3 0 0 n),(12,.ptr 5 0 0 0),(13,.sl 6 0 0 n),(50,.sl 1 0 0 n),(51,.int .i64 n),(52,.int .i64 k)],[(1,some (.one true (.cols n [.sc (.ints .i64 ws)]))),(2,some (.one false (.cells [.int .i64 A,.str c]))),(3,some (.one false (.cols n [.sc (.ints .i64 (d0X (fun i=>(qN A ws n i:Int)) 0 n k))]))),(4,some (.one false (.cols n [.sc (.ints .u64 (d0X (fun i=>(rN A ws n i:Int)) 0 n k))]))),(5,some (.one false (.cells [.sl 4 0 0 n]))),(6,some (.one false (.cols n [.sc (.ints .i64 (d0X (fun i=>(i:Int)) 0 n k))])))],7⟩) (fun k=>k<=n) (fun k=>n-k) 0 [0,1,2,3,4,5,6] [] (wEx ⟨rfl,rfl,rfl,congrArg (fun z=>some (SV.int .u64 z)) (by simp [qsK]),rfl,rfl,rfl,rfl,rfl,rfl,trivial⟩) (w0F _) ?_;intro k hk;by_cases hk2:k<n
 .obtain ⟨W,S,eW,eS,hW,hS,hlt,hq,hr,hW40⟩:=m0n A ws n hA2 hw h2.1 (by omega) hk2;have m1:=m0f A W (by omega) hW;have m2:=m0g (A*W/18446744073709551616) (A*W%18446744073709551616) S (j1l _ (by decide)) hS hlt;have em:A*W/18446744073709551616*18446744073709551616+A*W%18446744073709551616=A*W:=by
   have:=j1X (A*W) 18446744073709551616;omega
  rw [em,hq,hr,<-eS] at m2;have eW2:IntKind.u64.wrap (ws.getD k 0)=(W:Int):=by rw [eW];exact a0U (by omega) (by omega)
  rw [<-eW2] at m1;have hqA:=g1t (A:=A) hw hk2;have e3:IntKind.i64.wrap (qN A ws n k:Int)=qN A ws n k:=a0m (by omega) (by omega);have hq1:=p0z (A:=A) hw (k:=k+1) (by omega) hn1;have e4:IntKind.u64.wrap ((A:Int)-qsK A ws n k-qN A ws n k)=(A:Int)-qsK A ws n (k+1):=by
   simp only [qsK] at hq1⊢;rw [a0U (by omega) (by omega)];omega
  repeat' ((conv=>whnf);first|refine cPx m1 ?_|refine cPx m2 ?_|refine a0a ?_|(apply bRx<;>intro h<;>try (exfalso;(try dsimp only at h);omega)))
  all_goals (conv=>whnf)
  all_goals (try simp only [a0u,p0F,w0G,e3,e4] at*)
  all_goals first
   |exact ⟨k+1,[0,1,2,3,4,5,6],[],hk2,(show n-(k+1)<n-k by omega),⟨rfl,⟨rfl,rfl,rfl,rfl,rfl,rfl,rfl,rfl,rfl,congrArg (fun z=>some (SV.int .i64 z)) (a0e (by omega)),trivial⟩,⟨rfl,rfl,rfl,rfl,rfl,rfl,trivial⟩⟩⟩
   |(exfalso;omega)
   |trace_state
 have ek:k=n:=by omega
 subst ek;have cs:=r0o k (spI k) (spR A ws k) hn (p0A k);unfold isH spI spR at cs;repeat' ((conv=>whnf);first|refine cOx (l:= [0,6,4,5]) cs ?_|refine a0a ?_|(apply bRx<;>intro h<;>try (exfalso;(try dsimp only at h);omega)))
 all_goals (conv=>whnf)
 all_goals first
  |(exfalso;omega)
  |skip
 have hO:=c1s A ws k hn1;have hqb:∀i,0<=(spQ A ws k).getD i 0/\(spQ A ws k).getD i 0<=(A:Int):=fun i=>j0j (i1i A) (fun i hi=>⟨i1i _,Int.ofNat_le.2 (g1t hw hi)⟩) k (n0q _) i
 have hbk:=j0i (ord:=spO A ws k) hqb (i1i A);have hbl:=h0p (spQ A ws k) (spO A ws k);have hql:(spQ A ws k).length=k:=b0K _ _ _ _;have hqs:=p0z (A:=A) hw (k:=k) (n0q _) hn1;have eSL:spL A ws k=min (A-qsK A ws k k) k:=rfl;refine a0f (fun i:Nat=>⟨[(2,.ptr 2 0 0 0),(10,.int .u64 ((A:Int)-qsK A ws k k-i)),(11,.sl 3 0 0 k),(91,.sl 6 0 0 k),(92,.int .i64 k),(93,.int .i64 i)],[(1,some (.one true (.cols k [.sc (.ints .i64 ws)]))),(2,some (.one false (.cells [.int .i64 A,.str c]))),(3,some (.one false (.cols k [.sc (.ints .i64 (c0n (spQ A ws k) (spO A ws k) i))]))),(6,some (.one false (.cols k [.sc (.ints .i64 (spO A ws k))])))],7⟩) (fun i=>i<=spL A ws k) (fun i=>k-i) 0 [0,1,2,3,4,5,6] [] (wEx ⟨rfl,congrArg (fun z=>some (SV.int .u64 z)) (by simp),rfl,rfl,rfl,rfl,trivial⟩) (w0F _) ?_;intro i hi;have fin:∀(vs:VS),vs=vs->True:=fun _ _=>trivial
 by_cases hi2:i<spL A ws k
 .have h3:=hO.2 i (by omega);obtain ⟨o,eo⟩:=j1F h3.1;have hbo:=hbk i o;have e3:IntKind.i64.wrap ((c0n (spQ A ws k) (spO A ws k) i).getD o 0+1)=(c0n (spQ A ws k) (spO A ws k) i).getD o 0+1:=a0m (by omega) (by omega);have e4:IntKind.u64.wrap ((A:Int)-qsK A ws k k-i-1)=(A:Int)-qsK A ws k k-((i+1:Nat):Int):=by rw [a0U (by omega) (by omega)];omega
  have e5:c0n (spQ A ws k) (spO A ws k) (i+1)=(c0n (spQ A ws k) (spO A ws k) i).set o ((c0n (spQ A ws k) (spO A ws k) i).getD o 0+1):=by simp only [c0n];rw [eo,p0F]
  have e6:(some (HB.one false (.cols k [.sc (.ints .i64 ((c0n (spQ A ws k) (spO A ws k) i).set o ((c0n (spQ A ws k) (spO A ws k) i).getD o 0+1)))])):Option HB)=some (.one false (.cols k [.sc (.ints .i64 (c0n (spQ A ws k) (spO A ws k) (i+1)))])):=by rw [e5]
  repeat' ((conv=>whnf);first|refine a0a ?_|(apply bRx<;>intro h<;>try (exfalso;(try dsimp only at h);omega)))
  all_goals (conv=>whnf)
  all_goals (try simp only [a0u,p0F,w0G,eo,e3,e4] at*)
  all_goals first
   |exact ⟨i+1,[0,1,2,3,4,5,6],[],hi2,(show k-(i+1)<k-i by omega),⟨rfl,⟨rfl,rfl,rfl,rfl,rfl,congrArg (fun z=>some (SV.int .i64 z)) (a0e (by omega)),trivial⟩,⟨rfl,rfl,e6,rfl,trivial⟩⟩⟩
   |(exfalso;omega)
   |trace_state
 .have ei:i=spL A ws k:=by omega
  subst ei;have eP:c0n (spQ A ws k) (spO A ws k) (spL A ws k)=spP A ws k:=rfl;rw [eP];repeat' ((conv=>whnf);first|refine a0a ?_|(apply bRx<;>intro h<;>try (exfalso;(try dsimp only at h);omega)))
  all_goals (conv=>whnf)
  all_goals first
   |(exfalso;omega)
   |skip
  all_goals refine a0f (fun i:Nat=>⟨[(2,.ptr 3 0 0 0),(22,.sl 2 0 0 k),(111,.sl 4 0 0 k),(112,.int .i64 k),(113,.int .i64 i)],[(2,some (.one false (.cols k [.sc (.ints .i64 (d0X (fun i=>(spP A ws k).getD i 0) 0 k i)),.sc (.strs (d0X (fun _=>c) ⟨#[]⟩ k i))]))),(3,some (.one false (.cells [.int .i64 A,.str c]))),(4,some (.one false (.cols k [.sc (.ints .i64 (spP A ws k))])))],5⟩) (fun i=>i<=k) (fun i=>k-i) 0 [0,1,7,2,3] [] wHx (w0F _) ?_
  all_goals intro i hi4
  all_goals by_cases hi5:i<k
  all_goals try (have ei5:i=k:=by omega)
  all_goals try subst ei5
  all_goals repeat' ((conv=>whnf);first|refine a0a ?_|(apply bRx<;>intro h<;>try (exfalso;(try dsimp only at h);omega)))
  all_goals (conv=>whnf)
  all_goals (try simp only [a0u,p0F,w0G] at*)
  all_goals first
   |exact ⟨i+1,[0,1,2,3,4],[],hi5,(show k-(i+1)<k-i by omega),⟨rfl,⟨rfl,rfl,rfl,rfl,congrArg (fun z=>some (SV.int .i64 z)) (a0e (by omega)),trivial⟩,⟨rfl,rfl,rfl,trivial⟩⟩⟩
   |exact rOx [0,1,2] (a0d a0b)
   |(exfalso;omega)
   |trace_state
end
section
attribute [local irreducible] a0q a0r a0k a0P
def wtK (r:List Int) (s:Int):Nat->List Int
 |0=> []
 |k+1=>if 0<r.getD k 0*s then wtK r s k++ [r.getD k 0*s] else wtK r s k
def plK (r:List Int) (s:Int):Nat->List Int
 |0=> []
 |k+1=>if 0<r.getD k 0*s then plK r s k++ [(k:Int)] else plK r s k
theorem k0y (r:List Int) (s:Int):∀k,(plK r s k).length=(wtK r s k).length
 |0=>rfl
 |k+1=>by
  simp only [plK,wtK];split
  .rw [a1N,a1N,k0y r s k];rfl
  .exact k0y r s k
theorem t0a (r:List Int) (s:Int):∀k,(wtK r s k).length<=k
 |0=>n0q _
 |k+1=>by
  have:=t0a r s k;simp only [wtK];split
  .rw [a1N,f1M];omega
  .omega
theorem e0m (l:List Int) (x:Int) (i:Nat):(l++ [x]).getD i 0=if i=l.length then x else l.getD i 0:=by
 by_cases e:i<l.length
 .rw [if_neg (by omega),List.getD,c1u e];rfl
 .by_cases e2:i=l.length
  .rw [if_pos e2,List.getD,c1l (by omega),e2,j1k];rfl
  .rw [if_neg e2,List.getD,c1l (by omega),List.getD,r0b (by rw [f1M];omega),r0b (by omega)]
theorem w0Z {r:List Int} {s B:Int} (hb:∀j,r.getD j 0*s<=B):∀k i,i<(wtK r s k).length->1<=(wtK r s k).getD i 0/\(wtK r s k).getD i 0<=B
 |0,i,h=>by simp [wtK] at h
 |k+1,i,h=>by
  simp only [wtK] at h⊢;by_cases q:0<r.getD k 0*s
  .rw [if_pos q] at h⊢;rw [a1N,f1M] at h;rw [e0m];split
   .have:=hb k;omega
   .exact w0Z hb k i (by omega)
  .rw [if_neg q] at h⊢;exact w0Z hb k i h
theorem l0n (r:List Int) (s:Int):∀k i,i<(plK r s k).length->0<=(plK r s k).getD i 0/\(plK r s k).getD i 0<k
 |0,i,h=>by simp [plK] at h
 |k+1,i,h=>by
  simp only [plK] at h⊢;by_cases q:0<r.getD k 0*s
  .rw [if_pos q] at h⊢;rw [a1N,f1M] at h;rw [e0m];split
   .omega
   .have:=l0n r s k i (by omega);omega
  .rw [if_neg q] at h⊢;have:=l0n r s k i h;omega
def dvK (row pl P:List Int) (s:Int):Nat->List Int
 |0=>row
 |k+1=>(dvK row pl P s k).set (pl.getD k 0).toNat (P.getD k 0*s)
abbrev dvN (r:List Int) (s:Int):Nat:=(wtK r s 16).length
def dvE (A:Nat) (c:ByteArray) (r:List Int) (s:Int):Int:=spE A c (wtK r s 16) (dvN r s)
def dvR (row:List Int) (A:Nat) (r:List Int) (s:Int):List Int:=dvK row (plK r s 16) (spP A (wtK r s 16) (dvN r s)) s (dvN r s)
theorem i0f (row pl P:List Int) (s:Int):∀k,(dvK row pl P s k).length=row.length
 |0=>rfl
 |k+1=>by simp only [dvK,j1B];exact i0f row pl P s k
def dvO (row:List Int) (A:Nat) (c:ByteArray) (r:List Int) (s:Int):List Int:=if dvE A c r s=0 then dvR row A r s else row
theorem x0a {A:Nat} {c:ByteArray} {ws:List Int} {n:Nat} (h:spE A c ws n=0):A<=4503599627370496:=by
 unfold spE at h;have:=e0F A c;by_cases q:b0O A c=0
 .rw [q] at this;omega
 .rw [if_pos q] at h;exact absurd h q
theorem x0b {A:Nat} {ws:List Int} {n:Nat} (hw:∀k,k<n->1<=ws.getD k 0) (i:Nat):0<=(spP A ws n).getD i 0/\(spP A ws n).getD i 0<=(A:Int)+n:=by
 have h:=j0i (P:=spQ A ws n) (ord:=spO A ws n) (fun i=>j0j (i1i A) (fun i hi=>⟨i1i _,Int.ofNat_le.2 (g1t hw hi)⟩) n (n0q _) i) (i1i A) (spL A ws n) i;unfold spP;have:spL A ws n<=n:=Nat.min_le_right _ _;omega
theorem m0o (row:List Int) (A:Nat) (c:ByteArray) (r:List Int) (s:Int) (hA:A<=9223372036854775807) (hrow:row.length=16) (hs:s=1\/s= -1) (hr:∀j,-4503599627370496<=r.getD j 0/\r.getD j 0<=4503599627370496):
  FC Tryz.prog 2 128 [.ptr 1 0 0 0,.arr 16 [.ints .i64 r],.agg [.int .i64 A,.str c],.int .i64 s] [(1,some (.one false (.cols 16 [.sc (.ints .i64 row)])))] (a0h (.int .i64 (dvE A c r s)) [(1,some (.one false (.cols 16 [.sc (.ints .i64 (dvO row A c r s))])))] 2):=by
 have hrs:∀j,-4503599627370496<=r.getD j 0*s/\r.getD j 0*s<=4503599627370496:=fun j=>by
  have:=hr j;rcases hs with e|e<;>subst e<;>omega
 refine fEx Tryz.func128 ?_;repeat' ((conv=>whnf);first|refine a0a ?_|(apply bRx<;>intro h<;>try (exfalso;(try dsimp only at h);omega)))
 all_goals (conv=>whnf)
 refine a0f (fun x:Nat×Nat=>⟨[(0,.ptr 1 0 0 0),(3,.int .i64 s),(6,.ptr 3 0 0 0),(17,.arr 16 [.ints .i64 r]),(18,.int .i64 x.1),(9,.sl 4 0 0 x.2),(10,.sl 5 0 0 x.2)],[(1,some (.one false (.cols 16 [.sc (.ints .i64 row)]))),(3,some (.one false (.cells [.int .i64 A,.str c]))),(4,some (.one false (.cols x.2 [.sc (.ints .i64 (wtK r s x.1))]))),(5,some (.one false (.cols x.2 [.sc (.ints .i64 (plK r s x.1))])))],6⟩) (fun x=>x.1<=16/\(wtK r s x.1).length=x.2) (fun x=>16-x.1) (0,0) [0,1,2,3,4,5] [.slot 9 [.sc (.ints .i64 [])],.slot 10 [.sc (.ints .i64 [])]] wHx ⟨w0F _,rfl⟩ ?_;rintro ⟨k,m⟩ ⟨hk,hm⟩;dsimp only at hk hm;have hml:=t0a r s k;by_cases hk2:k<16
 .have hx:=hrs k;have e1:IntKind.i64.wrap (r.getD k 0*s)=r.getD k 0*s:=a0m (by omega) (by omega);by_cases q:0<r.getD k 0*s
  .have e2:wtK r s (k+1)=wtK r s k++ [r.getD k 0*s]:=by simp only [wtK];rw [if_pos q]
   have e3:plK r s (k+1)=plK r s k++ [(k:Int)]:=by simp only [plK];rw [if_pos q]
   have hm2:(wtK r s (k+1)).length=m+1:=by rw [e2,a1N,hm];rfl
   have b2:(some (HB.one false (.cols (m+1) [.sc (.ints .i64 (wtK r s k++ [r.getD k 0*s]))])):Option HB)=some (.one false (.cols (m+1) [.sc (.ints .i64 (wtK r s (k+1)))])):=by rw [e2]
   have b3:(some (HB.one false (.cols (m+1) [.sc (.ints .i64 (plK r s k++ [(k:Int)]))])):Option HB)=some (.one false (.cols (m+1) [.sc (.ints .i64 (plK r s (k+1)))])):=by rw [e3]
   repeat' ((conv=>whnf);first|(simp only [e1])|refine a0a ?_|(apply bRx<;>intro h<;>try (exfalso;(try dsimp only at h);omega)))
   all_goals (conv=>whnf)
   all_goals (try simp only [a0u,p0F,w0G,e1] at*)
   all_goals first
    |exact ⟨(k+1,m+1),[0,1,2,3,7,9],[],⟨hk2,hm2⟩,(show 16-(k+1)<16-k by omega),⟨rfl,⟨rfl,rfl,rfl,rfl,congrArg (fun z=>some (SV.int .i64 z)) (a0e (by omega)),rfl,rfl,trivial⟩,⟨rfl,rfl,b2,b3,trivial⟩⟩⟩
    |(exfalso;omega)
    |trace_state
  .have e2:wtK r s (k+1)=wtK r s k:=by simp only [wtK];rw [if_neg q]
   have e3:plK r s (k+1)=plK r s k:=by simp only [plK];rw [if_neg q]
   have hm2:(wtK r s (k+1)).length=m:=by rw [e2,hm]
   have b2:(some (HB.one false (.cols m [.sc (.ints .i64 (wtK r s k))])):Option HB)=some (.one false (.cols m [.sc (.ints .i64 (wtK r s (k+1)))])):=by rw [e2]
   have b3:(some (HB.one false (.cols m [.sc (.ints .i64 (plK r s k))])):Option HB)=some (.one false (.cols m [.sc (.ints .i64 (plK r s (k+1)))])):=by rw [e3]
   repeat' ((conv=>whnf);first|(simp only [e1])|refine a0a ?_|(apply bRx<;>intro h<;>try (exfalso;(try dsimp only at h);omega)))
   all_goals (conv=>whnf)
   all_goals (try simp only [a0u,p0F,w0G,e1] at*)
   all_goals first
    |exact ⟨(k+1,m),[0,1,2,3,4,5],[],⟨hk2,hm2⟩,(show 16-(k+1)<16-k by omega),⟨rfl,⟨rfl,rfl,rfl,rfl,congrArg (fun z=>some (SV.int .i64 z)) (a0e (by omega)),rfl,rfl,trivial⟩,⟨rfl,rfl,b2,b3,trivial⟩⟩⟩
    |(exfalso;omega)
    |trace_state
 have ek:k=16:=by omega
 subst ek;have hW:=fun i (hi:i<m)=>w0Z (fun j=>(hrs j).2) 16 i (by rw [hm];exact hi)
 have cs:=r0p A c (wtK r s 16) m hA (by omega) (fun i hi=>(hW i hi).1) (fun i hi=>by have:=(hW i hi).2;omega);unfold e1c at cs;have hpl:(plK r s 16).length=m:=by rw [k0y,hm]
 unfold dvO;have ed:dvE A c r s=spE A c (wtK r s 16) m:=by unfold dvE dvN;rw [hm]
 by_cases he:spE A c (wtK r s 16) m=0
 case neg=>
  rw [if_pos he] at cs;rw [ed,if_neg he];repeat' ((conv=>whnf);first|refine cOx (l:= [0,4]) cs ?_|refine a0a ?_|(apply bRx<;>intro h<;>try (exfalso;(try dsimp only at h);omega)))
  all_goals (conv=>whnf)
  all_goals first
   |exact rOx [0,1] (a0d a0b)
   |(exfalso;omega)
   |trace_state
 have hA2:=x0a he;have hP:=x0b (A:=A) (ws:=wtK r s 16) (n:=m) (fun i hi=>(hW i hi).1);rw [if_neg (by simpa using he)] at cs;rw [ed,if_pos he,he];have eR:dvR row A r s=dvK row (plK r s 16) (spP A (wtK r s 16) m) s m:=by unfold dvR dvN;rw [hm]
 rw [eR];repeat' ((conv=>whnf);first|refine cOx (l:= [0,4]) cs ?_|refine a0a ?_|(apply bRx<;>intro h<;>try (exfalso;(try dsimp only at h);omega)))
 all_goals (conv=>whnf)
 all_goals first
  |(exfalso;omega)
  |skip
 refine a0f (fun k:Nat=>⟨[(0,.ptr 1 0 0 0),(3,.int .i64 s),(10,.sl 2 0 0 m),(46,.sl 3 0 0 m),(47,.int .i64 m),(48,.int .i64 k)],[(1,some (.one false (.cols 16 [.sc (.ints .i64 (dvK row (plK r s 16) (spP A (wtK r s 16) m) s k))]))),(2,some (.one false (.cols m [.sc (.ints .i64 (plK r s 16))]))),(3,some (.one false (spB A c (wtK r s 16) m)))],4⟩) (fun k=>k<=m) (fun k=>m-k) 0 [0,1,5,6] [] wHx (w0F _) ?_;intro k hk;by_cases hk2:k<m
 .have hpk:=l0n r s 16 k (by rw [hpl];exact hk2);obtain ⟨o,eo⟩:=j1F hpk.1;have hPk:=hP k;have eg:(d0X (fun i=>(spP A (wtK r s 16) m).getD i 0) 0 m m).getD k 0=(spP A (wtK r s 16) m).getD k 0:=d0v _ _ _ _ _ _ hk2 hk2;have e1:IntKind.i64.wrap ((spP A (wtK r s 16) m).getD k 0*s)=(spP A (wtK r s 16) m).getD k 0*s:=by
   have key:∀x:Int,0<=x->x<=(A:Int)+m->IntKind.i64.wrap (x*s)=x*s:=fun x g1 g2=>by
    rcases hs with e|e<;>rw [e]<;>exact a0m (by omega) (by omega)
   exact key _ hPk.1 hPk.2
  have hl:=i0f row (plK r s 16) (spP A (wtK r s 16) m) s k;have e2:dvK row (plK r s 16) (spP A (wtK r s 16) m) s (k+1)=(dvK row (plK r s 16) (spP A (wtK r s 16) m) s k).set o ((spP A (wtK r s 16) m).getD k 0*s):=by simp only [dvK];rw [eo,p0F]
  have b2:(some (HB.one false (.cols 16 [.sc (.ints .i64 ((dvK row (plK r s 16) (spP A (wtK r s 16) m) s k).set o ((spP A (wtK r s 16) m).getD k 0*s)))])):Option HB)=some (.one false (.cols 16 [.sc (.ints .i64 (dvK row (plK r s 16) (spP A (wtK r s 16) m) s (k+1)))])):=by rw [e2]
  repeat' ((conv=>whnf);first|refine a0a ?_|(apply bRx<;>intro h<;>try (exfalso;(try dsimp only at h);omega)))
  all_goals (conv=>whnf)
  all_goals (try simp only [a0u,p0F,w0G,eo,eg,e1] at*)
  all_goals first
   |exact ⟨k+1,[0,1,2,3],[],hk2,(show m-(k+1)<m-k by omega),⟨rfl,⟨rfl,rfl,rfl,rfl,rfl,congrArg (fun z=>some (SV.int .i64 z)) (a0e (by omega)),trivial⟩,⟨b2,rfl,rfl,trivial⟩⟩⟩
   |(exfalso;omega)
   |trace_state
 .have e:k=m:=by omega
  subst e;repeat' ((conv=>whnf);first|refine a0a ?_|(apply bRx<;>intro h<;>try (exfalso;(try dsimp only at h);omega)))
  all_goals (conv=>whnf)
  all_goals first
   |exact rOx [0,1] (a0d a0b)
   |(exfalso;omega)
   |trace_state
end
section
attribute [local irreducible] a0q a0r a0k a0P
def exS:List ByteArray:= [⟨#[74,80,89]⟩,⟨#[75,82,87]⟩,⟨#[86,78,68]⟩,⟨#[67,76,80]⟩,⟨#[73,83,75]⟩,⟨#[66,72,68]⟩,⟨#[75,87,68]⟩,⟨#[74,79,68]⟩,⟨#[79,77,82]⟩,⟨#[84,78,68]⟩]
def exN:List Int:= [0,0,0,0,0,3,3,3,3,3]
def m0p (s:ByteArray):Nat->Nat->Int
 |0,_=>2
 |n+1,k=>if exS.getD k ⟨#[]⟩=s then exN.getD k 0 else m0p s n (k+1)
def e1d (s:ByteArray):Int:=if d0M s=true then m0p s 10 0 else 0
attribute [irreducible] e1d
theorem l0o (s:ByteArray):a1t Tryz.prog glT 208 [.str s] (.tup [.int .i64 (e1d s),.bool (d0M s)]):=by
 refine fEx Tryz.func208 ?_;repeat' ((conv=>whnf);first|refine cPx (e0T _) ?_|refine a0a ?_|(apply bRx<;>intro h<;>try (exfalso;(try dsimp only at h);omega)))
 all_goals (conv=>whnf)
 .exact a0c (by simp [e1d,e0X,h,cv])
 .have hcur:=h;clear h;refine a0E (fun k:Nat=>⟨[(0,.str s),(9,.arr 10 [.strs exS,.ints .i64 exN]),(10,.int .i64 k)],[],1⟩) (fun k=>k<=10/\m0p s (10-k) k=m0p s 10 0) (fun k=>10-k) 0 [0] [] wHx ⟨by omega,rfl⟩ ?_;rintro k ⟨hk,hc⟩;repeat' ((conv=>whnf);first|refine a0a ?_|(apply bRx<;>intro h<;>try (exfalso;(try dsimp only at h);omega)))
  all_goals (conv=>whnf)
  .refine a0c ?_;have e:e1d s=exN.getD k 0:=by
    unfold e1d;rw [if_pos hcur,<-hc,show 10-k=(10-k-1)+1 from by omega,m0p,if_pos (by assumption)]
   rw [e,hcur];rfl
  .refine ⟨k+1,[0],[],⟨by omega,?_⟩,by omega,⟨rfl,⟨rfl,rfl,congrArg (fun z=>some (SV.int .i64 z)) (a0e (by omega)),trivial⟩,trivial⟩⟩;rw [<-hc,show 10-k=(10-(k+1))+1 from by omega,m0p,if_neg (by assumption)]
  .have e:k=10:=by omega
   subst e;refine a0c ?_;have:e1d s=2:=by unfold e1d;rw [if_pos hcur,<-hc];rfl
   rw [this,hcur];rfl
end
section
attribute [local irreducible] a0q a0r a0k a0P
theorem k0z (s:ByteArray):a1t Tryz.prog glT 191 [.str s] (.bool (d0M s)):=by
 refine fEx Tryz.func191 ?_;repeat' ((conv=>whnf);first|refine cGx (l0o _) ?_|refine a0a ?_|(apply bRx<;>intro h<;>try (exfalso;(try dsimp only at h);omega)))
 all_goals (conv=>whnf)
 all_goals exact a0c rfl
theorem g0d (s:ByteArray) (hs:s.size<=9223372036854775807):b0m Tryz.prog 174 [.str s] (.bool (d0M s)):=by
 refine fEx Tryz.func174 ?_
 (conv=>whnf)
 refine a0E (fun k:Nat=>⟨[(0,.str s),(3,.int .i64 k)],[],1⟩) (fun k=>k<=s.size/\d0L s k=true) (fun k=>s.size-k) 0 [0] [] wHx ⟨by omega,rfl⟩ ?_;rintro k ⟨hk,hc⟩;repeat' ((conv=>whnf);first|refine a0a ?_|(apply bRx<;>intro h<;>try (exfalso;(try dsimp only at h);omega)))
 all_goals (conv=>whnf)
 .exact a0c (by rw [b0i (k:=k) (by omega) (by omega)];rfl)
 .exact a0c (by rw [b0i (k:=k) (by omega) (by omega)];rfl)
 .exact ⟨k+1,[0],[],⟨by omega,b0X hc (by omega) (by omega)⟩,by omega,⟨rfl,⟨rfl,congrArg (fun z=>some (SV.int .i64 z)) (by rw [a0m (by omega) (by omega)];rfl),trivial⟩,trivial⟩⟩
 .have e':k=s.size:=by omega
  subst e';refine a0c ?_;unfold d0M;rw [hc];by_cases e:s.size=3
  .simp [e0X,e]
  .have:¬((s.size:Int)=3):=by omega
   simp [e0X,e,this]
def d0D (f t:ByteArray) (n d:Int):Int:=
 if d0M f=false\/d0M t=false\/f=t then 11 else if n<1\/1099511627776<n\/d<1\/1099511627776<d then 4 else 0
theorem e1e (f t:ByteArray) (n d:Int):d0D f t n d=11\/d0D f t n d=4\/(d0D f t n d=0/\d0M f=true/\d0M t=true/\f≠t/\1<=n/\n<=1099511627776/\1<=d/\d<=1099511627776):=by
 unfold d0D;split
 .exact .inl rfl
 .split
  .exact .inr (.inl rfl)
  .rename_i h1 h2;refine .inr (.inr ⟨rfl,?_,?_,?_,?_⟩)
   .cases h:d0M f<;>simp_all
   .cases h:d0M t<;>simp_all
   .intro h;exact h1 (.inr (.inr h))
   .omega
theorem c0x {f t:ByteArray} {n d:Int} (h:d0D f t n d=0):d0M f=true/\d0M t=true/\f≠t/\1<=n/\n<=1099511627776/\1<=d/\d<=1099511627776:=by
 rcases e1e f t n d with e|e|e
 .omega
 .omega
 .exact e.2
attribute [irreducible] d0D
theorem e0n (f t:ByteArray) (n d:Int):a1t Tryz.prog glT 159 [.agg [.str f,.str t,.int .i64 n,.int .i64 d]] (.int .i64 (d0D f t n d)):=by
 refine fEx Tryz.func159 ?_;repeat' ((conv=>whnf);first|refine cGx (k0z _) ?_|refine a0a ?_|(apply bRx<;>intro h<;>try (exfalso;(try dsimp only at h);omega)))
 all_goals (conv=>whnf)
 all_goals refine a0c ?_
 all_goals simp only [e0X,cv,d0D,SV.int.injEq,true_and]
 all_goals first
  |(rw [if_pos (by simp_all)];done)
  |(rw [if_neg (by simp_all),if_pos (by omega)];done)
  |(rw [if_neg (by simp_all),if_neg (by omega)];done)
theorem d0w (f t:ByteArray) (n d:Int) (hf:f.size<=9223372036854775807) (ht:t.size<=9223372036854775807):b0m Tryz.prog 136 [.agg [.str f,.str t,.int .i64 n,.int .i64 d]] (.int .i64 (d0D f t n d)):=by
 have h1:=g0d f hf;have h2:=g0d t ht;refine fEx Tryz.func136 ?_;repeat' ((conv=>whnf);first|refine cPx h1 ?_|refine cPx h2 ?_|refine a0a ?_|(apply bRx<;>intro h<;>try (exfalso;(try dsimp only at h);omega)))
 all_goals (conv=>whnf)
 all_goals refine a0c ?_
 all_goals simp only [e0X,cv,d0D,SV.int.injEq,true_and]
 all_goals first
  |(rw [if_pos (by simp_all)];done)
  |(rw [if_neg (by simp_all),if_pos (by omega)];done)
  |(rw [if_neg (by simp_all),if_neg (by omega)];done)
def l0f (a b:Int):Int:=(Nat.gcd a.toNat b.toNat:Nat)
attribute [irreducible] l0f
theorem p0B {a b:Int} (ha:0<=a) (hb:1<=b):l0f b (a.tmod b)=l0f a b:=by
 unfold l0f;rw [l1X ha,Int.toNat_emod ha (by omega),Nat.gcd_comm a.toNat,Nat.gcd_rec b.toNat a.toNat];rw [Nat.gcd_comm (a.toNat%b.toNat)]
theorem p0C {a:Int} (ha:0<=a):l0f a 0=a:=by unfold l0f;simp;omega
theorem p0D (a b:Int) (ha:1<=a) (hb:1<=b):b0m Tryz.prog 207 [.int .i64 a,.int .i64 b] (.int .i64 (l0f a b)):=by
 refine fEx Tryz.func207 ?_
 (conv=>whnf)
 refine a0E (fun x:Int×Int=>⟨[(0,.int .i64 x.1),(1,.int .i64 x.2)],[],1⟩) (fun x=>0<=x.1/\0<=x.2/\l0f x.1 x.2=l0f a b) (fun x=>x.2.toNat) (a,b) [0] [] wHx ⟨by omega,by omega,rfl⟩ ?_;rintro ⟨x,y⟩ ⟨hx,hy,hg⟩;dsimp only at*;repeat' ((conv=>whnf);first|refine a0a ?_|(apply bRx<;>intro h<;>try (exfalso;(try dsimp only at h);omega)))
 all_goals (conv=>whnf)
 .have h1:=Int.tmod_nonneg y hx;have h2:=Int.tmod_lt_of_pos x (b:=y) (by omega);exact ⟨(y,x.tmod y),[0],[],⟨hy,h1,by rw [p0B hx (by omega),hg]⟩,by dsimp only;omega,⟨rfl,⟨rfl,rfl,trivial⟩,trivial⟩⟩
 .have e:y=0:=by omega
  subst e;rw [p0C hx] at hg;exact a0c (by rw [<-hg];rfl)
theorem n0C (a b:Int) (ha:1<=a) (hb:1<=b):b0m Tryz.prog 213 [.int .i64 a,.int .i64 b] (.int .i64 (l0f a b)):=by
 refine fEx Tryz.func213 ?_
 (conv=>whnf)
 refine a0E (fun x:Int×Int=>⟨[(0,.int .i64 x.1),(1,.int .i64 x.2)],[],1⟩) (fun x=>0<=x.1/\0<=x.2/\l0f x.1 x.2=l0f a b) (fun x=>x.2.toNat) (a,b) [0] [] wHx ⟨by omega,by omega,rfl⟩ ?_;rintro ⟨x,y⟩ ⟨hx,hy,hg⟩;dsimp only at*;repeat' ((conv=>whnf);first|refine a0a ?_|(apply bRx<;>intro h<;>try (exfalso;(try dsimp only at h);omega)))
 all_goals (conv=>whnf)
 .have h1:=Int.tmod_nonneg y hx;have h2:=Int.tmod_lt_of_pos x (b:=y) (by omega);exact ⟨(y,x.tmod y),[0],[],⟨hy,h1,by rw [p0B hx (by omega),hg]⟩,by dsimp only;omega,⟨rfl,⟨rfl,rfl,trivial⟩,trivial⟩⟩
 .have e:y=0:=by omega
  subst e;rw [p0C hx] at hg;exact a0c (by rw [<-hg];rfl)
theorem n0D {a b:Int} (ha:1<=a) (hb:1<=b):1<=l0f a b/\l0f a b<=a/\l0f a b<=b:=by
 unfold l0f;have h1:0<Nat.gcd a.toNat b.toNat:=Nat.gcd_pos_of_pos_left _ (by omega);have h2:Nat.gcd a.toNat b.toNat<=a.toNat:=Nat.gcd_le_left _ (by omega);have h3:Nat.gcd a.toNat b.toNat<=b.toNat:=Nat.gcd_le_right _ (by omega);omega
def e0u (a b:Int):Int:=if a<1\/b<1 then a else a.tdiv (l0f a b)
def e0v (a b:Int):Int:=if a<1\/b<1 then b else b.tdiv (l0f a b)
theorem i0g {a g:Int} (ha:1<=a) (hg:1<=g) (hga:g<=a):1<=a.tdiv g/\a.tdiv g<=a:=by
 rw [k1s (by omega)];refine ⟨?_,Int.ediv_le_self _ (by omega)⟩;have:=Int.ediv_le_ediv (c:=g) (by omega) hga;rw [Int.ediv_self (by omega)] at this;exact this
theorem h0q {a b:Int} (ha:1<=a) (hb:1<=b):1<=e0u a b/\e0u a b<=a/\1<=e0v a b/\e0v a b<=b:=by
 obtain ⟨g1,g2,g3⟩:=n0D ha hb;unfold e0u e0v;rw [if_neg (by omega),if_neg (by omega)];have h1:=i0g ha g1 g2;have h2:=i0g hb g1 g3;omega
attribute [irreducible] e0u e0v
theorem d0x (a b:Int) (ha:a<=9223372036854775807) (hb:b<=9223372036854775807):b0m Tryz.prog 190 [.int .i64 a,.int .i64 b] (.tup [.int .i64 (e0u a b),.int .i64 (e0v a b)]):=by
 refine fEx Tryz.func190 ?_;by_cases hab:a<1\/b<1
 .have e1:e0u a b=a:=by unfold e0u;rw [if_pos hab]
  have e2:e0v a b=b:=by unfold e0v;rw [if_pos hab]
  rw [e1,e2];repeat' ((conv=>whnf);first|refine a0a ?_|(apply bRx<;>intro h<;>try (exfalso;(try dsimp only at h);omega)))
  all_goals (conv=>whnf)
  all_goals exact a0c rfl
 .obtain ⟨g1,g2,g3⟩:=n0D (a:=a) (b:=b) (by omega) (by omega);have t1:=i0g (a:=a) (by omega) g1 g2;have t2:=i0g (a:=b) (by omega) g1 g3;have e1:e0u a b=IntKind.i64.wrap (a.tdiv (l0f a b)):=by rw [a0m (by omega) (by omega)];unfold e0u;rw [if_neg hab]
  have e2:e0v a b=IntKind.i64.wrap (b.tdiv (l0f a b)):=by rw [a0m (by omega) (by omega)];unfold e0v;rw [if_neg hab]
  have hd:=p0D a b (by omega) (by omega);rw [e1,e2];repeat' ((conv=>whnf);first|refine cPx hd ?_|refine a0a ?_|(apply bRx<;>intro h<;>try (exfalso;(try dsimp only at h);omega)))
  all_goals (conv=>whnf)
  all_goals exact a0c rfl
theorem c0H (a b:Int) (ha:a<=9223372036854775807) (hb:b<=9223372036854775807):b0m Tryz.prog 204 [.int .i64 a,.int .i64 b] (.tup [.int .i64 (e0u a b),.int .i64 (e0v a b)]):=by
 refine fEx Tryz.func204 ?_;by_cases hab:a<1\/b<1
 .have e1:e0u a b=a:=by unfold e0u;rw [if_pos hab]
  have e2:e0v a b=b:=by unfold e0v;rw [if_pos hab]
  rw [e1,e2];repeat' ((conv=>whnf);first|refine a0a ?_|(apply bRx<;>intro h<;>try (exfalso;(try dsimp only at h);omega)))
  all_goals (conv=>whnf)
  all_goals exact a0c rfl
 .obtain ⟨g1,g2,g3⟩:=n0D (a:=a) (b:=b) (by omega) (by omega);have t1:=i0g (a:=a) (by omega) g1 g2;have t2:=i0g (a:=b) (by omega) g1 g3;have e1:e0u a b=IntKind.i64.wrap (a.tdiv (l0f a b)):=by rw [a0m (by omega) (by omega)];unfold e0u;rw [if_neg hab]
  have e2:e0v a b=IntKind.i64.wrap (b.tdiv (l0f a b)):=by rw [a0m (by omega) (by omega)];unfold e0v;rw [if_neg hab]
  have hd:=n0C a b (by omega) (by omega);rw [e1,e2];repeat' ((conv=>whnf);first|refine cPx hd ?_|refine a0a ?_|(apply bRx<;>intro h<;>try (exfalso;(try dsimp only at h);omega)))
  all_goals (conv=>whnf)
  all_goals exact a0c rfl
end
section
attribute [local irreducible] a0q a0r a0k a0P
end
section
attribute [local irreducible] a0q a0r a0k a0P
end
section
attribute [local irreducible] a0q a0r a0k a0P
def cvE (a:Int) (c f t:ByteArray) (n d mode:Int):Int:=
 if b0O a c≠0 then b0O a c else if d0D f t n d≠0 then d0D f t n d else if c≠f then 11 else e0U a c n d mode
def cvT (a:Int) (c f t:ByteArray) (n d mode:Int):SV:= .tup [.agg [.int .i64 (orN (cvE a c f t n d mode) (m0i a n d mode)),.str (orS (cvE a c f t n d mode) t)],.int .i64 (cvE a c f t n d mode)]
theorem d0Y {a:Int} {c f t:ByteArray} {n d mode e:Int} (h:cvE a c f t n d mode=e) (he:e≠0):cvT a c f t n d mode= .tup [.agg [.int .i64 0,.str ⟨#[]⟩],.int .i64 e]:=by
 unfold cvT;rw [h];unfold orN orS;rw [if_neg he,if_neg he]
theorem t0b {a:Int} {c f t:ByteArray} {n d mode:Int} (h:cvE a c f t n d mode=0):cvT a c f t n d mode= .tup [.agg [.int .i64 (m0i a n d mode),.str t],.int .i64 0]:=by
 unfold cvT;rw [h];unfold orN orS;rw [if_pos rfl,if_pos rfl]
attribute [irreducible] cvE
theorem p0E (a:Int) (c f t:ByteArray) (n d mode:Int) (h1: -9223372036854775808<=n) (h2:n<=9223372036854775807):
  a1t Tryz.prog glT 127 [.agg [.int .i64 a,.str c],.agg [.str f,.str t,.int .i64 n,.int .i64 d],.int .i64 mode] (cvT a c f t n d mode):=by
 have c1:=d0r a c;have c2:=e0n f t n d;have c3:=r0g a c n d mode h1 h2;refine fEx Tryz.func127 ?_;by_cases e1:b0O a c=0
 .rw [e1] at c1;by_cases e2:d0D f t n d=0
  .rw [e2] at c2;by_cases e3:c=f
   .by_cases e4:e0U a c n d mode=0
    .have he:cvE a c f t n d mode=0:=by unfold cvE;rw [if_neg (by omega),if_neg (by omega),if_neg (by simp [e3]),e4]
     rw [t0b he];rw [k0u e4] at c3;repeat' ((conv=>whnf);first|refine cPx c1 ?_|refine cGx c2 ?_|refine cPx c3 ?_|refine a0a ?_|(apply bRx<;>intro h<;>try (exfalso;(try dsimp only at h);omega)))
     all_goals (conv=>whnf)
     all_goals first|exact a0c rfl|(exfalso;exact absurd e3 (by assumption))
    .have he:cvE a c f t n d mode=e0U a c n d mode:=by unfold cvE;rw [if_neg (by omega),if_neg (by omega),if_neg (by simp [e3])]
     rw [d0Y he e4];rw [c0j rfl e4] at c3;repeat' ((conv=>whnf);first|refine cPx c1 ?_|refine cGx c2 ?_|refine cPx c3 ?_|refine a0a ?_|(apply bRx<;>intro h<;>try (exfalso;(try dsimp only at h);omega)))
     all_goals (conv=>whnf)
     all_goals first|exact a0c rfl|(exfalso;exact absurd e3 (by assumption))
   .have he:cvE a c f t n d mode=11:=by unfold cvE;rw [if_neg (by omega),if_neg (by omega),if_pos e3]
    rw [d0Y he (by omega)];repeat' ((conv=>whnf);first|refine cPx c1 ?_|refine cGx c2 ?_|refine cPx c3 ?_|(refine i0a (fun h=> ?_) (fun h=> ?_)<;>try (exact absurd h e3))|refine a0a ?_|(apply bRx<;>intro h<;>try (exfalso;(try dsimp only at h);omega)))
    all_goals (conv=>whnf)
    all_goals exact a0c rfl
  .have he:cvE a c f t n d mode=d0D f t n d:=by unfold cvE;rw [if_neg (by omega),if_pos e2]
   rw [d0Y he e2];repeat' ((conv=>whnf);first|refine cPx c1 ?_|refine cGx c2 ?_|refine cPx c3 ?_|refine a0a ?_|(apply bRx<;>intro h<;>try (exfalso;(try dsimp only at h);omega)))
   all_goals (conv=>whnf)
   all_goals exact a0c rfl
 .have he:cvE a c f t n d mode=b0O a c:=by unfold cvE;rw [if_pos e1]
  rw [d0Y he e1];repeat' ((conv=>whnf);first|refine cPx c1 ?_|refine cGx c2 ?_|refine cPx c3 ?_|refine a0a ?_|(apply bRx<;>intro h<;>try (exfalso;(try dsimp only at h);omega)))
  all_goals (conv=>whnf)
  all_goals exact a0c rfl
theorem n0E (a:Int) (c f t:ByteArray) (n d mode:Int) (h1: -9223372036854775808<=n) (h2:n<=9223372036854775807) (hf:f.size<=9223372036854775807) (ht:t.size<=9223372036854775807):
  b0m Tryz.prog 90 [.agg [.int .i64 a,.str c],.agg [.str f,.str t,.int .i64 n,.int .i64 d],.int .i64 mode] (cvT a c f t n d mode):=by
 have c1:=c0v a c;have c2:=d0w f t n d hf ht;have c3:=r0h a c n d mode h1 h2;refine fEx Tryz.func90 ?_;by_cases e1:b0O a c=0
 .rw [e1] at c1;by_cases e2:d0D f t n d=0
  .rw [e2] at c2;by_cases e3:c=f
   .by_cases e4:e0U a c n d mode=0
    .have he:cvE a c f t n d mode=0:=by unfold cvE;rw [if_neg (by omega),if_neg (by omega),if_neg (by simp [e3]),e4]
     rw [t0b he];rw [k0u e4] at c3;repeat' ((conv=>whnf);first|refine cPx c1 ?_|refine cPx c2 ?_|refine cPx c3 ?_|refine a0a ?_|(apply bRx<;>intro h<;>try (exfalso;(try dsimp only at h);omega)))
     all_goals (conv=>whnf)
     all_goals first|exact a0c rfl|(exfalso;exact absurd e3 (by assumption))
    .have he:cvE a c f t n d mode=e0U a c n d mode:=by unfold cvE;rw [if_neg (by omega),if_neg (by omega),if_neg (by simp [e3])]
     rw [d0Y he e4];rw [c0j rfl e4] at c3;repeat' ((conv=>whnf);first|refine cPx c1 ?_|refine cPx c2 ?_|refine cPx c3 ?_|refine a0a ?_|(apply bRx<;>intro h<;>try (exfalso;(try dsimp only at h);omega)))
     all_goals (conv=>whnf)
     all_goals first|exact a0c rfl|(exfalso;exact absurd e3 (by assumption))
   .have he:cvE a c f t n d mode=11:=by unfold cvE;rw [if_neg (by omega),if_neg (by omega),if_pos e3]
    rw [d0Y he (by omega)];repeat' ((conv=>whnf);first|refine cPx c1 ?_|refine cPx c2 ?_|refine cPx c3 ?_|(refine i0a (fun h=> ?_) (fun h=> ?_)<;>try (exact absurd h e3))|refine a0a ?_|(apply bRx<;>intro h<;>try (exfalso;(try dsimp only at h);omega)))
    all_goals (conv=>whnf)
    all_goals exact a0c rfl
  .have he:cvE a c f t n d mode=d0D f t n d:=by unfold cvE;rw [if_neg (by omega),if_pos e2]
   rw [d0Y he e2];repeat' ((conv=>whnf);first|refine cPx c1 ?_|refine cPx c2 ?_|refine cPx c3 ?_|refine a0a ?_|(apply bRx<;>intro h<;>try (exfalso;(try dsimp only at h);omega)))
   all_goals (conv=>whnf)
   all_goals exact a0c rfl
 .have he:cvE a c f t n d mode=b0O a c:=by unfold cvE;rw [if_pos e1]
  rw [d0Y he e1];repeat' ((conv=>whnf);first|refine cPx c1 ?_|refine cPx c2 ?_|refine cPx c3 ?_|refine a0a ?_|(apply bRx<;>intro h<;>try (exfalso;(try dsimp only at h);omega)))
  all_goals (conv=>whnf)
  all_goals exact a0c rfl
def rT (e:Int) (f t:ByteArray) (n d:Int):SV:= .tup [.agg [.str (orS e f),.str (orS e t),.int .i64 (orN e n),.int .i64 (orN e d)],.int .i64 e]
theorem e0V {e:Int} {f t:ByteArray} {n d:Int} (he:e≠0):rT e f t n d= .tup [.agg [.str ⟨#[]⟩,.str ⟨#[]⟩,.int .i64 0,.int .i64 0],.int .i64 e]:=by
 unfold rT orN orS;simp only [if_neg he]
theorem r0q {f t:ByteArray} {n d:Int}:rT 0 f t n d= .tup [.agg [.str f,.str t,.int .i64 n,.int .i64 d],.int .i64 0]:=by
 unfold rT orN orS;simp only [if_true]
theorem i0L (f t:ByteArray) (n d:Int):a1t Tryz.prog glT 189 [.agg [.str f,.str t,.int .i64 n,.int .i64 d]] (rT (d0D f t n d) t f (e0u d n) (e0v d n)):=by
 have c1:=e0n f t n d;refine fEx Tryz.func189 ?_;by_cases e1:d0D f t n d=0
 .obtain ⟨_,_,_,b1,b2,b3,b4⟩:=c0x e1;rw [e1] at c1;rw [e1,r0q];have c2:=d0x d n (by omega) (by omega);repeat' ((conv=>whnf);first|refine cGx c1 ?_|refine cPx c2 ?_|refine a0a ?_|(apply bRx<;>intro h<;>try (exfalso;(try dsimp only at h);omega)))
  all_goals (conv=>whnf)
  all_goals exact a0c rfl
 .rw [e0V e1];repeat' ((conv=>whnf);first|refine cGx c1 ?_|refine a0a ?_|(apply bRx<;>intro h<;>try (exfalso;(try dsimp only at h);omega)))
  all_goals (conv=>whnf)
  all_goals exact a0c rfl
theorem n0F (f t:ByteArray) (n d:Int) (hf:f.size<=9223372036854775807) (ht:t.size<=9223372036854775807):b0m Tryz.prog 172 [.agg [.str f,.str t,.int .i64 n,.int .i64 d]] (rT (d0D f t n d) t f (e0u d n) (e0v d n)):=by
 have c1:=d0w f t n d hf ht;refine fEx Tryz.func172 ?_;by_cases e1:d0D f t n d=0
 .obtain ⟨_,_,_,b1,b2,b3,b4⟩:=c0x e1;rw [e1] at c1;rw [e1,r0q];have c2:=c0H d n (by omega) (by omega);repeat' ((conv=>whnf);first|refine cPx c1 ?_|refine cPx c2 ?_|refine a0a ?_|(apply bRx<;>intro h<;>try (exfalso;(try dsimp only at h);omega)))
  all_goals (conv=>whnf)
  all_goals exact a0c rfl
 .rw [e0V e1];repeat' ((conv=>whnf);first|refine cPx c1 ?_|refine a0a ?_|(apply bRx<;>intro h<;>try (exfalso;(try dsimp only at h);omega)))
  all_goals (conv=>whnf)
  all_goals exact a0c rfl
end
section
attribute [local irreducible] a0q a0r a0k a0P
def pA (a b c d:Int):Int:=e0u (e0u a b) (e0v c d)
def pD (a b c d:Int):Int:=e0v (e0u a b) (e0v c d)
def pC (a b c d:Int):Int:=e0u (e0u c d) (e0v a b)
def pB (a b c d:Int):Int:=e0v (e0u c d) (e0v a b)
def prE (a b c d:Int):Int:=if (1099511627776:Int).tdiv (pC a b c d)<pA a b c d\/(1099511627776:Int).tdiv (pD a b c d)<pB a b c d then 4 else 0
theorem i1n {a b c d:Int} (ha:1<=a) (hb:1<=b) (hc:1<=c) (hd:1<=d):(1<=pA a b c d/\pA a b c d<=a)/\(1<=pB a b c d/\pB a b c d<=b)/\(1<=pC a b c d/\pC a b c d<=c)/\(1<=pD a b c d/\pD a b c d<=d):=by
 obtain ⟨x1,x2,x3,x4⟩:=h0q ha hb;obtain ⟨y1,y2,y3,y4⟩:=h0q hc hd;obtain ⟨z1,z2,z3,z4⟩:=h0q x1 y3;obtain ⟨w1,w2,w3,w4⟩:=h0q y1 x3;unfold pA pB pC pD;omega
theorem x0c {m x y:Int} (hm:0<=m) (hy:1<=y) (hx:1<=x) (h:¬m.tdiv y<x):x*y<=m:=by
 rw [k1s hm] at h;have:=Int.mul_le_mul_of_nonneg_right (show x<=m/y by omega) (show 0<=y by omega);have h2:=Int.ediv_mul_le m (show y≠0 by omega);omega
theorem x0d {a b c d:Int} (ha:1<=a) (hb:1<=b) (hc:1<=c) (hd:1<=d) (h:prE a b c d=0):pA a b c d*pC a b c d<=1099511627776/\0<=pA a b c d*pC a b c d/\pB a b c d*pD a b c d<=1099511627776/\0<=pB a b c d*pD a b c d:=by
 obtain ⟨⟨a1,a2⟩,⟨b1,b2⟩,⟨c1,c2⟩,⟨d1,d2⟩⟩:=i1n ha hb hc hd;unfold prE at h;split at h
 .cases h
 .rename_i hn;exact ⟨x0c (by omega) c1 a1 (fun h=>hn (.inl h)),Int.mul_nonneg (by omega) (by omega),x0c (by omega) d1 b1 (fun h=>hn (.inr h)),Int.mul_nonneg (by omega) (by omega)⟩
theorem c1t (a b c d:Int):prE a b c d=4\/prE a b c d=0:=by unfold prE;split<;>simp
attribute [irreducible] pA pB pC pD prE
def crE (f t:ByteArray) (n d:Int) (f' t':ByteArray) (n' d':Int):Int:=
 if d0D f t n d≠0 then d0D f t n d else if d0D f' t' n' d'≠0 then d0D f' t' n' d' else if t≠f'\/f=t' then 11 else prE n d n' d'
attribute [irreducible] crE
theorem v0b (f t:ByteArray) (n d:Int) (f' t':ByteArray) (n' d':Int):
  a1t Tryz.prog glT 158 [.agg [.str f,.str t,.int .i64 n,.int .i64 d],.agg [.str f',.str t',.int .i64 n',.int .i64 d']] (rT (crE f t n d f' t' n' d') f t' (pA n d n' d'*pC n d n' d') (pB n d n' d'*pD n d n' d')):=by
 have c1:=e0n f t n d;have c2:=e0n f' t' n' d';refine fEx Tryz.func158 ?_;by_cases e1:d0D f t n d=0
 .rw [e1] at c1;by_cases e2:d0D f' t' n' d'=0
  .rw [e2] at c2;by_cases e3:t≠f'\/f=t'
   .have he:crE f t n d f' t' n' d'=11:=by unfold crE;rw [if_neg (by omega),if_neg (by omega),if_pos e3]
    rw [he,e0V (by omega)];repeat' ((conv=>whnf);first|refine cGx c1 ?_|refine cGx c2 ?_|refine a0a ?_|(apply bRx<;>intro h<;>try (exfalso;(try dsimp only at h);omega)))
    all_goals (conv=>whnf)
    all_goals first|exact a0c rfl|(exfalso;simp_all;done)
   .obtain ⟨_,_,_,b1,b2,b3,b4⟩:=c0x e1;obtain ⟨_,_,_,b1',b2',b3',b4'⟩:=c0x e2;have he:crE f t n d f' t' n' d'=prE n d n' d':=by unfold crE;rw [if_neg (by omega),if_neg (by omega),if_neg e3]
    obtain ⟨x1,x2,x3,x4⟩:=h0q b1 b3;obtain ⟨y1,y2,y3,y4⟩:=h0q b1' b3';have r1:=d0x n d (by omega) (by omega);have r2:=d0x n' d' (by omega) (by omega);have r3:=d0x (e0u n d) (e0v n' d') (by omega) (by omega);have r4:=d0x (e0u n' d') (e0v n d) (by omega) (by omega);obtain ⟨⟨a1,a2⟩,⟨k1,k2⟩,⟨m1,m2⟩,⟨o1,o2⟩⟩:=i1n b1 b3 b1' b3';have hP:=x0d b1 b3 b1' b3';have hQ:prE n d n' d'=if (1099511627776:Int).tdiv (pC n d n' d')<pA n d n' d'\/(1099511627776:Int).tdiv (pD n d n' d')<pB n d n' d' then 4 else 0:=by unfold prE;rfl
    rw [show e0u (e0u n d) (e0v n' d')=pA n d n' d' from by unfold pA;rfl,show e0v (e0u n d) (e0v n' d')=pD n d n' d' from by unfold pD;rfl] at r3;rw [show e0u (e0u n' d') (e0v n d)=pC n d n' d' from by unfold pC;rfl,show e0v (e0u n' d') (e0v n d)=pB n d n' d' from by unfold pB;rfl] at r4;have tb:∀x:Int,1<=x->IntKind.i64.wrap ((1099511627776:Int).tdiv x)=(1099511627776:Int).tdiv x:=fun x hx=>by
     have h1:=Int.tdiv_nonneg (a:=1099511627776) (b:=x) (by omega) (by omega);have h2:=Int.tdiv_le_self (a:=1099511627776) x (by omega);rw [a0m (by omega) (by omega)]
    have t1:=tb _ m1;have t2:=tb _ o1;rw [he];rcases c1t n d n' d' with hp|hp
    .rw [hp,e0V (by omega)];rw [hp] at hQ;have hor:(1099511627776:Int).tdiv (pC n d n' d')<pA n d n' d'\/(1099511627776:Int).tdiv (pD n d n' d')<pB n d n' d':=by
      rcases Classical.em ((1099511627776:Int).tdiv (pC n d n' d')<pA n d n' d'\/(1099511627776:Int).tdiv (pD n d n' d')<pB n d n' d') with h|h
      .exact h
      .rw [if_neg h] at hQ;omega
     repeat' ((conv=>whnf);first|refine cGx c1 ?_|refine cGx c2 ?_|refine cPx r1 ?_|refine cPx r2 ?_|refine cPx r3 ?_|refine cPx r4 ?_|(refine i0a (fun h=> ?_) (fun h=> ?_)<;>try (exfalso;exact e3 (.inl h)))|(refine d0K (fun h=> ?_) (fun h=> ?_)<;>try (exfalso;exact e3 (.inr h)))|refine a0a ?_|(apply bRx<;>intro h<;>try (exfalso;(try dsimp only at h);omega)))
     all_goals (conv=>whnf)
     all_goals first|exact a0c rfl|(exfalso;omega)
    .rw [hp] at hQ;have hor:¬((1099511627776:Int).tdiv (pC n d n' d')<pA n d n' d'\/(1099511627776:Int).tdiv (pD n d n' d')<pB n d n' d'):=by
      intro h;rw [if_pos h] at hQ;omega
     obtain ⟨q1,q2,q3,q4⟩:=hP hp;have s1:pA n d n' d'*pC n d n' d'=IntKind.i64.wrap (pA n d n' d'*pC n d n' d'):=by rw [a0m (by omega) (by omega)]
     have s2:pB n d n' d'*pD n d n' d'=IntKind.i64.wrap (pB n d n' d'*pD n d n' d'):=by rw [a0m (by omega) (by omega)]
     rw [hp,r0q,s1,s2];repeat' ((conv=>whnf);first|refine cGx c1 ?_|refine cGx c2 ?_|refine cPx r1 ?_|refine cPx r2 ?_|refine cPx r3 ?_|refine cPx r4 ?_|(refine i0a (fun h=> ?_) (fun h=> ?_)<;>try (exfalso;exact e3 (.inl h)))|(refine d0K (fun h=> ?_) (fun h=> ?_)<;>try (exfalso;exact e3 (.inr h)))|refine a0a ?_|(apply bRx<;>intro h<;>try (exfalso;(try dsimp only at h);omega)))
     all_goals (conv=>whnf)
     all_goals first|exact a0c rfl|(exfalso;omega)
  .have he:crE f t n d f' t' n' d'=d0D f' t' n' d':=by unfold crE;rw [if_neg (by omega),if_pos e2]
   rw [he,e0V e2];repeat' ((conv=>whnf);first|refine cGx c1 ?_|refine cGx c2 ?_|refine a0a ?_|(apply bRx<;>intro h<;>try (exfalso;(try dsimp only at h);omega)))
   all_goals (conv=>whnf)
   all_goals exact a0c rfl
 .have he:crE f t n d f' t' n' d'=d0D f t n d:=by unfold crE;rw [if_pos e1]
  rw [he,e0V e1];repeat' ((conv=>whnf);first|refine cGx c1 ?_|refine cGx c2 ?_|refine a0a ?_|(apply bRx<;>intro h<;>try (exfalso;(try dsimp only at h);omega)))
  all_goals (conv=>whnf)
  all_goals exact a0c rfl
end
section
attribute [local irreducible] a0q a0r a0k a0P
theorem m0q {s:ByteArray} (h:d0M s=true):s.size=3:=by
 rcases Nat.decEq s.size 3 with e|e
 .rw [f0l e] at h;cases h
 .exact e
end
section
attribute [local irreducible] a0q a0r a0k a0P
end
section
attribute [local irreducible] a0q a0r a0k a0P
theorem n0G (a b c d:Int) (ha:1<=a) (hb:1<=b) (hc:1<=c) (hd:1<=d) (ha':a<=1099511627776) (hb':b<=1099511627776) (hc':c<=1099511627776) (hd':d<=1099511627776):
  b0m Tryz.prog 173 [.int .i64 a,.int .i64 b,.int .i64 c,.int .i64 d] (.tup [.int .i64 (orN (prE a b c d) (pA a b c d*pC a b c d)),.int .i64 (orN (prE a b c d) (pB a b c d*pD a b c d)),.bool (decide (prE a b c d=0))]):=by
 obtain ⟨x1,x2,x3,x4⟩:=h0q ha hb;obtain ⟨y1,y2,y3,y4⟩:=h0q hc hd;have r1:=c0H a b (by omega) (by omega);have r2:=c0H c d (by omega) (by omega);have r3:=c0H (e0u a b) (e0v c d) (by omega) (by omega);have r4:=c0H (e0u c d) (e0v a b) (by omega) (by omega);obtain ⟨⟨a1,_⟩,⟨k1,_⟩,⟨m1,_⟩,⟨o1,_⟩⟩:=i1n ha hb hc hd;rw [show e0u (e0u a b) (e0v c d)=pA a b c d from by unfold pA;rfl,show e0v (e0u a b) (e0v c d)=pD a b c d from by unfold pD;rfl] at r3;rw [show e0u (e0u c d) (e0v a b)=pC a b c d from by unfold pC;rfl,show e0v (e0u c d) (e0v a b)=pB a b c d from by unfold pB;rfl] at r4;have tb:∀x:Int,1<=x->IntKind.i64.wrap ((1099511627776:Int).tdiv x)=(1099511627776:Int).tdiv x:=fun x hx=>by
  have h1:=Int.tdiv_nonneg (a:=1099511627776) (b:=x) (by omega) (by omega);have h2:=Int.tdiv_le_self (a:=1099511627776) x (by omega);rw [a0m (by omega) (by omega)]
 have t1:=tb _ m1;have t2:=tb _ o1;have hP:=x0d ha hb hc hd;have hQ:prE a b c d=if (1099511627776:Int).tdiv (pC a b c d)<pA a b c d\/(1099511627776:Int).tdiv (pD a b c d)<pB a b c d then 4 else 0:=by unfold prE;rfl
 refine fEx Tryz.func173 ?_;by_cases hor:(1099511627776:Int).tdiv (pC a b c d)<pA a b c d\/(1099511627776:Int).tdiv (pD a b c d)<pB a b c d
 .rw [if_pos hor] at hQ;rw [hQ];unfold orN;rw [if_neg (by omega),if_neg (by omega),decide_eq_false (by omega)];repeat' ((conv=>whnf);first|refine cPx r1 ?_|refine cPx r2 ?_|refine cPx r3 ?_|refine cPx r4 ?_|refine a0a ?_|(apply bRx<;>intro h<;>try (exfalso;(try dsimp only at h);omega)))
  all_goals (conv=>whnf)
  all_goals first|exact a0c rfl|(exfalso;omega)
 .rw [if_neg hor] at hQ;obtain ⟨q1,q2,q3,q4⟩:=hP hQ;have s1:pA a b c d*pC a b c d=IntKind.i64.wrap (pA a b c d*pC a b c d):=by rw [a0m (by omega) (by omega)]
  have s2:pB a b c d*pD a b c d=IntKind.i64.wrap (pB a b c d*pD a b c d):=by rw [a0m (by omega) (by omega)]
  rw [hQ];unfold orN;rw [if_pos rfl,if_pos rfl,decide_eq_true rfl,s1,s2];repeat' ((conv=>whnf);first|refine cPx r1 ?_|refine cPx r2 ?_|refine cPx r3 ?_|refine cPx r4 ?_|refine a0a ?_|(apply bRx<;>intro h<;>try (exfalso;(try dsimp only at h);omega)))
  all_goals (conv=>whnf)
  all_goals first|exact a0c rfl|(exfalso;omega)
theorem e1f {a b c d:Int}:prE a b c d=0\/prE a b c d=4:=by rcases c1t a b c d with h|h<;>simp [h]
theorem r0r (f t:ByteArray) (n d:Int) (f' t':ByteArray) (n' d':Int) (hf:f.size<=9223372036854775807) (ht:t.size<=9223372036854775807) (hf':f'.size<=9223372036854775807) (ht':t'.size<=9223372036854775807):
  b0m Tryz.prog 135 [.agg [.str f,.str t,.int .i64 n,.int .i64 d],.agg [.str f',.str t',.int .i64 n',.int .i64 d']] (rT (crE f t n d f' t' n' d') f t' (pA n d n' d'*pC n d n' d') (pB n d n' d'*pD n d n' d')):=by
 have c1:=d0w f t n d hf ht;have c2:=d0w f' t' n' d' hf' ht';refine fEx Tryz.func135 ?_;by_cases e1:d0D f t n d=0
 .rw [e1] at c1;by_cases e2:d0D f' t' n' d'=0
  .rw [e2] at c2;by_cases e3:t≠f'\/f=t'
   .have he:crE f t n d f' t' n' d'=11:=by unfold crE;rw [if_neg (by omega),if_neg (by omega),if_pos e3]
    rw [he,e0V (by omega)];repeat' ((conv=>whnf);first|refine cPx c1 ?_|refine cPx c2 ?_|refine a0a ?_|(apply bRx<;>intro h<;>try (exfalso;(try dsimp only at h);omega)))
    all_goals (conv=>whnf)
    all_goals first|exact a0c rfl|(exfalso;simp_all;done)
   .obtain ⟨_,_,_,b1,b2,b3,b4⟩:=c0x e1;obtain ⟨_,_,_,b1',b2',b3',b4'⟩:=c0x e2;have he:crE f t n d f' t' n' d'=prE n d n' d':=by unfold crE;rw [if_neg (by omega),if_neg (by omega),if_neg e3]
    have c3:=n0G n d n' d' b1 b3 b1' b3' b2 b4 b2' b4';rw [he];rcases e1f (a:=n) (b:=d) (c:=n') (d:=d') with hp|hp
    .rw [hp,r0q];rw [hp,decide_eq_true rfl] at c3;unfold orN at c3;rw [if_pos rfl,if_pos rfl] at c3;repeat' ((conv=>whnf);first|refine cPx c1 ?_|refine cPx c2 ?_|refine cPx c3 ?_|(refine i0a (fun h=> ?_) (fun h=> ?_)<;>try (exfalso;exact e3 (.inl h)))|(refine d0K (fun h=> ?_) (fun h=> ?_)<;>try (exfalso;exact e3 (.inr h)))|refine a0a ?_|(apply bRx<;>intro h<;>try (exfalso;(try dsimp only at h);omega)))
     all_goals (conv=>whnf)
     all_goals exact a0c rfl
    .rw [hp,e0V (by omega)];rw [hp,decide_eq_false (by omega)] at c3;repeat' ((conv=>whnf);first|refine cPx c1 ?_|refine cPx c2 ?_|refine cPx c3 ?_|(refine i0a (fun h=> ?_) (fun h=> ?_)<;>try (exfalso;exact e3 (.inl h)))|(refine d0K (fun h=> ?_) (fun h=> ?_)<;>try (exfalso;exact e3 (.inr h)))|refine a0a ?_|(apply bRx<;>intro h<;>try (exfalso;(try dsimp only at h);omega)))
     all_goals (conv=>whnf)
     all_goals exact a0c rfl
  .have he:crE f t n d f' t' n' d'=d0D f' t' n' d':=by unfold crE;rw [if_neg (by omega),if_pos e2]
   rw [he,e0V e2];repeat' ((conv=>whnf);first|refine cPx c1 ?_|refine cPx c2 ?_|refine a0a ?_|(apply bRx<;>intro h<;>try (exfalso;(try dsimp only at h);omega)))
   all_goals (conv=>whnf)
   all_goals exact a0c rfl
 .have he:crE f t n d f' t' n' d'=d0D f t n d:=by unfold crE;rw [if_pos e1]
  rw [he,e0V e1];repeat' ((conv=>whnf);first|refine cPx c1 ?_|refine cPx c2 ?_|refine a0a ?_|(apply bRx<;>intro h<;>try (exfalso;(try dsimp only at h);omega)))
  all_goals (conv=>whnf)
  all_goals exact a0c rfl
end
end Go.Proofs.YtegbehopnoocnaaGreatDoor
