/- Several texts in one: Bg1. -/
import Derived.Test.YtmgnedokogidoaaGreatDoorP2
import Derived.Test.YtmgnedokogidoaaGreatDoorP3
import Derived.Test.YtmgnedokogidoaaGreatDoorP4
import Derived.Sort.Walk0
set_option linter.unusedVariables false
set_option linter.unusedSimpArgs false
set_option maxRecDepth 100000
namespace Go.Sy
open Go.RowKit
theorem d1p {n:Int} (h:0<=n) (h':n<=4294967295):IntKind.u32.wrap n=n:=IntWalk.u32_in n ⟨h,h'⟩
theorem j0Z {n:Int} (h:0<=n) (h':n<=18446744073709551615):IntKind.u64.wrap n=n:=IntWalk.u64_in n ⟨h,h'⟩
theorem w0j {n:Int} (h:0<=n) (h':n<=255):IntKind.u8.wrap n=n:=IntWalk.u8_in n ⟨h,h'⟩
theorem f0w {k:IntKind} {x:Int} (n:Nat) (h:n<=k.bits):i0X k x (n:Int)=x/2^n:=by
 unfold i0X
 rw [Int.toNat_natCast,Nat.min_eq_left h,Int.fdiv_eq_ediv_of_nonneg]
 exact Int.pow_nonneg (by omega)
theorem g0Z {x:Int}:i0X .u64 x 8=x/256:=f0w (k:= .u64) 8 (by decide)
theorem f0x {x:Int}:i0X .u64 x 16=x/65536:=f0w (k:= .u64) 16 (by decide)
theorem f0y {x:Int}:i0X .u64 x 32=x/4294967296:=f0w (k:= .u64) 32 (by decide)
theorem f0z {x:Int}:i0X .i64 x 18=x/262144:=f0w (k:= .i64) 18 (by decide)
abbrev a0S:=And.intro @a0G (And.intro @d1p (And.intro @j0Z (And.intro @w0j (And.intro @g0Z (And.intro @f0x (And.intro @f0y (And.intro @f0z (And.intro @Int.tmod_eq_emod_of_nonneg (And.intro @Int.tdiv_eq_ediv_of_nonneg (And.intro @Int.toNat_natCast @Nat.add_zero))))))))))
theorem k0X {s:ByteArray} {x:Int} {n:Nat} (h:s.size=n) (k:x<(n:Int)):x<(s.size:Int):=by rw [h];exact k
theorem f1N {s:ByteArray} {x:Int} {n:Nat} (h:s.size=n) (k:x<=(n:Int)):x<=(s.size:Int):=by rw [h];exact k
def e0x:Nat->Nat->List Int
 |0,_=> []
 |n+1,u=>e0x n (u/10)++ [((48+u%10:Nat):Int)]
theorem a0O:∀n u,(e0x n u).length=n
 |0,_=>rfl
 |n+1,u=>by simp [e0x,a0O n]
theorem f0A:∀(n u i:Nat),i<n->(e0x n u)[i]?=some ((48+u/10^(n-1-i)%10:Nat):Int)
 |0,_,i,h=>by omega
 |n+1,u,i,h=>by
  simp only [e0x]
  by_cases e:i<n
  .rw [List.getElem?_append_left (by rw [a0O];exact e),f0A n (u/10) i e,Nat.div_div_eq_div_mul,show 10*10^(n-1-i)=10^(n+1-1-i) from by rw [<-Nat.pow_succ'];congr 1;omega]
  .have e':i=n:=by omega
   subst e'
   rw [List.getElem?_append_right (by rw [a0O];exact Nat.le_refl _),a0O]
   simp
def b0Y (u:Nat):Nat:=if u<10 then 1 else b0Y (u/10)+1
termination_by u
decreasing_by omega
theorem e0y (u:Nat):0<b0Y u:=by rw [b0Y];split<;>omega
theorem g0m (u:Nat):u<10^b0Y u:=by
 induction u using Nat.strongRecOn with
 |_ u ih=>
  rw [b0Y]
  split
  .simpa using ‹u<10›
  .have:=ih (u/10) (by omega)
   rw [Nat.pow_succ]
   omega
theorem q0r (u:Nat) (h:1<=u):10^(b0Y u-1)<=u:=by
 induction u using Nat.strongRecOn with
 |_ u ih=>
  rw [b0Y]
  split
  .simpa using h
  .have:=ih (u/10) (by omega) (by omega)
   have hp:=e0y (u/10)
   rw [show b0Y (u/10)+1-1=(b0Y (u/10)-1)+1 from by omega,Nat.pow_succ]
   omega
theorem k0a {u k:Nat} (h1:10^k<=u) (h2:u<10^(k+1)):b0Y u=k+1:=by
 have hu:1<=u:=Nat.le_trans (Nat.one_le_pow _ _ (by omega)) h1
 have a:=g0m u
 have b:=q0r u hu
 have hp:=e0y u
 rcases Nat.lt_trichotomy (b0Y u) (k+1) with h|h|h
 .have:10^b0Y u<=10^k:=Nat.pow_le_pow_right (by omega) (by omega)
  omega
 .exact h
 .have:10^(k+1)<=10^(b0Y u-1):=Nat.pow_le_pow_right (by omega) (by omega)
  omega
def dec (u:Nat):ByteArray:=a0F (e0x (b0Y u) u)
def c0g (n:Int):ByteArray:=if n<0 then a0F (45::e0x (b0Y n.natAbs) n.natAbs) else dec n.toNat
def d0F (u:Nat):Nat:=if u=0 then 0 else u.log2+1
theorem q0s (u:Nat):u<2^d0F u:=by
 unfold d0F
 split
 .omega
 .exact Nat.lt_log2_self
theorem k0b (u:Nat) (h:1<=u):2^(d0F u-1)<=u:=by
 unfold d0F
 rw [if_neg (by omega),Nat.add_sub_cancel]
 exact Nat.log2_self_le (by omega)
theorem q0t {u k:Nat} (h1:2^k<=u) (h2:u<2^(k+1)):d0F u=k+1:=by
 have hu:1<=u:=Nat.le_trans (Nat.one_le_pow _ _ (by omega)) h1
 have a:=q0s u
 have b:=k0b u hu
 have hp:0<d0F u:=by unfold d0F;rw [if_neg (by omega)];omega
 rcases Nat.lt_trichotomy (d0F u) (k+1) with h|h|h
 .have:2^d0F u<=2^k:=Nat.pow_le_pow_right (by omega) (by omega)
  omega
 .exact h
 .have:2^(k+1)<=2^(d0F u-1):=Nat.pow_le_pow_right (by omega) (by omega)
  omega
theorem o0V {u:Nat} (h:u<2^64):d0F u<=64:=by
 rcases Nat.lt_or_ge 64 (d0F u) with h1|h1
 .have hu:1<=u:=by
   rcases Nat.eq_zero_or_pos u with e|e
   .subst e;simp [d0F] at h1
   .exact e
  have a:=k0b u hu
  have:2^64<=2^(d0F u-1):=Nat.pow_le_pow_right (by omega) (by omega)
  omega
 .exact h1
theorem t0U (u k:Nat) (h:2^k<=u):d0F u=k+d0F (u/2^k):=by
 have h1:1<=u/2^k:=(Nat.one_le_div_iff (Nat.two_pow_pos k)).2 h
 have a:=q0s (u/2^k)
 have b:=k0b (u/2^k) h1
 have hp:0<d0F (u/2^k):=by unfold d0F;rw [if_neg (by omega)];omega
 have:d0F u=(k+d0F (u/2^k)-1)+1:=by
  refine q0t ?_ ?_
  .rw [show k+d0F (u/2^k)-1=(d0F (u/2^k)-1)+k from by omega,Nat.pow_add]
   exact (Nat.le_div_iff_mul_le (Nat.two_pow_pos k)).1 b
  .rw [show k+d0F (u/2^k)-1+1=d0F (u/2^k)+k from by omega,Nat.pow_add]
   exact (Nat.div_lt_iff_lt_mul (Nat.two_pow_pos k)).1 a
 omega
theorem o0W:∀L,L<=64->1<=L->10^(L*78913/2^18)<=2^L/\2^L<=10^(L*78913/2^18+1)/\(L*78913/2^18=0\/10^(L*78913/2^18-1)<=2^(L-1)):=by
 decide+kernel
theorem z0P {u:Nat} (h1:1<=u) (h2:u<2^64):b0Y u=d0F u*78913/2^18+(if 10^(d0F u*78913/2^18)<=u then 1 else 0):=by
 have hp:1<=d0F u:=by unfold d0F;rw [if_neg (by omega)];omega
 obtain ⟨a,b,c⟩:=o0W (d0F u) (o0V h2) hp
 have d:=q0s u
 have e:=k0b u h1
 generalize d0F u*78913/2^18=k at*
 split
 .exact k0a ‹_› (Nat.lt_of_lt_of_le d b)
 .rcases c with c|c
  .subst c;rename_i h;simp at h;omega
  .have hk:k≠0:=by intro h;subst h;rename_i h;simp at h;omega
   have:=k0a (u:=u) (k:=k-1) (Nat.le_trans c e) (by rw [show k-1+1=k from by omega];omega)
   omega
def f1O (s:ByteArray) (n:Nat) (f:Nat->Nat):Bool:=decide (s.size=n)&&(List.range n).all (fun i=>Nat.beq (s.data.toList.getD i 0).toNat (f i))
theorem n0l {s:ByteArray} {n:Nat} {f:Nat->Nat} (h:f1O s n f=true) {i:Nat} (hi:i<n):a0r s (i:Int)=(f i:Int):=by
 unfold f1O at h
 simp only [Bool.and_eq_true,List.all_eq_true,List.mem_range] at h
 unfold a0r
 rw [Int.toNat_natCast,Nat.eq_of_beq_eq_true (h.2 i hi)]
def smF (i:Nat):Nat:=if i%2=0 then 48+i/20 else 48+i/2%10
theorem h0a {s:ByteArray} (h:f1O s 200 smF=true) {y:Int} (h0:0<=y) (h1:y<100):a0r s (y*2+1)=48+y%10:=by
 have e:y*2+1=((y.toNat*2+1:Nat):Int):=by omega
 rw [e,n0l h (by omega)]
 unfold smF
 rw [if_neg (by omega)]
 omega
theorem e0z {s:ByteArray} (h:f1O s 200 smF=true) {y:Int} (h0:0<=y) (h1:y<100):a0r s (y*2)=48+y/10:=by
 have e:y*2=((y.toNat*2:Nat):Int):=by omega
 rw [e,n0l h (by omega)]
 unfold smF
 rw [if_pos (by omega)]
 omega
def t0V (l:List Int) (N o n U m:Nat):List Int:=(List.range N).map (fun x=>if o+n-m<=x/\x<o+n then ((48+U/10^(o+n-1-x)%10:Nat):Int) else l.getD x 0)
theorem k0c (l:List Int) (N o n U m:Nat):(t0V l N o n U m).length=N:=by simp [t0V]
theorem w0k {l:List Int} {N o n U:Nat} (h:l.length=N):t0V l N o n U 0=l:=by
 apply List.ext_getElem?
 intro i
 simp only [t0V,List.getElem?_map]
 by_cases hi:i<N
 .rw [List.getElem?_range hi]
  simp only [Option.map_some]
  rw [if_neg (by omega),List.getD,List.getElem?_eq_getElem (by omega)]
  rfl
 .rw [List.getElem?_eq_none (by simp;omega),List.getElem?_eq_none (by omega)];rfl
theorem a0H {l:List Int} {N o n U m i:Nat} {v:Int} (hm:m<n) (hN:o+n<=N) (hi:i=o+n-m-1) (hv:v=((48+U/10^m%10:Nat):Int)):(t0V l N o n U m).set i v=t0V l N o n U (m+1):=by
 subst hi
 apply List.ext_getElem?
 intro x
 rw [List.getElem?_set,k0c]
 by_cases e:o+n-m-1=x
 .subst e
  rw [if_pos rfl,if_pos (by omega)]
  simp only [t0V,List.getElem?_map]
  rw [List.getElem?_range (by omega)]
  simp only [Option.map_some]
  rw [if_pos (by omega),hv,show o+n-1-(o+n-m-1)=m from by omega]
 .rw [if_neg e]
  simp only [t0V,List.getElem?_map]
  by_cases hx:x<N
  .rw [List.getElem?_range hx]
   simp only [Option.map_some]
   by_cases h2:o+n-m<=x/\x<o+n
   .rw [if_pos h2,if_pos (by omega)]
   .rw [if_neg h2,if_neg (by omega)]
  .rw [List.getElem?_eq_none (by simp;omega)];rfl
theorem s0h {l:List Int} {N o n U:Nat} (hN:o+n<=N):seg o n (t0V l N o n U n)=e0x n U:=by
 apply List.ext_getElem?
 intro i
 unfold seg
 by_cases hi:i<n
 .rw [List.getElem?_take,if_pos hi,List.getElem?_drop,f0A _ _ _ hi]
  simp only [t0V,List.getElem?_map]
  rw [List.getElem?_range (by omega)]
  simp only [Option.map_some]
  rw [if_pos (by omega),show o+n-1-(o+i)=n-1-i from by omega]
 .rw [List.getElem?_take,if_neg hi,List.getElem?_eq_none (by rw [a0O];omega)]
theorem a0V (U m j:Nat):U/10^(m+j)=U/10^m/10^j:=by rw [Nat.pow_add,Nat.div_div_eq_div_mul]
attribute [irreducible] t0V dec c0g
theorem z0Q {L:List Int} {n:Nat} {v:Int} (h:0<L.length):seg 0 (1+n) (L.set 0 v)=v::seg 1 n L:=by
 cases L with
 |nil=>simp at h
 |cons x l=>simp [seg,Nat.add_comm 1 n]
end Go.Sy
namespace Go.Proofs.YtmgnedokogidoaaGreatDoor
open Go.RowKit Go.Sy
section
attribute [local irreducible] a0B a0D a0u a0Y
theorem a0M {k:Nat} (h:k<9223372036854775806):IntKind.i64.wrap ((k:Int)+1)=((k+1:Nat):Int):=by rw [a0G (by omega) (by omega)];rfl
def w0l (s:ByteArray) (i:Nat):Bool:=decide (65<=a0r s (i:Int))&&decide (a0r s (i:Int)<=90)
def f0V (s:ByteArray):Nat->Bool
 |0=>true
 |k+1=>f0V s k&&w0l s k
def f0W (s:ByteArray):Bool:=decide (s.size=3)&&f0V s s.size
theorem o0X {s:ByteArray} {k n:Nat} (h:k<n) (hc:w0l s k=false):f0V s n=false:=by
 induction n with
 |zero=>omega
 |succ n ih=>
  simp only [f0V]
  by_cases e:k=n
  .subst e;simp [hc]
  .rw [ih (by omega)];rfl
theorem d0m {s:ByteArray} {k:Nat} (h:k<s.size) (hc:a0r s (k:Int)<65\/90<a0r s (k:Int)):f0W s=false:=by
 have:w0l s k=false:=by unfold w0l;simp;omega
 unfold f0W
 rw [o0X h this];simp
theorem h0b {s:ByteArray} (h:s.size≠3):f0W s=false:=by unfold f0W;simp [h]
theorem g0n {s:ByteArray} {k:Nat} (h:f0V s k=true) (h1:¬a0r s (k:Int)<65) (h2:¬90<a0r s (k:Int)):f0V s (k+1)=true:=by
 simp only [f0V,h,w0l];simp;omega
attribute [irreducible] f0W
theorem i0A (s:ByteArray):c0a Tryz.prog 252 [.str s] (.bool (f0W s)):=by
 refine a0p mixed a0x Tryz.func252 rfl (by kernel_rfl) (by kernel_rfl) (by kernel_rfl) ?_
 repeat' ((conv=>whnf);first|((first|apply a0f|apply a0c|apply a0g|apply a0b|apply a0h|apply a0a)<;>intro h<;>try (exfalso;(try dsimp only at h);omega))|refine a0i ?_)
 all_goals (conv=>whnf)
 .exact a0o (by rw [h0b (by omega)];rfl)
 .refine a0z (fun k:Nat=>⟨[(0,.str s),(8,.int .i64 s.size),(9,.int .i64 k)],[],1⟩) (fun k=>k<=s.size/\f0V s k=true) (fun k=>s.size-k) 0 [0] [] ⟨rfl,⟨rfl,rfl,rfl,trivial⟩,trivial⟩ ⟨by omega,rfl⟩ ?_
  rintro k ⟨hk,hc⟩
  repeat' ((conv=>whnf);first|((first|apply a0f|apply a0c|apply a0g|apply a0b|apply a0h|apply a0a)<;>intro h<;>try (exfalso;(try dsimp only at h);omega))|refine a0i ?_)
  all_goals (conv=>whnf)
  .exact a0o (by rw [d0m (k:=k) (by omega) (by omega)];rfl)
  .exact a0o (by rw [d0m (k:=k) (by omega) (by omega)];rfl)
  .exact ⟨k+1,[0],[],⟨by omega,g0n hc (by omega) (by omega)⟩,by omega,⟨rfl,⟨rfl,rfl,congrArg (fun z=>some (SV.int .i64 z)) (a0M (by omega)),trivial⟩,trivial⟩⟩
  .have e:k=s.size:=by omega
   subst e
   refine a0o ?_
   have:f0W s=true:=by unfold f0W;rw [hc];simp;omega
   rw [this];rfl
end
section
def auC (c:Int):Bool:=decide ((97<=c/\c<=122)\/(65<=c/\c<=90)\/(48<=c/\c<=57)\/c=95\/c=45)
def auI (s:ByteArray):Bool:=decide (1<=s.size/\s.size<=16)&&(List.range s.size).all (fun i=>auC (a0r s (i:Int)))
theorem s0i {s:ByteArray} (h:s.size<1\/16<s.size):auI s=false:=by
 unfold auI
 rw [decide_eq_false (by omega),Bool.false_and]
theorem b1N {s:ByteArray} {k:Nat} (hk:k<s.size) (hc:¬((97<=a0r s (k:Int)/\a0r s (k:Int)<=122)\/(65<=a0r s (k:Int)/\a0r s (k:Int)<=90)\/(48<=a0r s (k:Int)/\a0r s (k:Int)<=57)\/a0r s (k:Int)=95\/a0r s (k:Int)=45)):auI s=false:=by
 unfold auI
 rw [Bool.and_eq_false_iff]
 refine .inr ?_
 cases e:(List.range s.size).all (fun i=>auC (a0r s (i:Int))) with
 |false=>rfl
 |true=>
  rw [List.all_eq_true] at e
  exact absurd (of_decide_eq_true (e k (by simpa using hk))) hc
def f1P (s:ByteArray) (k:Nat):Prop:=∀i,i<k->auC (a0r s (i:Int))=true
theorem o0Y {s:ByteArray} {k:Nat} (h:f1P s k) (hc:(97<=a0r s (k:Int)/\a0r s (k:Int)<=122)\/(65<=a0r s (k:Int)/\a0r s (k:Int)<=90)\/(48<=a0r s (k:Int)/\a0r s (k:Int)<=57)\/a0r s (k:Int)=95\/a0r s (k:Int)=45):f1P s (k+1):=by
 intro i hi
 by_cases e:i=k
 .subst e;unfold auC;exact decide_eq_true hc
 .exact h i (by omega)
theorem w0m {s:ByteArray} (h1:1<=s.size) (h2:s.size<=16) (h:f1P s s.size):auI s=true:=by
 unfold auI
 rw [decide_eq_true ⟨h1,h2⟩,Bool.true_and,List.all_eq_true]
 exact fun i hi=>h i (by simpa using hi)
attribute [irreducible] auI
structure Au where
 id:ByteArray
 cur:ByteArray
 app:Int
 rev:Int
 cle:Int
 exp:Int
 st:Int
 att:Int
 unt:Int
 pa:Int
abbrev Au.s (a:Au):SV:= .agg [.str a.id,.str a.cur,.int .i64 a.app,.int .i64 a.rev,.int .i64 a.cle,.int .i64 a.exp,.int .i64 a.st,.int .i64 a.att,.int .i64 a.unt,.int .i64 a.pa]
theorem Au.eta (a:Au):Au.mk a.id a.cur a.app a.rev a.cle a.exp a.st a.att a.unt a.pa=a:=rfl
def Au.zero:Au:=⟨⟨#[]⟩,⟨#[]⟩,0,0,0,0,0,0,0,0⟩
@[irreducible] def a0Q (a:Au):Int:=IntKind.i64.wrap (IntKind.i64.wrap (IntKind.i64.wrap (a.app-a.rev)-a.cle)-a.exp)
@[irreducible] def b0M (a:Au):Int:=if 0<a0Q a then 1 else if 0<a.exp then 4 else if 0<a.cle then 2 else 3
def h0c (n:Int):Bool:=decide (0<=n/\n<=999999999999)
@[irreducible] def c0q (a:Au):Int:=
 if auI a.id=false then 5 else if f0W a.cur=false then 11
 else if¬(1<=a.app/\a.app<=999999999999/\0<=a.rev/\a.rev<=999999999999/\0<=a.cle/\a.cle<=999999999999/\0<=a.exp/\a.exp<=999999999999) then 4
 else if a0Q a<0 then 26
 else if¬(0<=a.att/\a.att<=1099511627776/\a.att<a.unt/\a.unt<=1099511627776) then 14
 else if¬(0<=a.pa/\a.pa<=8/\a.pa<=a.cle/\(a.pa=0↔a.cle=0)) then 4
 else if a.st≠b0M a\/(a.st=1/\a.exp≠0) then 8 else 0
theorem h0d (a:Au) (h1:0<=a.app) (h2:a.app<=999999999999) (h3:0<=a.rev) (h4:a.rev<=999999999999) (h5:0<=a.cle) (h6:a.cle<=999999999999) (h7:0<=a.exp) (h8:a.exp<=999999999999):a0Q a=a.app-a.rev-a.cle-a.exp:=by
 unfold a0Q
 rw [a0G (n:=a.app-a.rev) (by omega) (by omega),a0G (n:=a.app-a.rev-a.cle) (by omega) (by omega),a0G (by omega) (by omega)]
@[irreducible] def f1Q (a:Au):Int:=if c0q a=0 then a0Q a else 0
@[irreducible] def d0c (a:Au):Int:=if c0q a=0 then (if a.st=1 then 0 else 8) else c0q a
structure Facts (a:Au):Prop where
 id:auI a.id=true
 cur:f0W a.cur=true
 app:1<=a.app/\a.app<=999999999999
 rev:0<=a.rev/\a.rev<=999999999999
 cle:0<=a.cle/\a.cle<=999999999999
 exp:0<=a.exp/\a.exp<=999999999999
 funds:a0Q a=a.app-a.rev-a.cle-a.exp
 nneg:0<=a0Q a
 time:0<=a.att/\a.att<=1099511627776/\a.att<a.unt/\a.unt<=1099511627776
 pa:0<=a.pa/\a.pa<=8/\a.pa<=a.cle/\(a.pa=0↔a.cle=0)
 st:a.st=b0M a
 op:a.st=1->a.exp=0
theorem i0K {a:Au} (h:c0q a=0):Facts a:=by
 unfold c0q at h
 split at h;·simp at h
 split at h;·simp at h
 split at h;·simp at h
 split at h;·simp at h
 split at h;·simp at h
 split at h;·simp at h
 split at h;·simp at h
 rename_i h1 h2 h3 h4 h5 h6 h7
 have e:=h0d a (by omega) (by omega) (by omega) (by omega) (by omega) (by omega) (by omega) (by omega)
 have h7':a.st=b0M a/\(a.st=1->a.exp=0):=by
  constructor
  .apply Classical.byContradiction;intro x;exact h7 (.inl x)
  .intro x;apply Classical.byContradiction;intro y;exact h7 (.inr ⟨x,y⟩)
 exact ⟨by simpa using h1,by simpa using h2,by omega,by omega,by omega,by omega,e,by omega,by omega,by omega,h7'.1,h7'.2⟩
theorem d0M {a:Au} (h:d0c a=0):Facts a/\a.st=1/\0<a0Q a/\f1Q a=a0Q a/\c0q a=0/\a.exp=0:=by
 unfold d0c at h
 split at h
 .rename_i hc
  split at h
  .rename_i hs
   have f:=i0K hc
   refine ⟨f,hs,?_,by unfold f1Q;rw [if_pos hc],hc,f.op hs⟩
   have:=f.st
   rw [hs] at this
   unfold b0M at this
   split at this
   .assumption
   .split at this
    .simp at this
    .split at this<;>simp at this
  .simp at h
 .rename_i hc;exact absurd h hc
@[irreducible] def b1O (id cur:ByteArray) (n at_ un:Int):Au×Int:=
 let a:Au:=⟨id,cur,n,0,0,0,1,at_,un,0⟩
 if c0q a=0 then (a,0) else (Au.zero,c0q a)
@[irreducible] def h0e (a:Au) (n u:Int):Au×Int:=
 if d0c a≠0 then (Au.zero,d0c a) else if¬(1<=n/\n<=999999999999-a.app) then (Au.zero,4)
 else if u<a.unt\/1099511627776<u then (Au.zero,14) else ({ a with app:=a.app+n,unt:=u},0)
@[irreducible] def c0A (a:Au) (n:Int):Au×Int×Int:=
 if d0c a≠0 then (Au.zero,0,d0c a) else if¬(0<=n/\n<=a0Q a) then (Au.zero,0,4)
 else ({ a with rev:=a.rev+(if n=0 then a0Q a else n),st:=b0M { a with rev:=a.rev+(if n=0 then a0Q a else n)}},(if n=0 then a0Q a else n),0)
@[irreducible] def i0r (a:Au) (n:Int) (f:Bool):Au×Int×Int×Int:=
 if d0c a≠0 then (Au.zero,0,0,d0c a) else if¬(1<=n/\n<=999999999999) then (Au.zero,0,0,4) else if 8<=a.pa then (Au.zero,0,0,10)
 else ({ a with cle:=a.cle+min n (a0Q a),rev:=a.rev+(if f=true then a0Q a-min n (a0Q a) else 0),pa:=a.pa+1,
                st:=b0M { a with cle:=a.cle+min n (a0Q a),rev:=a.rev+(if f=true then a0Q a-min n (a0Q a) else 0),pa:=a.pa+1}},
       min n (a0Q a),(if f=true then a0Q a-min n (a0Q a) else 0),0)
@[irreducible] def d0C (a:Au) (t:Int):Au×Int×Int:=
 if d0c a≠0 then (Au.zero,0,d0c a) else if t<a.unt then (Au.zero,0,14)
 else ({ a with exp:=a.exp+a0Q a,st:=b0M { a with exp:=a.exp+a0Q a}},a0Q a,0)
theorem d1q (id cur:ByteArray) (n at_ un:Int) (h:(b1O id cur n at_ un).2=0):(b1O id cur n at_ un).1.id=id:=by
 unfold b1O at h⊢
 dsimp only at h⊢
 split
 .rfl
 .rename_i hc;rw [if_neg hc] at h;exact absurd h hc
abbrev t2 (r:Au×Int):SV:= .tup [r.1.s,.int .i64 r.2]
abbrev t3 (r:Au×Int×Int):SV:= .tup [r.1.s,.int .i64 r.2.1,.int .i64 r.2.2]
abbrev t4 (r:Au×Int×Int×Int):SV:= .tup [r.1.s,.int .i64 r.2.1,.int .i64 r.2.2.1,.int .i64 r.2.2.2]
theorem w0n (id cur:ByteArray) (n at_ un:Int):c0q ⟨id,cur,n,0,0,0,b0M ⟨id,cur,n,0,0,0,0,at_,un,0⟩,at_,un,0⟩=c0q ⟨id,cur,n,0,0,0,1,at_,un,0⟩/\
  (c0q ⟨id,cur,n,0,0,0,1,at_,un,0⟩=0->b0M ⟨id,cur,n,0,0,0,0,at_,un,0⟩=1):=by
 by_cases hn:1<=n/\n<=999999999999
 .have e:b0M ⟨id,cur,n,0,0,0,0,at_,un,0⟩=1:=by
   unfold b0M
   rw [h0d _ (by simp;omega) (by simp;omega) (by simp) (by simp) (by simp) (by simp) (by simp) (by simp)]
   simp;omega
  rw [e];exact ⟨rfl,fun _=>rfl⟩
 .constructor
  .unfold c0q
   simp only
   split;·rfl
   split;·rfl
   rw [if_pos (by omega),if_pos (by omega)]
  .intro h;have:=(i0K h).app;simp at this;omega
end
section
attribute [local irreducible] a0B a0D a0u a0Y
def u0W (s:ByteArray) (i:Nat):Prop:=48<=a0r s (i:Int)/\a0r s (i:Int)<=57
instance (s:ByteArray) (i:Nat):Decidable (u0W s i):=by unfold u0W;infer_instance
def g0o (s:ByteArray):Nat->Bool
 |0=>true
 |k+1=>g0o s k&&decide (u0W s k)
theorem h0S {s:ByteArray} {k n:Nat} (h:k<n) (hc:¬u0W s k):g0o s n=false:=by
 induction n with
 |zero=>omega
 |succ n ih=>
  simp only [g0o]
  by_cases e:k=n
  .subst e;simp [hc]
  .rw [ih (by omega)];rfl
end
section
attribute [local irreducible] a0B a0D a0u a0Y
def mkB (c:Int):Bool:=decide (0<=Lib.indexByte [40,41,123,125,44,59,58,61,60,62,43,45,42,37,46] c.toNat.toUInt8)
theorem w0o (c:Int) (h0:0<=c) (h1:c<128):c0a Tryz.prog 107 [.str ⟨#[40,41,123,125,44,59,58,61,60,62,43,45,42,37,46]⟩,.int .i32 c] (.bool (mkB c)):=by
 refine g0W (vals:= [.string ⟨#[40,41,123,125,44,59,58,61,60,62,43,45,42,37,46]⟩,.int .i32 c]) (v:= .bool (mkB c)) (d0l Tryz.func107 (by kernel_rfl) (by kernel_rfl)) ?_ ?_ ?_
 .intro g vs h
  simpa [Rvs,Rv] using h
 .intro g;simp [Rv]
 .intro w
  have h:=Tryz.strings_ContainsRune_ascii ⟨#[40,41,123,125,44,59,58,61,60,62,43,45,42,37,46]⟩ c w h0 h1
  refine h.mono ?_
  rintro e w' ⟨rfl,rfl⟩
  exact ⟨rfl,Below.refl _ _⟩
def ltP (c:Int):Prop:=(97<=c/\c<=122)\/(65<=c/\c<=90)
instance (c:Int):Decidable (ltP c):=by unfold ltP;infer_instance
def wdP (c:Int):Prop:=ltP c\/(48<=c/\c<=57)\/c=95
instance (c:Int):Decidable (wdP c):=by unfold wdP;infer_instance
def k0Y (c:Int):Int:=if c=32\/c=9\/c=10 then 1 else if ltP c then 2 else if 48<=c/\c<=57 then 3 else if c=95 then 4 else if c=34 then 5 else if c=35 then 6 else if c<=126/\mkB c=true then 7 else 0
theorem i32_in {c:Int} (h0:0<=c) (h1:c<=255):IntKind.i32.wrap c=c:=IntWalk.i32_in _ ⟨by omega,by omega⟩
theorem n0m {c:Int}:k0Y c=2↔ltP c:=by
 unfold k0Y
 by_cases h:ltP c
 .have:¬(c=32\/c=9\/c=10):=by unfold ltP at h;omega
  rw [if_neg this,if_pos h];simp [h]
 .simp only [if_neg h]
  (repeat' split)<;>simp [h]
theorem d1r {c:Int}:(k0Y c=2\/k0Y c=3\/k0Y c=4)↔wdP c:=by
 have e:∀x,k0Y c=x->(k0Y c=2\/k0Y c=3\/k0Y c=4↔x=2\/x=3\/x=4):=fun x e=>by rw [e]
 refine (e _ rfl).trans ?_
 unfold wdP
 by_cases h2:ltP c
 .have:=n0m.2 h2;simp [this,h2]
 .have h2':=h2
  unfold ltP at h2'
  have n2:k0Y c≠2:=fun h=>h2 (n0m.1 h)
  have e3:k0Y c=3↔(48<=c/\c<=57):=by
   unfold k0Y;rw [if_neg h2];(repeat' split)<;>omega
  have e4:k0Y c=4↔c=95:=by
   unfold k0Y;rw [if_neg h2];(repeat' split)<;>omega
  rw [e3,e4]
  simp [n2,h2]
theorem k0d (c:Int) (h0:0<=c) (h1:c<=255):c0a Tryz.prog 89 [.int .i32 c] (.int .i64 (k0Y c)):=by
 by_cases h126:c<=126
 .have cm:=w0o c h0 (by omega)
  cases hm:mkB c with
  |true=>
   rw [hm] at cm
   unfold k0Y ltP
   rw [hm]
   refine a0p mixed a0x Tryz.func89 rfl (by kernel_rfl) (by kernel_rfl) (by kernel_rfl) ?_
   repeat' ((conv=>whnf);first|(refine a0j (cm) rfl rfl rfl ?_)|(refine a0m (cm) rfl rfl rfl ?_)|((first|apply a0f|apply a0c|apply a0g|apply a0b|apply a0h|apply a0a)<;>intro h<;>try (exfalso;(try dsimp only at h);omega))|refine a0i ?_)
   all_goals (conv=>whnf)
   all_goals (refine a0o (congrArg (SV.int .i64) ?_))
   all_goals first
    |((try simp only [and_true,Bool.false_eq_true,and_false,if_false]);(repeat' split)<;>omega)
  |false=>
   rw [hm] at cm
   unfold k0Y ltP
   rw [hm]
   refine a0p mixed a0x Tryz.func89 rfl (by kernel_rfl) (by kernel_rfl) (by kernel_rfl) ?_
   repeat' ((conv=>whnf);first|(refine a0j (cm) rfl rfl rfl ?_)|(refine a0m (cm) rfl rfl rfl ?_)|((first|apply a0f|apply a0c|apply a0g|apply a0b|apply a0h|apply a0a)<;>intro h<;>try (exfalso;(try dsimp only at h);omega))|refine a0i ?_)
   all_goals (conv=>whnf)
   all_goals (refine a0o (congrArg (SV.int .i64) ?_))
   all_goals first
    |((try simp only [and_true,Bool.false_eq_true,and_false,if_false]);(repeat' split)<;>omega)
 .unfold k0Y ltP
  refine a0p mixed a0x Tryz.func89 rfl (by kernel_rfl) (by kernel_rfl) (by kernel_rfl) ?_
  repeat' ((conv=>whnf);first|((first|apply a0f|apply a0c|apply a0g|apply a0b|apply a0h|apply a0a)<;>intro h<;>try (exfalso;(try dsimp only at h);omega))|refine a0i ?_)
  all_goals (conv=>whnf)
  all_goals (refine a0o (congrArg (SV.int .i64) ?_))
  all_goals first
   |((repeat' split)<;>omega)
theorem k0Z (c:Int) (h0:0<=c) (h1:c<=255):c0a Tryz.prog 108 [.int .u8 c] (.bool (decide (wdP c))):=by
 have c1:=k0d c h0 h1
 have hw:=d1r (c:=c)
 rw [show (SV.int .i32 c)=SV.int .i32 (IntKind.i32.wrap c) by rw [i32_in h0 h1]] at c1
 generalize k0Y c=x at c1 hw
 refine a0p mixed a0x Tryz.func108 rfl (by kernel_rfl) (by kernel_rfl) (by kernel_rfl) ?_
 repeat' ((conv=>whnf);first|(refine a0j (c1) rfl rfl rfl ?_)|(refine a0m (c1) rfl rfl rfl ?_)|((first|apply a0f|apply a0c|apply a0g|apply a0b|apply a0h|apply a0a)<;>intro h<;>try (exfalso;(try dsimp only at h);omega))|refine a0i ?_)
 all_goals (conv=>whnf)
 all_goals first
  |exact a0o (congrArg SV.bool (decide_eq_true (hw.1 (by omega))).symm)
  |exact a0o (congrArg SV.bool (decide_eq_decide.2 ⟨fun hh=>hw.1 (Or.inr (Or.inr hh)),fun hh=>(hw.2 hh).resolve_left (by omega)|>.resolve_left (by omega)⟩))
def p0J (s:ByteArray):Nat->Bool
 |0=>true
 |k+1=>p0J s k&&decide (wdP (a0r s (k:Int)))
theorem w0p {s:ByteArray} {k:Nat} (h:p0J s k=true) (h1:wdP (a0r s (k:Int))):p0J s (k+1)=true:=by
 simp only [p0J,h,Bool.true_and,decide_eq_true_eq];exact h1
theorem t0W {s:ByteArray} {k n:Nat} (h:k<n) (hc:¬wdP (a0r s (k:Int))):p0J s n=false:=by
 induction n with
 |zero=>omega
 |succ n ih=>
  simp only [p0J]
  by_cases e:k=n
  .subst e;simp [hc]
  .rw [ih (by omega)];rfl
theorem d1s {s:ByteArray} {k n:Nat} (h:k<n) (hd:p0J s n=true):wdP (a0r s (k:Int)):=by
 by_cases hc:wdP (a0r s (k:Int))
 .exact hc
 .rw [t0W h hc] at hd;cases hd
theorem l0V {s:ByteArray}:∀n,p0J s n=false->∃k,k<n/\p0J s k=true/\¬wdP (a0r s (k:Int))
 |0,h=>by simp [p0J] at h
 |n+1,h=>by
  cases hn:p0J s n with
  |false=>obtain ⟨k,h1,h2⟩:=l0V n hn;exact ⟨k,by omega,h2⟩
  |true=>
   refine ⟨n,by omega,hn,fun hw=> ?_⟩
   rw [w0p hn hw] at h;cases h
theorem l0W (s:ByteArray) (e:Nat) (he:e<=s.size) (ht:p0J s e=true) (hx:e=s.size\/¬wdP (a0r s (e:Int))) (hs:s.size<=1000000):c0a Tryz.prog 90 [.str s,.int .i64 0] (.str (s.extract 0 e)):=by
 refine a0p mixed a0x Tryz.func90 rfl (by kernel_rfl) (by kernel_rfl) (by kernel_rfl) ?_
 (conv=>whnf)
 refine a0z (fun k:Nat=>⟨[(0,.str s),(1,.int .i64 0),(5,.int .i64 k)],[],1⟩) (fun k=>k<=e) (fun k=>e-k) 0 [0] [] ⟨rfl,⟨rfl,rfl,rfl,trivial⟩,trivial⟩ (by omega) ?_
 intro k hk
 have bd:=j0O s (k:Int)
 have c:=k0Z (a0r s (k:Int)) bd.1 bd.2
 by_cases hk2:k<e
 .rw [decide_eq_true (d1s hk2 ht)] at c
  repeat' ((conv=>whnf);first|(refine a0j (c) rfl rfl rfl ?_)|(refine a0m (c) rfl rfl rfl ?_)|((first|apply a0f|apply a0c|apply a0g|apply a0b|apply a0h|apply a0a)<;>intro h<;>try (exfalso;(try dsimp only at h);omega))|refine a0i ?_)
  all_goals (conv=>whnf)
  all_goals first
   |exact ⟨k+1,[0],[],by omega,by omega,⟨rfl,⟨rfl,rfl,congrArg (fun z=>some (SV.int .i64 z)) (a0M (by omega)),trivial⟩,trivial⟩⟩
   |(exfalso;omega)
 .have e1:k=e:=by omega
  subst e1
  by_cases hsz:k<s.size
  .rw [decide_eq_false (hx.resolve_left (by omega))] at c
   repeat' ((conv=>whnf);first|(refine a0j (c) rfl rfl rfl ?_)|(refine a0m (c) rfl rfl rfl ?_)|((first|apply a0f|apply a0c|apply a0g|apply a0b|apply a0h|apply a0a)<;>intro h<;>try (exfalso;(try dsimp only at h);omega))|refine a0i ?_)
   all_goals (conv=>whnf)
   all_goals first
    |exact a0o rfl
    |(exfalso;omega)
  .repeat' ((conv=>whnf);first|((first|apply a0f|apply a0c|apply a0g|apply a0b|apply a0h|apply a0a)<;>intro h<;>try (exfalso;(try dsimp only at h);omega))|refine a0i ?_)
   all_goals (conv=>whnf)
   all_goals first
    |exact a0o rfl
    |(exfalso;omega)
def nmB (s:ByteArray):Bool:=decide (1<=s.size)&&decide (s.size<=16)&&decide (ltP (a0r s 0))&&p0J s s.size
theorem f1R {s:ByteArray} (h:¬s=⟨#[]⟩):1<=s.size:=by
 rcases Nat.eq_zero_or_pos s.size with h0|h0
 .exfalso;apply h
  cases s with|mk d=>
  have:d= #[]:=Array.eq_empty_of_size_eq_zero h0
  rw [this]
 .exact h0
theorem q0u (s:ByteArray):s.extract 0 s.size=s:=by
 apply ByteArray.ext
 simp
theorem l0X (s:ByteArray):c0a Tryz.prog 67 [.str s] (.bool (nmB s)):=by
 unfold nmB
 by_cases h0:s=⟨#[]⟩
 .subst h0
  refine a0p mixed a0x Tryz.func67 rfl (by kernel_rfl) (by kernel_rfl) (by kernel_rfl) ?_
  repeat' ((conv=>whnf);first|((first|apply a0f|apply a0c|apply a0g|apply a0b|apply a0h|apply a0a)<;>intro h<;>try (exfalso;(try dsimp only at h);omega))|refine a0i ?_)
  all_goals (conv=>whnf)
  all_goals first
   |exact a0o rfl
   |(exfalso;exact h rfl)
 .have hz:=f1R h0
  by_cases h16:s.size<=16
  .have bd:=j0O s 0
   have c1:=k0d (a0r s 0) bd.1 bd.2
   rw [show (SV.int .i32 (a0r s 0))=SV.int .i32 (IntKind.i32.wrap (a0r s 0)) by rw [i32_in bd.1 bd.2]] at c1
   by_cases hl:ltP (a0r s 0)
   .rw [n0m.2 hl] at c1
    cases hw:p0J s s.size with
    |true=>
     have c2:=l0W s s.size (Nat.le_refl _) hw (.inl rfl) (by omega)
     rw [q0u] at c2
     rw [decide_eq_true hz,decide_eq_true h16,decide_eq_true hl]
     refine a0p mixed a0x Tryz.func67 rfl (by kernel_rfl) (by kernel_rfl) (by kernel_rfl) ?_
     repeat' ((conv=>whnf);first|(refine a0j (c1) rfl rfl rfl ?_)|(refine a0m (c1) rfl rfl rfl ?_)|(refine a0j (c2) rfl rfl rfl ?_)|(refine a0m (c2) rfl rfl rfl ?_)|((first|apply a0f|apply a0c|apply a0g|apply a0b|apply a0h|apply a0a)<;>intro h<;>try (exfalso;(try dsimp only at h);omega))|refine a0i ?_)
     all_goals (conv=>whnf)
     all_goals first
      |exact a0o rfl
      |(exfalso;exact h0 (by assumption))
      |(exfalso;omega)
      |exact a0o (congrArg SV.bool (decide_eq_true rfl))
    |false=>
     obtain ⟨k,k1,k2,k3⟩:=l0V _ hw
     have c2:=l0W s k (by omega) k2 (.inr k3) (by omega)
     have hsz:(s.extract 0 k).size=k:=by rw [ByteArray.size_extract];omega
     rw [decide_eq_true hz,decide_eq_true h16,decide_eq_true hl]
     refine a0p mixed a0x Tryz.func67 rfl (by kernel_rfl) (by kernel_rfl) (by kernel_rfl) ?_
     repeat' ((conv=>whnf);first|(refine a0j (c1) rfl rfl rfl ?_)|(refine a0m (c1) rfl rfl rfl ?_)|(refine a0j (c2) rfl rfl rfl ?_)|(refine a0m (c2) rfl rfl rfl ?_)|((first|apply a0f|apply a0c|apply a0g|apply a0b|apply a0h|apply a0a)<;>intro h<;>try (exfalso;(try dsimp only at h);omega))|refine a0i ?_)
     all_goals (conv=>whnf)
     all_goals first
      |exact a0o rfl
      |(exfalso;exact h0 (by assumption))
      |(exfalso;omega)
      |exact a0o (congrArg SV.bool (decide_eq_false (by rw [hsz];omega)))
   .have hne:k0Y (a0r s 0)≠2:=fun h=>hl (n0m.1 h)
    rw [decide_eq_false hl]
    generalize k0Y (a0r s 0)=x at c1 hne
    refine a0p mixed a0x Tryz.func67 rfl (by kernel_rfl) (by kernel_rfl) (by kernel_rfl) ?_
    repeat' ((conv=>whnf);first|(refine a0j (c1) rfl rfl rfl ?_)|(refine a0m (c1) rfl rfl rfl ?_)|((first|apply a0f|apply a0c|apply a0g|apply a0b|apply a0h|apply a0a)<;>intro h<;>try (exfalso;(try dsimp only at h);omega))|refine a0i ?_)
    all_goals (conv=>whnf)
    all_goals first
     |(exfalso;exact h0 (by assumption))
     |(exfalso;omega)
     |exact a0o (by rw [Bool.and_false];rfl)
  .rw [decide_eq_false h16]
   refine a0p mixed a0x Tryz.func67 rfl (by kernel_rfl) (by kernel_rfl) (by kernel_rfl) ?_
   repeat' ((conv=>whnf);first|((first|apply a0f|apply a0c|apply a0g|apply a0b|apply a0h|apply a0a)<;>intro h<;>try (exfalso;(try dsimp only at h);omega))|refine a0i ?_)
   all_goals (conv=>whnf)
   all_goals first
    |(exfalso;exact h0 (by assumption))
    |(exfalso;omega)
    |exact a0o (by rw [Bool.and_false];rfl)
end
section
structure Bop where
 k:Int
 t:Int
 id:ByteArray
 au:ByteArray
 is:ByteArray
 ac:ByteArray
 am:Int
 fe:Int
 fi:Bool
abbrev Bop.s (o:Bop):SV:= .agg [.int .i64 o.k,.int .i64 o.t,.str o.id,.str o.au,.str o.is,.str o.ac,.int .i64 o.am,.int .i64 o.fe,.bool o.fi]
def fiB (s:ByteArray) (u:Bool) (p:ByteArray->Bool):Bool:=match u with|true=>p s|false=>seq s ⟨#[]⟩
def n0R (k:Int):Bool:=decide (k=4\/k=5\/k=6)
def f1S (k:Int):Bool:=decide (k=1\/k=2\/k=3\/k=4\/k=7)
def pmB (k a:Int):Bool:=
 if k=3 then decide (0<=a/\a<=999999999999) else if k=6 then decide (-999999999999<=a/\a<=999999999999/\a≠0)
 else if k=8 then decide (0<=a/\a<=99999) else if k=7 then decide (a=0) else decide (1<=a/\a<=999999999999)
def bkN (o:Bop):Bool:=fiB o.id (n0R o.k) auI&&(fiB o.au (f1S o.k) auI&&(fiB o.is (n0R o.k) nmB&&fiB o.ac (n0R o.k) nmB))
def ckE (o:Bop):Int:=
 if o.k<1\/8<o.k then 4 else if o.t<0\/1099511627776<o.t then 14 else if bkN o=false then 5 else if pmB o.k o.am=false then 4
 else if o.fe<0\/(if o.k=4\/o.k=5 then o.am else 0)<o.fe then 4 else if o.fi=true/\o.k≠4 then 2 else if n0R o.k=true/\o.is=o.ac then 7 else 0
theorem i0L {k:Int} (h:¬(k<1\/8<k)):k=1\/k=2\/k=3\/k=4\/k=5\/k=6\/k=7\/k=8:=by omega
structure CkOk (o:Bop):Prop where
 k:1<=o.k/\o.k<=8
 t:0<=o.t/\o.t<=1099511627776
 n:bkN o=true
 a:pmB o.k o.am=true
 f:0<=o.fe/\o.fe<=(if o.k=4\/o.k=5 then o.am else 0)
 fi:o.fi=true->o.k=4
 d:n0R o.k=true->o.is≠o.ac
theorem z0R {o:Bop} (h:ckE o=0):CkOk o:=by
 unfold ckE at h
 by_cases h1:o.k<1\/8<o.k
 .rw [if_pos h1] at h;cases h
 rw [if_neg h1] at h
 by_cases h2:o.t<0\/1099511627776<o.t
 .rw [if_pos h2] at h;cases h
 rw [if_neg h2] at h
 by_cases h3:bkN o=false
 .rw [if_pos h3] at h;cases h
 rw [if_neg h3] at h
 by_cases h4:pmB o.k o.am=false
 .rw [if_pos h4] at h;cases h
 rw [if_neg h4] at h
 by_cases h5:o.fe<0\/(if o.k=4\/o.k=5 then o.am else 0)<o.fe
 .rw [if_pos h5] at h;cases h
 rw [if_neg h5] at h
 by_cases h6:o.fi=true/\o.k≠4
 .rw [if_pos h6] at h;cases h
 rw [if_neg h6] at h
 by_cases h7:n0R o.k=true/\o.is=o.ac
 .rw [if_pos h7] at h;cases h
 exact ⟨by omega,by omega,by simpa using h3,by simpa using h4,by omega,fun e=>Classical.byContradiction fun q=>h6 ⟨e,q⟩,fun e q=>h7 ⟨e,q⟩⟩
end
end Go.Proofs.YtmgnedokogidoaaGreatDoor
namespace Go.Sy
open Go.RowKit
theorem k0e {x:Nat} (h:x<18446744073709551616):y0P .u64 (x:Int) 4294967295=((x%4294967296:Nat):Int):=by
 have h1:(BitVec.ofInt 64 (x:Int)&&&BitVec.ofInt 64 4294967295).toNat=x%4294967296:=by
  rw [BitVec.toNat_and,BitVec.toNat_ofInt,BitVec.toNat_ofInt]
  rw [show ((x:Int)%((2^64:Nat):Int)).toNat=x by omega,show ((4294967295:Int)%((2^64:Nat):Int)).toNat=2^32-1 by decide,Nat.and_two_pow_sub_one_eq_mod]
 show IntKind.u64.wrap (((BitVec.ofInt 64 (x:Int)&&&BitVec.ofInt 64 4294967295).toNat:Nat):Int)=_
 rw [h1]
 exact j0Z (by omega) (by omega)
theorem o0Z (x:Nat):IntKind.u64.wrap (x:Int)=((x%18446744073709551616:Nat):Int):=by
 simp only [IntKind.wrap,IntKind.bits,IntKind.signed];simp
theorem z0S {x s:Nat} (h:s<=64):i0X .u64 (x:Int) (s:Int)=((x/2^s:Nat):Int):=by
 rw [f0w (k:= .u64) s h]
 simp
theorem f1T {x y x0 x1 y0 y1:Nat} (hx:x=x1*4294967296+x0) (hy:y=y1*4294967296+y0):x*y=(x1*y1)*18446744073709551616+(x1*y0)*4294967296+(x0*y1)*4294967296+x0*y0:=by
 subst hx;subst hy
 simp only [Nat.add_mul,Nat.mul_add]
 have e1:x1*4294967296*(y1*4294967296)=x1*y1*18446744073709551616:=by
  rw [Nat.mul_assoc,Nat.mul_left_comm 4294967296 y1,<-Nat.mul_assoc]
 have e2:x1*4294967296*y0=x1*y0*4294967296:=by rw [Nat.mul_assoc,Nat.mul_comm 4294967296,<-Nat.mul_assoc]
 have e3:x0*(y1*4294967296)=x0*y1*4294967296:=by rw [Nat.mul_assoc]
 omega
theorem s0j {a b:Nat} (ha:a<4294967296) (hb:b<4294967296):a*b<=18446744065119617025:=by
 have:=Nat.mul_le_mul (show a<=4294967295 by omega) (show b<=4294967295 by omega)
 omega
structure KD (u32 u1 Y1 Y0 Q:Nat):Prop where
 b1:u1<4294967296
 b0:Y0<4294967296
 n1:2147483648<=Y1
 n2:Y1<4294967296
 lt:u32<Y1*4294967296+Y0
 q:Q=(u32*4294967296+u1)/(Y1*4294967296+Y0)
section
variable {u32 u1 Y1 Y0 Q:Nat} (k:KD u32 u1 Y1 Y0 Q)
include k
theorem KD.le:Q<=u32/Y1:=by
 have h1:Q*(Y1*4294967296+Y0)<=u32*4294967296+u1:=by rw [k.q];exact Nat.div_mul_le_self _ _
 rw [Nat.le_div_iff_mul_le (by have:=k.n1;omega)]
 rw [Nat.mul_add,<-Nat.mul_assoc] at h1
 have:=k.b1
 have h2:0<=Q*Y0:=Nat.zero_le _
 omega
end
end Go.Sy
namespace Go.Proofs.YtmgnedokogidoaaGreatDoor
open Go.RowKit Go.Sy
section
attribute [local irreducible] a0B a0D a0u a0Y
theorem i1c {s:ByteArray} (h:f1O s 256 d0F=true) {x:Int} (h0:0<=x) (h1:x<256):a0r s x=(d0F x.toNat:Int):=by
 have:=n0l h (i:=x.toNat) (by omega)
 rw [<-this,Int.toNat_of_nonneg h0]
theorem t0X {u:Nat} (h:u<256):d0F u<=8:=by
 rcases Nat.lt_or_ge 8 (d0F u) with h1|h1
 .have hu:1<=u:=by
   rcases Nat.eq_zero_or_pos u with e|e
   .subst e;simp [d0F] at h1
   .exact e
  have a:=k0b u hu
  have:2^8<=2^(d0F u-1):=Nat.pow_le_pow_right (by omega) (by omega)
  omega
 .exact h1
theorem d1t {u c:Nat} {x:Int} (hx:x=((u/2^c:Nat):Int)) (h:c=0\/2^c<=u):(c:Int)+(d0F x.toNat:Int)=(d0F u:Int):=by
 subst hx
 rw [Int.toNat_natCast]
 rcases h with rfl|h
 .simp
 .rw [t0U u c h];omega
theorem d0N {u c:Nat} {x n:Int} (hn:n=(c:Int)) (hc:c<=56) (hx:x=((u/2^c:Nat):Int)) (h:c=0\/2^c<=u) (h1:x<256):IntKind.i64.wrap (n+IntKind.i64.wrap (d0F x.toNat:Int))=(d0F u:Int):=by
 have hb:=t0X (u:=x.toNat) (by omega)
 rw [a0G (n:=(d0F x.toNat:Int)) (by omega) (by omega),a0G (by omega) (by omega),hn]
 exact d1t hx h
theorem t0Y (u:Nat) (hu:u<18446744073709551616):c0a Tryz.prog 111 [.int .u64 u] (.int .i64 (d0F u)):=by
 refine a0p mixed a0x Tryz.func111 rfl (by kernel_rfl) (by kernel_rfl) (by kernel_rfl) ?_
 repeat' ((conv=>whnf);first|(refine a0q ⟨by (try simp only [g0Z,f0x,f0y,f0z] at*);(try simp (disch:=omega) only [a0S]);omega,k0X (n:=256) (by kernel_rfl) (by (try simp only [g0Z,f0x,f0y,f0z] at*);(try simp (disch:=omega) only [a0S]);omega)⟩ ?_)|((first|apply a0f|apply a0c|apply a0g|apply a0b|apply a0h|apply a0a)<;>intro h<;>try (exfalso;(try dsimp only at h);omega))|refine a0i ?_)
 all_goals (conv=>whnf)
 all_goals refine a0o ?_
 all_goals simp only [d0a]
 all_goals (try simp only [g0Z,f0x,f0y,f0z] at*)
 all_goals rw [i1c (by kernel_rfl) (by (try simp (disch:=omega) only [a0S]);omega) (by (try simp (disch:=omega) only [a0S]);omega)]
 all_goals refine congrArg (SV.int .i64) ?_
 .exact d0N (c:=56) (by first|rfl|((try simp (disch:=omega) only [a0S]);omega)) (by omega) (by (try simp (disch:=omega) only [a0S]);omega) (by omega) (by (try simp (disch:=omega) only [a0S]);omega)
 .exact d0N (c:=48) (by first|rfl|((try simp (disch:=omega) only [a0S]);omega)) (by omega) (by (try simp (disch:=omega) only [a0S]);omega) (by omega) (by (try simp (disch:=omega) only [a0S]);omega)
 .exact d0N (c:=40) (by first|rfl|((try simp (disch:=omega) only [a0S]);omega)) (by omega) (by (try simp (disch:=omega) only [a0S]);omega) (by omega) (by (try simp (disch:=omega) only [a0S]);omega)
 .exact d0N (c:=32) (by first|rfl|((try simp (disch:=omega) only [a0S]);omega)) (by omega) (by (try simp (disch:=omega) only [a0S]);omega) (by omega) (by (try simp (disch:=omega) only [a0S]);omega)
 .exact d0N (c:=24) (by first|rfl|((try simp (disch:=omega) only [a0S]);omega)) (by omega) (by (try simp (disch:=omega) only [a0S]);omega) (by omega) (by (try simp (disch:=omega) only [a0S]);omega)
 .exact d0N (c:=16) (by first|rfl|((try simp (disch:=omega) only [a0S]);omega)) (by omega) (by (try simp (disch:=omega) only [a0S]);omega) (by omega) (by (try simp (disch:=omega) only [a0S]);omega)
 .exact d0N (c:=8) (by first|rfl|((try simp (disch:=omega) only [a0S]);omega)) (by omega) (by (try simp (disch:=omega) only [a0S]);omega) (by omega) (by (try simp (disch:=omega) only [a0S]);omega)
 .exact d0N (c:=0) (by first|rfl|((try simp (disch:=omega) only [a0S]);omega)) (by omega) (by (try simp (disch:=omega) only [a0S]);omega) (by omega) (by (try simp (disch:=omega) only [a0S]);omega)
theorem l0a (n:Nat) (hn:n<=64):c0a Tryz.prog 110 [.int .i64 n] (.int .i64 (n*78913/262144:Nat)):=by
 refine a0p mixed a0x Tryz.func110 rfl (by kernel_rfl) (by kernel_rfl) (by kernel_rfl) ?_
 repeat' ((conv=>whnf);first|((first|apply a0f|apply a0c|apply a0g|apply a0b|apply a0h|apply a0a)<;>intro h<;>try (exfalso;(try dsimp only at h);omega))|refine a0i ?_)
 all_goals (conv=>whnf)
 all_goals refine a0o ?_
 all_goals simp only [d0a]
 all_goals (try simp (disch:=omega) only [a0S])
 all_goals rfl
theorem t0Z (b:Bool):c0a Tryz.prog 112 [.bool b] (.int .i64 (if b=true then 1 else 0)):=by
 refine a0p mixed a0x Tryz.func112 rfl (by kernel_rfl) (by kernel_rfl) (by kernel_rfl) ?_
 repeat' ((conv=>whnf);first|((first|apply a0f|apply a0c|apply a0g|apply a0b|apply a0h|apply a0a)<;>intro h<;>try (exfalso;(try dsimp only at h);omega))|refine a0i ?_)
 all_goals (conv=>whnf)
 all_goals exact a0o (by simp [d0a,h,cv])
end
section
attribute [local irreducible] a0B a0D a0u a0Y
end
section
attribute [local irreducible] a0B a0D a0u a0Y
theorem n0n (n:Int):c0a Tryz.prog 253 [.int .i64 n] (.bool (decide (-4503599627370496<=n/\n<=4503599627370496))):=by
 refine a0p mixed a0x Tryz.func253 rfl (by kernel_rfl) (by kernel_rfl) (by kernel_rfl) ?_
 repeat' ((conv=>whnf);first|((first|apply a0f|apply a0c|apply a0g|apply a0b|apply a0h|apply a0a)<;>intro h<;>try (exfalso;(try dsimp only at h);omega))|refine a0i ?_)
 all_goals (conv=>whnf)
 .exact a0o (congrArg SV.bool (by rw [decide_eq_decide];omega))
 .exact a0o (congrArg SV.bool (by rw [eq_comm,decide_eq_false_iff_not];omega))
def g0p (a:Int) (c:ByteArray):Int:=if f0W c=false then 11 else if-4503599627370496<=a/\a<=4503599627370496 then 0 else 4
theorem q0v (a:Int) (c:ByteArray):(g0p a c=11\/g0p a c=4)\/(g0p a c=0/\f0W c=true/\-4503599627370496<=a/\a<=4503599627370496):=by
 unfold g0p
 split
 .exact .inl (.inl rfl)
 .split
  .rename_i h1 h2
   exact .inr ⟨rfl,by cases h:f0W c<;>simp_all,h2⟩
  .exact .inl (.inr rfl)
attribute [irreducible] g0p
theorem k0f (a:Int) (c:ByteArray):c0a Tryz.prog 249 [.agg [.int .i64 a,.str c]] (.int .i64 (g0p a c)):=by
 refine a0p mixed a0x Tryz.func249 rfl (by kernel_rfl) (by kernel_rfl) (by kernel_rfl) ?_
 repeat' ((conv=>whnf);first|(refine a0j (i0A _) rfl rfl rfl ?_)|(refine a0j (n0n _) rfl rfl rfl ?_)|((first|apply a0f|apply a0c|apply a0g|apply a0b|apply a0h|apply a0a)<;>intro h<;>try (exfalso;(try dsimp only at h);omega))|refine a0i ?_)
 all_goals (conv=>whnf)
 all_goals refine a0o (congrArg (SV.int .i64) ?_)
 all_goals unfold g0p
 all_goals simp_all
end
section
attribute [local irreducible] a0B a0D a0u a0Y
end
section
attribute [local irreducible] a0B a0D a0u a0Y
end
section
attribute [local irreducible] a0B a0D a0u a0Y
end
section
attribute [local irreducible] a0B a0D a0u a0Y
theorem f0d (k:Nat):(k:Int).toNat+0=k:=rfl
end
end Go.Proofs.YtmgnedokogidoaaGreatDoor
namespace Go.Sy
open Go.RowKit
theorem l0Y (s:ByteArray):s.toList=ofB s:=by
 exact (by simpa using ByteArray.toList_eq s:s.toList=s.data.toList)
theorem n0o (a b:ByteArray):d0Y a b=decide (ofB a<ofB b):=by
 unfold d0Y
 rw [l0Y,l0Y,Go.Proofs.bytesLess_eq]
theorem d1u {a b:ByteArray} (h:ofB a=ofB b):a=b:=by rw [<-v0X a,<-v0X b,h]
theorem p0a (a:ByteArray):d0Y a a=false:=by rw [n0o];exact decide_eq_false (List.lt_irrefl _)
theorem q0w {a b:ByteArray} (h:d0Y a b=true):d0Y b a=false:=by
 rw [n0o] at h⊢
 exact decide_eq_false (List.lt_asymm (of_decide_eq_true h))
theorem l0b {l:List ByteArray} (hd:l.Nodup):(sortS l).Pairwise (fun a b=>d0Y a b=true):=by
 have tr:∀a b c:List UInt8,leB a b=true->leB b c=true->leB a c=true:=fun a b c h1 h2=>by simp only [leB,decide_eq_true_eq] at*;exact List.le_trans h1 h2
 have tot:∀a b:List UInt8,(leB a b||leB b a)=true:=fun a b=>by simp only [leB,Bool.or_eq_true,decide_eq_true_eq];exact List.le_total a b
 have h1:=List.pairwise_mergeSort tr tot (l.map ofB)
 have hd2:(sortS l).Nodup:=(h0K l).symm.nodup hd
 have h2:(sortS l).Pairwise (fun a b=>leB (ofB a) (ofB b)=true):=by
  unfold sortS
  rw [List.pairwise_map]
  exact h1
 refine (List.Pairwise.and h2 hd2).imp ?_
 rintro a b ⟨h3,h4⟩
 rw [n0o]
 simp only [leB,decide_eq_true_eq] at h3
 rcases List.le_iff_lt_or_eq.1 h3 with h5|h5
 .exact decide_eq_true h5
 .exact absurd (d1u h5) h4
theorem s0k {l m:List ByteArray} (hp:m.Perm l) (hm:m.Pairwise (fun a b=>d0Y a b=true)):sortS l=m:=by
 have hdm:m.Nodup:=hm.imp (fun {a b} h e=>by subst e;rw [p0a] at h;cases h)
 refine List.Perm.eq_of_pairwise (le:=fun a b=>d0Y a b=true) (fun a b _ _ h1 h2=> ?_) (l0b (hp.nodup hdm)) hm ((h0K l).trans hp.symm)
 rw [q0w h1] at h2;cases h2
end Go.Sy
namespace Go.Proofs.YtmgnedokogidoaaGreatDoor
open Go.RowKit Go.Sy
section
attribute [local irreducible] a0B a0D a0u a0Y
def idI (ps:List ByteArray) (s:ByteArray) (n:Nat):Int:=if a0A ps s<n then (a0A ps s:Int) else-1
theorem sidx_le (s:ByteArray):∀l:List ByteArray,a0A l s<=l.length
 | []=>Nat.le_refl _
 |x::l=>by
  have:=sidx_le s l
  simp only [a0A,List.length_cons]
  cases seq x s<;>simp only [cond_true,cond_false]<;>omega
theorem b1P {a b:ByteArray}:seq a b=true↔a=b:=by unfold seq;exact decide_eq_true_iff
theorem w0q {s:ByteArray}:∀(l:List ByteArray) (j:Nat),j<a0A l s->¬l.getD j ⟨#[]⟩=s
 | [],j,h=>by simp [a0A] at h
 |x::l,j,h=>by
  simp only [a0A] at h
  cases hx:seq x s with
  |true=>rw [hx] at h;simp at h
  |false=>
   rw [hx] at h
   simp only [cond_false] at h
   cases j with
   |zero=>intro e;rw [b1P.2 (show x=s from e)] at hx;cases hx
   |succ j=>exact w0q l j (by omega)
theorem q0x {s:ByteArray}:∀(l:List ByteArray),a0A l s<l.length->l.getD (a0A l s) ⟨#[]⟩=s
 | [],h=>by simp [a0A] at h
 |x::l,h=>by
  simp only [a0A] at h⊢
  cases hx:seq x s with
  |true=>exact b1P.1 hx
  |false=>
   rw [hx] at h
   simp only [cond_false,List.length_cons] at h⊢
   exact q0x l (by omega)
theorem m0G {s:ByteArray} {l:List ByteArray} {k:Nat} (hk:k<l.length) (h:l.getD k ⟨#[]⟩=s) (hlo:∀j,j<k->¬l.getD j ⟨#[]⟩=s):a0A l s=k:=by
 rcases Nat.lt_trichotomy (a0A l s) k with q|q|q
 .exact absurd (q0x l (by omega)) (hlo _ q)
 .exact q
 .exact absurd h (w0q l k q)
theorem k0g (n:Nat) (ps:List ByteArray) (s:ByteArray) (hl:ps.length=n) (hn:n<=100000):FC Tryz.prog 2 104 [.sl 1 0 0 n,.str s] [(1,some (.one true (.cols n [.sc (.strs ps)])))] (a0s (.int .i64 (idI ps s n)) [] 2):=by
 refine a0p mixed a0x Tryz.func104 rfl (by kernel_rfl) (by kernel_rfl) (by kernel_rfl) ?_
 repeat' ((conv=>whnf);first|((first|apply a0f|apply a0c|apply a0g|apply a0b|apply a0h|apply a0a)<;>intro h<;>try (exfalso;(try dsimp only at h);omega))|refine a0i ?_)
 all_goals (conv=>whnf)
 refine f0r (fun k:Nat=>⟨[(0,.sl 1 0 0 n),(1,.str s),(6,.sl 1 0 0 n),(7,.int .i64 n),(8,.int .i64 k)],[(1,some (.one true (.cols n [.sc (.strs ps)])))],2⟩) (fun k=>k<=n/\∀j,j<k->¬ps.getD j ⟨#[]⟩=s) (fun k=>n-k) 0 [0,1] [] ⟨rfl,⟨rfl,rfl,rfl,rfl,rfl,trivial⟩,⟨rfl,trivial⟩⟩ ⟨Nat.zero_le _,fun j hj=>by omega⟩ ?_
 rintro k ⟨hk,hlo⟩
 by_cases hk2:k<n
 .by_cases q:ps.getD k ⟨#[]⟩=s
  .have hi:idI ps s n=(k:Int):=by
    have e:=m0G (by omega) q hlo
    unfold idI;rw [e,if_pos hk2]
   rw [hi]
   repeat' ((conv=>whnf);first|((first|apply a0f|apply a0c|apply a0g|apply a0b|apply a0h|apply a0a)<;>intro h<;>try (exfalso;(try dsimp only at h);omega))|refine a0i ?_)
   all_goals (conv=>whnf)
   all_goals (try simp only [f0d] at*)
   all_goals first
    |exact a0n (l:= [0,1]) rfl rfl trivial a0k
    |(exfalso;first|omega|contradiction|exact absurd q.symm (by assumption))
    |trace_state
  .have hnx:∀j,j<k+1->¬ps.getD j ⟨#[]⟩=s:=fun j hj=>by
    by_cases e:j=k
    .subst e;exact q
    .exact hlo j (by omega)
   repeat' ((conv=>whnf);first|((first|apply a0f|apply a0c|apply a0g|apply a0b|apply a0h|apply a0a)<;>intro h<;>try (exfalso;(try dsimp only at h);omega))|refine a0i ?_)
   all_goals (conv=>whnf)
   all_goals (try simp only [f0d] at*)
   all_goals first
    |exact ⟨k+1,[0,1],[],⟨hk2,hnx⟩,(show n-(k+1)<n-k by omega),⟨rfl,⟨rfl,rfl,rfl,rfl,congrArg (fun z=>some (SV.int .i64 z)) (a0M (by omega)),trivial⟩,⟨rfl,trivial⟩⟩⟩
    |(exfalso;first|omega|contradiction|exact q ((by assumption:s=_).symm))
    |trace_state
 .have e:k=n:=by omega
  subst e
  have hi:idI ps s k= -1:=by
   unfold idI
   rw [if_neg]
   intro q
   exact hlo _ q (q0x ps (by omega))
  rw [hi]
  repeat' ((conv=>whnf);first|((first|apply a0f|apply a0c|apply a0g|apply a0b|apply a0h|apply a0a)<;>intro h<;>try (exfalso;(try dsimp only at h);omega))|refine a0i ?_)
  all_goals (conv=>whnf)
  all_goals first
   |exact a0n (l:= [0,1]) rfl rfl trivial a0k
   |(exfalso;omega)
   |trace_state
theorem p0b (n:Nat) (ps:List ByteArray) (s:ByteArray) (hl:ps.length=n) (hn:n<=100000):FC Tryz.prog 2 87 [.sl 1 0 0 n,.str s] [(1,some (.one true (.cols n [.sc (.strs ps)])))] (a0s (.bool (decide (0<=idI ps s n))) [] 2):=by
 have c:=k0g n ps s hl hn
 refine a0p mixed a0x Tryz.func87 rfl (by kernel_rfl) (by kernel_rfl) (by kernel_rfl) ?_
 repeat' ((conv=>whnf);first|refine a0e (l:= [0,1]) (c) ?_|((first|apply a0f|apply a0c|apply a0g|apply a0b|apply a0h|apply a0a)<;>intro h<;>try (exfalso;(try dsimp only at h);omega))|refine a0i ?_)
 all_goals (conv=>whnf)
 all_goals exact a0n (l:= [0,1]) rfl rfl trivial a0k
theorem f0a {P:Program} {f:FuncId} {fn:Func} (h:P.funcs[f]?=some fn) (hb:fn.body.isSome=true) (hn:(fn.name=="runtime.NumGoroutine")=false):d0r P f:=by
 obtain ⟨c,hc⟩:=Option.isSome_iff_exists.1 hb
 exact ⟨fn,c,h,hc,hn⟩
theorem z0T (n:Nat) (l:List ByteArray) (hn:n<4611686018427387904):FC Tryz.prog 2 88 [.sl 1 0 0 n] [(1,some (.one false (.cols n [.sc (.strs l)])))] (a0s (.tup []) [(1,some (.one false (.cols n [.sc (.strs (sortS l))])))] 2):=
 z0D ⟨fun blk off cap ss W hH hblk hsz=>AnyM.slices_Sort_string Tryz.sortS blk off cap ss W hH hblk hsz,fun p cap W=>AnyM.slices_Sort_string_none Tryz.sortS p cap W⟩ (f0a Tryz.func88 (by kernel_rfl) (by kernel_rfl)) n l hn
structure Bk where
 n:Nat
 ps:List ByteArray
 m:Nat
 cs:List ByteArray
 vs:List (List Int)
 bs:List Nat
 ck:Nat
abbrev bkM (ro:Bool) (b:Bk):Option HB:=some (.one ro (.obj (.map false false b.m [.strs b.cs] [.arrs 16 .i64 b.vs] b.bs b.ck)))
abbrev bkP (ro:Bool) (b:Bk):Option HB:=some (.one ro (.cols b.n [.sc (.strs b.ps)]))
abbrev bkC (ro:Bool) (hp hm n:Nat):Option HB:=some (.one ro (.cells [.sl hp 0 0 n,.map hm 0]))
def nwE (ps:List ByteArray) (k:Nat):Int:=if nmB (ps.getD k ⟨#[]⟩)=false then 5 else if 0<=idI (ps.take k) (ps.getD k ⟨#[]⟩) k then 7 else 0
def nwK (ps:List ByteArray):Nat->Int
 |0=>0
 |k+1=>if nwK ps k≠0 then nwK ps k else nwE ps k
theorem s0l {ps:List ByteArray} {k:Nat} (h0:nwK ps k=0) (h1:nwE ps k≠0):∀n,k<n->nwK ps n=nwE ps k
 |0,h=>by omega
 |n+1,h=>by
  simp only [nwK]
  by_cases e:k=n
  .subst e;rw [if_neg (by omega)]
  .rw [s0l h0 h1 n (by omega),if_pos h1]
def f0L (ps:List ByteArray):Int:=if 16<ps.length then 3 else nwK ps ps.length
def nwB (ps:List ByteArray):Bk:=⟨ps.length,sortS ps,0,[],[],[],0⟩
def u0a (ps:List ByteArray):SV->a0v->Nat->Prop:=if f0L ps≠0 then a0s (.tup [.nptr,.int .i64 (f0L ps)]) [] 2 else a0s (.tup [.ptr 2 0 0 0,.int .i64 0]) [(2,bkC false 3 4 ps.length),(3,bkP false (nwB ps)),(4,bkM false (nwB ps))] 5
theorem p0c {ps:List ByteArray} {k:Nat} (hk:k<ps.length):ps.take (k+1)=ps.take k++ [ps.getD k ⟨#[]⟩]:=by
 rw [List.take_succ_eq_append_getElem hk,List.getD,List.getElem?_eq_getElem hk];rfl
theorem d1v (ps:List ByteArray) (n:Nat) (hl:ps.length=n) (hn:n<=100000):FC Tryz.prog 2 62 [.sl 1 0 0 n] [(1,some (.one true (.cols n [.sc (.strs ps)])))] (u0a ps):=by
 unfold u0a f0L
 by_cases h16:16<n
 .rw [hl,if_pos h16,if_pos (by decide)]
  refine a0p mixed a0x Tryz.func62 rfl (by kernel_rfl) (by kernel_rfl) (by kernel_rfl) ?_
  repeat' ((conv=>whnf);first|((first|apply a0f|apply a0c|apply a0g|apply a0b|apply a0h|apply a0a)<;>intro h<;>try (exfalso;(try dsimp only at h);omega))|refine a0i ?_)
  all_goals (conv=>whnf)
  all_goals first
   |exact a0n (l:= [0,1]) rfl rfl trivial a0k
   |(exfalso;omega)
   |trace_state
 rw [hl,if_neg h16]
 refine a0p mixed a0x Tryz.func62 rfl (by kernel_rfl) (by kernel_rfl) (by kernel_rfl) ?_
 repeat' ((conv=>whnf);first|((first|apply a0f|apply a0c|apply a0g|apply a0b|apply a0h|apply a0a)<;>intro h<;>try (exfalso;(try dsimp only at h);omega))|refine a0i ?_)
 all_goals (conv=>whnf)
 refine f0r (fun k:Nat=>⟨[(4,.ptr 2 0 0 0),(13,.sl 1 0 0 n),(14,.int .i64 n),(15,.int .i64 k)],[(1,some (.one true (.cols n [.sc (.strs ps)]))),(2,bkC false 3 4 k),(3,some (.one false (.cols k [.sc (.strs (ps.take k))]))),(4,bkM false (nwB ps))],5⟩) (fun k=>k<=n/\nwK ps k=0) (fun k=>n-k) 0 [0,1,3,4,2] [.cell 3 0 [.sc (.strs [])]] ⟨rfl,⟨rfl,rfl,rfl,rfl,trivial⟩,⟨rfl,rfl,rfl,rfl,trivial⟩⟩ ⟨Nat.zero_le _,rfl⟩ ?_
 rintro k ⟨hk,h0⟩
 by_cases hk2:k<n
 .have c1:=l0X (ps.getD k ⟨#[]⟩)
  have c2:=p0b k (ps.take k) (ps.getD k ⟨#[]⟩) (by rw [List.length_take];omega) (by omega)
  have hE:nwE ps k=if nmB (ps.getD k ⟨#[]⟩)=false then 5 else if 0<=idI (ps.take k) (ps.getD k ⟨#[]⟩) k then 7 else 0:=rfl
  have hst:=fun h=>s0l h0 h n hk2
  have hs0:nwE ps k=0->nwK ps (k+1)=0:=fun h=>by simp only [nwK];rw [if_neg (by omega)];exact h
  have htk:=p0c (ps:=ps) (k:=k) (by omega)
  cases hnm:nmB (ps.getD k ⟨#[]⟩) with
  |false=>
   rw [hnm] at c1
   rw [hnm,if_pos rfl] at hE
   rw [hst (by omega),hE,if_pos (by decide)]
   repeat' ((conv=>whnf);first|(refine a0j (c1) rfl rfl rfl ?_)|refine a0e (l:= [0,3]) (c2) ?_|((first|apply a0f|apply a0c|apply a0g|apply a0b|apply a0h|apply a0a)<;>intro h<;>try (exfalso;(try dsimp only at h);omega))|refine a0i ?_)
   all_goals (conv=>whnf)
   all_goals first
    |exact a0n (l:= [0,1]) rfl rfl trivial a0k
    |(exfalso;omega)
    |trace_state
  |true=>
   rw [hnm] at c1
   rw [hnm,if_neg (by simp)] at hE
   by_cases hin:0<=idI (ps.take k) (ps.getD k ⟨#[]⟩) k
   .rw [if_pos hin] at hE
    rw [decide_eq_true hin] at c2
    rw [hst (by omega),hE,if_pos (by decide)]
    repeat' ((conv=>whnf);first|(refine a0j (c1) rfl rfl rfl ?_)|refine a0e (l:= [0,3]) (c2) ?_|((first|apply a0f|apply a0c|apply a0g|apply a0b|apply a0h|apply a0a)<;>intro h<;>try (exfalso;(try dsimp only at h);omega))|refine a0i ?_)
    all_goals (conv=>whnf)
    all_goals first
     |exact a0n (l:= [0,1]) rfl rfl trivial a0k
     |(exfalso;omega)
     |trace_state
   .rw [if_neg hin] at hE
    rw [decide_eq_false hin] at c2
    have hr:(some (HB.one false (.cols (k+1) [.sc (.strs (ps.take k++ [ps.getD k ⟨#[]⟩]))])):Option HB)=some (.one false (.cols (k+1) [.sc (.strs (ps.take (k+1)))])):=by rw [htk]
    repeat' ((conv=>whnf);first|(refine a0j (c1) rfl rfl rfl ?_)|refine a0e (l:= [0,3]) (c2) ?_|((first|apply a0f|apply a0c|apply a0g|apply a0b|apply a0h|apply a0a)<;>intro h<;>try (exfalso;(try dsimp only at h);omega))|refine a0i ?_)
    all_goals (conv=>whnf)
    all_goals first
     |exact ⟨k+1,[0,1,2,6,4],[],⟨hk2,hs0 hE⟩,(show n-(k+1)<n-k by omega),⟨rfl,⟨rfl,rfl,rfl,congrArg (fun z=>some (SV.int .i64 z)) (a0M (by omega)),trivial⟩,⟨rfl,rfl,hr,rfl,trivial⟩⟩⟩
     |(exfalso;omega)
     |trace_state
 .have e:k=n:=by omega
  subst e
  have eT:ps.take k=ps:=by rw [<-hl,List.take_length]
  rw [eT,if_neg (by omega)]
  have c3:=z0T k ps (by omega)
  repeat' ((conv=>whnf);first|refine a0e (l:= [0,3]) (c3) ?_|((first|apply a0f|apply a0c|apply a0g|apply a0b|apply a0h|apply a0a)<;>intro h<;>try (exfalso;(try dsimp only at h);omega))|refine a0i ?_)
  all_goals (conv=>whnf)
  all_goals first
   |exact a0n (l:= [0,1,2,3,4]) rfl rfl ⟨rfl,by rw [<-hl];rfl,rfl,trivial⟩ (a0d (a0d (a0d a0k)))
   |(exfalso;omega)
   |trace_state
end
section
attribute [local irreducible] a0B a0D a0u a0Y
abbrev z16:List Int:=List.replicate 16 0
abbrev Bk.ix (b:Bk) (c:ByteArray):Nat:=a0A b.cs c
abbrev Bk.row (b:Bk) (c:ByteArray):List Int:=b.vs.getD (a0A b.cs c) z16
abbrev bkH (b:Bk):a0v:= [(1,bkC true 2 3 b.n),(2,bkP true b),(3,bkM false b)]
abbrev bkR (b:Bk):a0v:= [(1,bkC true 2 3 b.n),(2,bkP true b),(3,bkM true b)]
def Bk.put (b:Bk) (c:ByteArray) (r:List Int):Bk:=
 ⟨b.n,b.ps,if a0A b.cs c<b.m then b.m else b.m+1,b0j (a0A b.cs c) c b.cs,b0j (a0A b.cs c) r b.vs,if a0A b.cs c<b.m then b.bs else b.bs++ [b.ck],if a0A b.cs c<b.m then b.ck else b.ck+1⟩
def Bk.del (b:Bk) (c:ByteArray):Bk:=
 ⟨b.n,b.ps,if a0A b.cs c<b.m then b.m-1 else b.m,b.cs.eraseIdx (a0A b.cs c),b.vs.eraseIdx (a0A b.cs c),b.bs.eraseIdx (a0A b.cs c),b.ck⟩
structure Bk.Ok (b:Bk):Prop where
 n:b.n<=16
 ps:b.ps.length=b.n
 len:∀i,(b.vs.getD i z16).length=16
 bd:∀i j,-4503599627370496<=(b.vs.getD i z16).getD j 0/\(b.vs.getD i z16).getD j 0<=4503599627370496
def u0X (x:Int):Bool:=decide (-4503599627370496<=x)&&decide (x<=4503599627370496)
theorem s0m {x:Int}:u0X x=true↔-4503599627370496<=x/\x<=4503599627370496:=by unfold u0X;simp
theorem f1U {x:Int}:u0X x=false↔¬(-4503599627370496<=x/\x<=4503599627370496):=by rw [<-s0m];simp
theorem d0n (x:Int):c0a Tryz.prog 250 [.int .i64 x] (.bool (u0X x)):=by
 by_cases h: -4503599627370496<=x/\x<=4503599627370496
 .rw [s0m.2 h]
  refine a0p mixed a0x Tryz.func250 rfl (by kernel_rfl) (by kernel_rfl) (by kernel_rfl) ?_
  repeat' ((conv=>whnf);first|((first|apply a0f|apply a0c|apply a0g|apply a0b|apply a0h|apply a0a)<;>intro h<;>try (exfalso;(try dsimp only at h);omega))|refine a0i ?_)
  all_goals (conv=>whnf)
  all_goals first
   |exact a0o rfl
   |(refine a0o (congrArg SV.bool ?_);simp;omega)
   |(exfalso;omega)
   |trace_state
 .rw [f1U.2 h]
  refine a0p mixed a0x Tryz.func250 rfl (by kernel_rfl) (by kernel_rfl) (by kernel_rfl) ?_
  repeat' ((conv=>whnf);first|((first|apply a0f|apply a0c|apply a0g|apply a0b|apply a0h|apply a0a)<;>intro h<;>try (exfalso;(try dsimp only at h);omega))|refine a0i ?_)
  all_goals (conv=>whnf)
  all_goals first
   |exact a0o rfl
   |(refine a0o (congrArg SV.bool ?_);simp;omega)
   |(exfalso;omega)
   |trace_state
abbrev h0f (r:List Int) (F T:Nat) (a:Int):List Int:=(r.set F (r.getD F 0-a)).set T (r.getD T 0+a)
def mvE (b:Bk) (f t c:ByteArray) (a:Int):Int:=
 if idI b.ps f b.n<0\/idI b.ps t b.n<0 then 6
 else if idI b.ps f b.n=idI b.ps t b.n then 4
 else if g0p a c≠0 then g0p a c
 else if a<0 then 4
 else if u0X ((b.row c).getD (a0A b.ps f) 0-a)=true/\u0X ((b.row c).getD (a0A b.ps t) 0+a)=true then 0 else 4
def Bk.mv1 (b:Bk) (c:ByteArray) (r:List Int):Bk:=if r=z16 then (b.put c r).del c else b.put c r
def Bk.mv (b:Bk) (f t c:ByteArray) (a:Int):Bk:=if mvE b f t c a=0 then b.mv1 c (h0f (b.row c) (a0A b.ps f) (a0A b.ps t) a) else b
theorem k0h {b:Bk} {f t c:ByteArray} {a:Int} (h:mvE b f t c a≠0):b.mv f t c a=b:=if_neg h
theorem l0Z {ps:List ByteArray} {s:ByteArray} {n:Nat} (h:a0A ps s<n):idI ps s n=(a0A ps s:Int):=if_pos h
theorem k0i {ps:List ByteArray} {s:ByteArray} {n:Nat} (h:¬a0A ps s<n):idI ps s n= -1:=if_neg h
theorem z0U (b:Bk) (hb:b.Ok) (f t c:ByteArray) (a:Int):FC Tryz.prog 4 244 [.ptr 1 0 0 0,.str f,.str t,.agg [.int .i64 a,.str c]] (bkH b) (a0s (.int .i64 (mvE b f t c a)) [(3,bkM false (b.mv f t c a))] 4):=by
 have hn:=hb.n
 have c1:=k0g b.n b.ps f hb.ps (by omega)
 have c2:=k0g b.n b.ps t hb.ps (by omega)
 have c3:=k0f a c
 by_cases h1:a0A b.ps f<b.n
 case neg=>
  have e:mvE b f t c a=6:=by unfold mvE;rw [k0i h1,if_pos (Or.inl (by decide))]
  rw [k0h (by rw [e];decide),e]
  rw [k0i h1] at c1
  refine a0p mixed a0x Tryz.func244 rfl (by kernel_rfl) (by kernel_rfl) (by kernel_rfl) ?_
  repeat' ((conv=>whnf);first|refine a0e (l:= [0,2]) (c1) ?_|refine a0e (l:= [0,2]) (c2) ?_|refine a0l (l:= [0,2]) (c1) ?_|refine a0l (l:= [0,2]) (c2) ?_|((first|apply a0f|apply a0c|apply a0g|apply a0b|apply a0h|apply a0a)<;>intro h<;>try (exfalso;(try dsimp only at h);omega))|refine a0i ?_)
  all_goals (conv=>whnf)
  all_goals first
   |exact a0n (l:= [0,1,2,3]) rfl rfl ⟨rfl,trivial⟩ (a0d a0k)
   |(exfalso;omega)
   |trace_state
 by_cases h2:a0A b.ps t<b.n
 case neg=>
  have e:mvE b f t c a=6:=by unfold mvE;rw [k0i h2,if_pos (Or.inr (by decide))]
  rw [k0h (by rw [e];decide),e]
  rw [k0i h2] at c2
  refine a0p mixed a0x Tryz.func244 rfl (by kernel_rfl) (by kernel_rfl) (by kernel_rfl) ?_
  repeat' ((conv=>whnf);first|refine a0e (l:= [0,2]) (c1) ?_|refine a0e (l:= [0,2]) (c2) ?_|refine a0l (l:= [0,2]) (c1) ?_|refine a0l (l:= [0,2]) (c2) ?_|((first|apply a0f|apply a0c|apply a0g|apply a0b|apply a0h|apply a0a)<;>intro h<;>try (exfalso;(try dsimp only at h);omega))|refine a0i ?_)
  all_goals (conv=>whnf)
  all_goals first
   |exact a0n (l:= [0,1,2,3]) rfl rfl ⟨rfl,trivial⟩ (a0d a0k)
   |(exfalso;omega)
   |trace_state
 have e0:mvE b f t c a=if a0A b.ps f=a0A b.ps t then 4 else if g0p a c≠0 then g0p a c else if a<0 then 4 else if u0X ((b.row c).getD (a0A b.ps f) 0-a)=true/\u0X ((b.row c).getD (a0A b.ps t) 0+a)=true then 0 else 4:=by
  unfold mvE
  rw [l0Z h1,l0Z h2,if_neg (by omega)]
  by_cases q:a0A b.ps f=a0A b.ps t
  .rw [if_pos q,if_pos (by omega)]
  .rw [if_neg q,if_neg (by omega)]
 rw [l0Z h1] at c1
 rw [l0Z h2] at c2
 by_cases h3:a0A b.ps f=a0A b.ps t
 .rw [if_pos h3] at e0
  rw [k0h (by rw [e0];decide),e0]
  refine a0p mixed a0x Tryz.func244 rfl (by kernel_rfl) (by kernel_rfl) (by kernel_rfl) ?_
  repeat' ((conv=>whnf);first|refine a0e (l:= [0,2]) (c1) ?_|refine a0e (l:= [0,2]) (c2) ?_|refine a0l (l:= [0,2]) (c1) ?_|refine a0l (l:= [0,2]) (c2) ?_|((first|apply a0f|apply a0c|apply a0g|apply a0b|apply a0h|apply a0a)<;>intro h<;>try (exfalso;(try dsimp only at h);omega))|refine a0i ?_)
  all_goals (conv=>whnf)
  all_goals first
   |exact a0n (l:= [0,1,2,3]) rfl rfl ⟨rfl,trivial⟩ (a0d a0k)
   |(exfalso;omega)
   |trace_state
 rw [if_neg h3] at e0
 by_cases h4:g0p a c=0
 case neg=>
  rw [if_pos h4] at e0
  rw [k0h (by rw [e0];exact h4),e0]
  refine a0p mixed a0x Tryz.func244 rfl (by kernel_rfl) (by kernel_rfl) (by kernel_rfl) ?_
  repeat' ((conv=>whnf);first|refine a0e (l:= [0,2]) (c1) ?_|refine a0e (l:= [0,2]) (c2) ?_|refine a0l (l:= [0,2]) (c1) ?_|refine a0l (l:= [0,2]) (c2) ?_|(refine a0j (c3) rfl rfl rfl ?_)|((first|apply a0f|apply a0c|apply a0g|apply a0b|apply a0h|apply a0a)<;>intro h<;>try (exfalso;(try dsimp only at h);omega))|refine a0i ?_)
  all_goals (conv=>whnf)
  all_goals first
   |exact a0n (l:= [0,1,2,3]) rfl rfl ⟨rfl,trivial⟩ (a0d a0k)
   |(exfalso;omega)
   |trace_state
 rw [if_neg (by simpa using h4)] at e0
 rw [h4] at c3
 have ham:=q0v a c
 rw [h4] at ham
 have hlen:=hb.len (a0A b.cs c)
 have hbd:=hb.bd (a0A b.cs c)
 have hF: -4503599627370496<=(b.row c).getD (a0A b.ps f) 0/\(b.row c).getD (a0A b.ps f) 0<=4503599627370496:=hbd (a0A b.ps f)
 have hT: -4503599627370496<=(b.row c).getD (a0A b.ps t) 0/\(b.row c).getD (a0A b.ps t) 0<=4503599627370496:=hbd (a0A b.ps t)
 by_cases h5:a<0
 .rw [if_pos h5] at e0
  rw [k0h (by rw [e0];decide),e0]
  refine a0p mixed a0x Tryz.func244 rfl (by kernel_rfl) (by kernel_rfl) (by kernel_rfl) ?_
  repeat' ((conv=>whnf);first|refine a0e (l:= [0,2]) (c1) ?_|refine a0e (l:= [0,2]) (c2) ?_|refine a0l (l:= [0,2]) (c1) ?_|refine a0l (l:= [0,2]) (c2) ?_|(refine a0j (c3) rfl rfl rfl ?_)|((first|apply a0f|apply a0c|apply a0g|apply a0b|apply a0h|apply a0a)<;>intro h<;>try (exfalso;(try dsimp only at h);omega))|refine a0i ?_)
  all_goals (conv=>whnf)
  all_goals first
   |exact a0n (l:= [0,1,2,3]) rfl rfl ⟨rfl,trivial⟩ (a0d a0k)
   |(exfalso;omega)
   |trace_state
 rw [if_neg h5] at e0
 have g1:IntKind.i64.wrap ((b.row c).getD (a0A b.ps f) 0-a)=(b.row c).getD (a0A b.ps f) 0-a:=a0G (by omega) (by omega)
 have g2:((b.row c).set (a0A b.ps f) ((b.row c).getD (a0A b.ps f) 0-a)).getD (a0A b.ps t) 0=(b.row c).getD (a0A b.ps t) 0:=by
  rw [List.getD,List.getElem?_set_ne h3];rfl
 have g3:IntKind.i64.wrap ((b.row c).getD (a0A b.ps t) 0+a)=(b.row c).getD (a0A b.ps t) 0+a:=a0G (by omega) (by omega)
 have g4:(h0f (b.row c) (a0A b.ps f) (a0A b.ps t) a).getD (a0A b.ps f) 0=(b.row c).getD (a0A b.ps f) 0-a:=by
  unfold h0f
  rw [List.getD,List.getElem?_set_ne (fun e=>h3 e.symm),List.getElem?_set_self (by rw [hlen];omega)];rfl
 have g5:(h0f (b.row c) (a0A b.ps f) (a0A b.ps t) a).getD (a0A b.ps t) 0=(b.row c).getD (a0A b.ps t) 0+a:=by
  unfold h0f
  rw [List.getD,List.getElem?_set_self (by rw [List.length_set,hlen];omega)];rfl
 by_cases h6:u0X ((b.row c).getD (a0A b.ps f) 0-a)=true/\u0X ((b.row c).getD (a0A b.ps t) 0+a)=true
 case neg=>
  rw [if_neg h6] at e0
  rw [k0h (by rw [e0];decide),e0]
  refine a0p mixed a0x Tryz.func244 rfl (by kernel_rfl) (by kernel_rfl) (by kernel_rfl) ?_
  repeat' ((conv=>whnf);first|refine a0e (l:= [0,2]) (c1) ?_|refine a0e (l:= [0,2]) (c2) ?_|refine a0l (l:= [0,2]) (c1) ?_|refine a0l (l:= [0,2]) (c2) ?_|(refine a0j (c3) rfl rfl rfl ?_)|(refine a0j (d0n _) rfl rfl rfl ?_)|(refine a0m (d0n _) rfl rfl rfl ?_)|((first|apply a0f|apply a0c|apply a0g|apply a0b|apply a0h|apply a0a)<;>intro h<;>try (exfalso;(try dsimp only at h);omega))|refine a0i ?_)
  all_goals (conv=>whnf)
  all_goals (try simp only [f0d,Int.toNat_natCast,g1,g2,g3,g4,g5] at*)
  all_goals first
   |exact a0n (l:= [0,1,2,3]) rfl rfl ⟨rfl,trivial⟩ (a0d a0k)
   |(exfalso;omega)
   |(exfalso;exact h6 ⟨by assumption,by assumption⟩)
   |trace_state
 rw [if_pos h6] at e0
 have e1:b.mv f t c a=b.mv1 c (h0f (b.row c) (a0A b.ps f) (a0A b.ps t) a):=by unfold Bk.mv;rw [if_pos e0]
 rw [e1,e0]
 have h61:=h6.1
 have h62:=h6.2
 by_cases h7:h0f (b.row c) (a0A b.ps f) (a0A b.ps t) a=z16
 .unfold Bk.mv1
  rw [if_pos h7]
  refine a0p mixed a0x Tryz.func244 rfl (by kernel_rfl) (by kernel_rfl) (by kernel_rfl) ?_
  repeat' ((conv=>whnf);first|refine a0e (l:= [0,2]) (c1) ?_|refine a0e (l:= [0,2]) (c2) ?_|refine a0l (l:= [0,2]) (c1) ?_|refine a0l (l:= [0,2]) (c2) ?_|(refine a0j (c3) rfl rfl rfl ?_)|(refine a0j (d0n _) rfl rfl rfl ?_)|(refine a0m (d0n _) rfl rfl rfl ?_)|((first|apply a0f|apply a0c|apply a0g|apply a0b|apply a0h|apply a0a)<;>intro h<;>try (exfalso;(try dsimp only at h);omega))|refine a0i ?_)
  all_goals (conv=>whnf)
  all_goals (try simp only [f0d,Int.toNat_natCast,g1,g2,g3,g4,g5] at*)
  all_goals first
   |exact a0n (l:= [0,1,2,3]) rfl rfl ⟨rfl,trivial⟩ (a0d a0k)
   |(exfalso;omega)
   |(exfalso;exact bnf h61 (by assumption))
   |(exfalso;exact bnf h62 (by assumption))
   |contradiction
   |trace_state
 .unfold Bk.mv1
  rw [if_neg h7]
  refine a0p mixed a0x Tryz.func244 rfl (by kernel_rfl) (by kernel_rfl) (by kernel_rfl) ?_
  repeat' ((conv=>whnf);first|refine a0e (l:= [0,2]) (c1) ?_|refine a0e (l:= [0,2]) (c2) ?_|refine a0l (l:= [0,2]) (c1) ?_|refine a0l (l:= [0,2]) (c2) ?_|(refine a0j (c3) rfl rfl rfl ?_)|(refine a0j (d0n _) rfl rfl rfl ?_)|(refine a0m (d0n _) rfl rfl rfl ?_)|((first|apply a0f|apply a0c|apply a0g|apply a0b|apply a0h|apply a0a)<;>intro h<;>try (exfalso;(try dsimp only at h);omega))|refine a0i ?_)
  all_goals (conv=>whnf)
  all_goals (try simp only [f0d,Int.toNat_natCast,g1,g2,g3,g4,g5] at*)
  all_goals first
   |exact a0n (l:= [0,1,2,3]) rfl rfl ⟨rfl,trivial⟩ (a0d a0k)
   |(exfalso;omega)
   |(exfalso;exact bnf h61 (by assumption))
   |(exfalso;exact bnf h62 (by assumption))
   |contradiction
   |trace_state
end
section
attribute [local irreducible] a0B a0D a0u a0Y
def isD (d:Int):Bool:=decide (0<=d)&&decide (d<=99999)
theorem k0j {d:Int}:isD d=true↔0<=d/\d<=99999:=by unfold isD;simp
theorem f1V {d:Int}:isD d=false↔d<0\/99999<d:=by
 unfold isD
 rw [Bool.and_eq_false_iff,decide_eq_false_iff_not,decide_eq_false_iff_not]
 omega
theorem e0k (d:Int):c0a Tryz.prog 61 [.int .i64 d] (.bool (isD d)):=by
 unfold isD
 by_cases h1:0<=d<;>by_cases h2:d<=99999
 all_goals simp only [h1,h2,decide_true,decide_false,Bool.and_true,Bool.and_false,Bool.true_and,Bool.false_and]
 all_goals refine a0p mixed a0x Tryz.func61 rfl (by kernel_rfl) (by kernel_rfl) (by kernel_rfl) ?_
 all_goals repeat' ((conv=>whnf);first|((first|apply a0f|apply a0c|apply a0g|apply a0b|apply a0h|apply a0a)<;>intro h<;>try (exfalso;(try dsimp only at h);omega))|refine a0i ?_)
 all_goals (conv=>whnf)
 all_goals first
  |exact a0o rfl
  |exact a0o (congrArg SV.bool (by simp;omega))
  |(exfalso;omega)
  |trace_state
def wkI (d:Int):Int:=if isD d=true then (d+3)%7 else-1
theorem s0n {a b:Int} (h:0<=a):a.tmod b=a%b:=by rw [Int.tmod_eq_emod_of_nonneg h]
theorem z0V {a b:Int} (h:0<=a):a.tdiv b=a/b:=by rw [Int.tdiv_eq_ediv_of_nonneg h]
theorem q0y (d:Int):c0a Tryz.prog 214 [.int .i64 d] (.int .i64 (wkI d)):=by
 have c:=e0k d
 unfold wkI
 cases h:isD d with
 |true=>
  have hd:=k0j.1 h
  rw [h] at c
  rw [if_pos rfl]
  refine a0p mixed a0x Tryz.func214 rfl (by kernel_rfl) (by kernel_rfl) (by kernel_rfl) ?_
  repeat' ((conv=>whnf);first|(refine a0j (c) rfl rfl rfl ?_)|(refine a0m (c) rfl rfl rfl ?_)|((first|apply a0f|apply a0c|apply a0g|apply a0b|apply a0h|apply a0a)<;>intro h<;>try (exfalso;(try dsimp only at h);omega))|refine a0i ?_)
  all_goals (conv=>whnf)
  all_goals first
   |exact a0o (congrArg (SV.int .i64) (by rw [a0G (n:=d+3) (by omega) (by omega),s0n (by omega)]))
   |(exfalso;omega)
   |trace_state
 |false=>
  rw [h] at c
  rw [if_neg (by simp)]
  refine a0p mixed a0x Tryz.func214 rfl (by kernel_rfl) (by kernel_rfl) (by kernel_rfl) ?_
  repeat' ((conv=>whnf);first|(refine a0j (c) rfl rfl rfl ?_)|(refine a0m (c) rfl rfl rfl ?_)|((first|apply a0f|apply a0c|apply a0g|apply a0b|apply a0h|apply a0a)<;>intro h<;>try (exfalso;(try dsimp only at h);omega))|refine a0i ?_)
  all_goals (conv=>whnf)
  all_goals first
   |exact a0o rfl
   |(exfalso;omega)
   |trace_state
def okT (t:Int):Bool:=decide (0<=t)&&(decide (t<=1099511627776)&&isD (t/86400))
def k0Q (t:Int):Int:=if okT t=true then t/86400 else-1
def d1w (t:Int):Int:=if okT t=true then t%86400 else-1
theorem k0k {t:Int}:okT t=true↔0<=t/\t<=1099511627776/\isD (t/86400)=true:=by unfold okT;simp
theorem w0r (t:Int):c0a Tryz.prog 238 [.int .i64 t] (.tup [.int .i64 (k0Q t),.int .i64 (d1w t)]):=by
 have c:=e0k (t/86400)
 unfold k0Q d1w
 by_cases h1:0<=t
 .by_cases h2:t<=1099511627776
  .have e1:IntKind.i64.wrap (t.tdiv 86400)=t/86400:=by rw [z0V h1,a0G (by omega) (by omega)]
   have e2:t.tmod 86400=t%86400:=s0n h1
   cases h3:isD (t/86400) with
   |true=>
    have hk:okT t=true:=k0k.2 ⟨h1,h2,h3⟩
    rw [h3] at c
    rw [if_pos hk,if_pos hk]
    refine a0p mixed a0x Tryz.func238 rfl (by kernel_rfl) (by kernel_rfl) (by kernel_rfl) ?_
    repeat' ((conv=>whnf);first|(simp only [e1])|(refine a0j (c) rfl rfl rfl ?_)|(refine a0m (c) rfl rfl rfl ?_)|((first|apply a0f|apply a0c|apply a0g|apply a0b|apply a0h|apply a0a)<;>intro h<;>try (exfalso;(try dsimp only at h);omega))|refine a0i ?_)
    all_goals (conv=>whnf)
    all_goals (try simp only [e2])
    all_goals first
     |exact a0o rfl
     |(exfalso;omega)
     |trace_state
   |false=>
    have hk:¬okT t=true:=fun q=>by have:=(k0k.1 q).2.2;rw [h3] at this;cases this
    rw [h3] at c
    rw [if_neg hk,if_neg hk]
    refine a0p mixed a0x Tryz.func238 rfl (by kernel_rfl) (by kernel_rfl) (by kernel_rfl) ?_
    repeat' ((conv=>whnf);first|(simp only [e1])|(refine a0j (c) rfl rfl rfl ?_)|(refine a0m (c) rfl rfl rfl ?_)|((first|apply a0f|apply a0c|apply a0g|apply a0b|apply a0h|apply a0a)<;>intro h<;>try (exfalso;(try dsimp only at h);omega))|refine a0i ?_)
    all_goals (conv=>whnf)
    all_goals first
     |exact a0o rfl
     |(exfalso;omega)
     |trace_state
  .have hk:¬okT t=true:=fun q=>h2 (k0k.1 q).2.1
   rw [if_neg hk,if_neg hk]
   refine a0p mixed a0x Tryz.func238 rfl (by kernel_rfl) (by kernel_rfl) (by kernel_rfl) ?_
   repeat' ((conv=>whnf);first|((first|apply a0f|apply a0c|apply a0g|apply a0b|apply a0h|apply a0a)<;>intro h<;>try (exfalso;(try dsimp only at h);omega))|refine a0i ?_)
   all_goals (conv=>whnf)
   all_goals first
    |exact a0o rfl
    |(exfalso;omega)
    |trace_state
 .have hk:¬okT t=true:=fun q=>h1 (k0k.1 q).1
  rw [if_neg hk,if_neg hk]
  refine a0p mixed a0x Tryz.func238 rfl (by kernel_rfl) (by kernel_rfl) (by kernel_rfl) ?_
  repeat' ((conv=>whnf);first|((first|apply a0f|apply a0c|apply a0g|apply a0b|apply a0h|apply a0a)<;>intro h<;>try (exfalso;(try dsimp only at h);omega))|refine a0i ?_)
  all_goals (conv=>whnf)
  all_goals first
   |exact a0o rfl
   |(exfalso;omega)
   |trace_state
abbrev tmM (ro:Bool) (n:Nat) (ks:List Int):Option HB:=some (.one ro (.obj (.map false false n [.ints .i64 ks] [.sc (.bools (List.replicate n true))] (List.range n) n)))
abbrev w0s (ro:Bool) (h:Nat):Option HB:=some (.one ro (.cells [.map h 0]))
theorem s0o {n:Nat} {ks:List Int} (hn:ks.length=n) (d:Int):(List.replicate n true).getD (b0v ks d) false=decide (d∈ks):=by
 by_cases h:d∈ks
 .rw [decide_eq_true h,List.getD,List.getElem?_replicate,if_pos (by have:=c0l.2 h;omega)];rfl
 .rw [decide_eq_false h,List.getD,List.getElem?_replicate,if_neg (fun q=>h (c0l.1 (by omega)))];rfl
def u0b (hs:List Int) (d:Int):Bool:=isD d&&(decide ((d+3)%7<5)&& !decide (d∈hs))
theorem f0e (n:Nat) (ks:List Int) (hn:ks.length=n) (d:Int):FC Tryz.prog 3 201 [.ptr 1 0 0 0,.int .i64 d] [(1,w0s true 2),(2,tmM true n ks)] (a0s (.bool (u0b ks d)) [] 3):=by
 have c1:=e0k d
 have c2:=q0y d
 have hg:=s0o hn d
 unfold u0b
 cases h:isD d with
 |false=>
  rw [h] at c1
  rw [Bool.false_and]
  refine a0p mixed a0x Tryz.func201 rfl (by kernel_rfl) (by kernel_rfl) (by kernel_rfl) ?_
  repeat' ((conv=>whnf);first|(refine a0j (c1) rfl rfl rfl ?_)|(refine a0m (c1) rfl rfl rfl ?_)|(refine a0j (c2) rfl rfl rfl ?_)|(refine a0m (c2) rfl rfl rfl ?_)|((first|apply a0f|apply a0c|apply a0g|apply a0b|apply a0h|apply a0a)<;>intro h<;>try (exfalso;(try dsimp only at h);omega))|refine a0i ?_)
  all_goals (conv=>whnf)
  all_goals first
   |exact a0n (l:= [0,1,2]) rfl rfl trivial a0k
   |(exfalso;omega)
   |trace_state
 |true=>
  have hd:=k0j.1 h
  unfold wkI at c2
  rw [if_pos h] at c2
  rw [h] at c1
  rw [Bool.true_and]
  by_cases q:(d+3)%7<5
  .rw [decide_eq_true q,Bool.true_and]
   refine a0p mixed a0x Tryz.func201 rfl (by kernel_rfl) (by kernel_rfl) (by kernel_rfl) ?_
   repeat' ((conv=>whnf);first|(refine a0j (c1) rfl rfl rfl ?_)|(refine a0m (c1) rfl rfl rfl ?_)|(refine a0j (c2) rfl rfl rfl ?_)|(refine a0m (c2) rfl rfl rfl ?_)|((first|apply a0f|apply a0c|apply a0g|apply a0b|apply a0h|apply a0a)<;>intro h<;>try (exfalso;(try dsimp only at h);omega))|refine a0i ?_)
   all_goals (conv=>whnf)
   all_goals (try simp only [hg] at*)
   all_goals first
    |exact a0n (l:= [0,1,2]) rfl rfl trivial a0k
    |(exfalso;omega)
    |trace_state
  .rw [decide_eq_false q,Bool.false_and]
   refine a0p mixed a0x Tryz.func201 rfl (by kernel_rfl) (by kernel_rfl) (by kernel_rfl) ?_
   repeat' ((conv=>whnf);first|(refine a0j (c1) rfl rfl rfl ?_)|(refine a0m (c1) rfl rfl rfl ?_)|(refine a0j (c2) rfl rfl rfl ?_)|(refine a0m (c2) rfl rfl rfl ?_)|((first|apply a0f|apply a0c|apply a0g|apply a0b|apply a0h|apply a0a)<;>intro h<;>try (exfalso;(try dsimp only at h);omega))|refine a0i ?_)
   all_goals (conv=>whnf)
   all_goals first
    |exact a0n (l:= [0,1,2]) rfl rfl trivial a0k
    |(exfalso;omega)
    |trace_state
def nxK (p:Int->Bool):Nat->Int->Int
 |0,_=> -1
 |k+1,d=>if p d=true then d else nxK p k (d+1)
def nxI (hs:List Int) (d:Int):Int:=nxK (u0b hs) (100000-d).toNat d
def nxV (x:Int):SV:=if x<0 then .tup [.int .i64 0,.int .i64 4] else .tup [.int .i64 x,.int .i64 0]
theorem d1x {hs:List Int} {d:Int} (h:u0b hs d=true) (hd:d<=99999):nxI hs d=d:=by
 unfold nxI
 obtain ⟨k,hk⟩:∃k,(100000-d).toNat=k+1:=⟨(99999-d).toNat,by omega⟩
 rw [hk];exact if_pos h
theorem f1W {hs:List Int} {d:Int} (h:u0b hs d=false) (hd:d<=99999):nxI hs d=nxI hs (d+1):=by
 unfold nxI
 obtain ⟨k,hk⟩:∃k,(100000-d).toNat=k+1:=⟨(99999-d).toNat,by omega⟩
 rw [hk,show (100000-(d+1)).toNat=k by omega]
 simp only [nxK,h,Bool.false_eq_true,if_false]
theorem w0t {hs:List Int} {d:Int} (hd:99999<d):nxI hs d= -1:=by
 unfold nxI
 rw [show (100000-d).toNat=0 by omega];rfl
theorem z0W (n:Nat) (ks:List Int) (hn:ks.length=n) (d:Int):FC Tryz.prog 3 248 [.ptr 1 0 0 0,.int .i64 d] [(1,w0s true 2),(2,tmM true n ks)] (a0s (if isD d=true then nxV (nxI ks d) else nxV (-1)) [] 3):=by
 have c1:=e0k d
 cases h:isD d with
 |false=>
  rw [h] at c1
  rw [if_neg (by simp)]
  refine a0p mixed a0x Tryz.func248 rfl (by kernel_rfl) (by kernel_rfl) (by kernel_rfl) ?_
  repeat' ((conv=>whnf);first|(refine a0j (c1) rfl rfl rfl ?_)|(refine a0m (c1) rfl rfl rfl ?_)|((first|apply a0f|apply a0c|apply a0g|apply a0b|apply a0h|apply a0a)<;>intro h<;>try (exfalso;(try dsimp only at h);omega))|refine a0i ?_)
  all_goals (conv=>whnf)
  all_goals first
   |exact a0n (l:= [0,1,2]) rfl rfl trivial a0k
   |(exfalso;omega)
   |trace_state
 |true=>
  have hd:=k0j.1 h
  rw [h] at c1
  rw [if_pos rfl]
  obtain ⟨a,ea⟩:=Int.eq_ofNat_of_zero_le hd.1
  subst ea
  generalize hX:nxI ks (a:Int)=X
  refine a0p mixed a0x Tryz.func248 rfl (by kernel_rfl) (by kernel_rfl) (by kernel_rfl) ?_
  repeat' ((conv=>whnf);first|(refine a0j (c1) rfl rfl rfl ?_)|(refine a0m (c1) rfl rfl rfl ?_)|((first|apply a0f|apply a0c|apply a0g|apply a0b|apply a0h|apply a0a)<;>intro h<;>try (exfalso;(try dsimp only at h);omega))|refine a0i ?_)
  all_goals (conv=>whnf)
  refine f0r (fun k:Nat=>⟨[(0,.ptr 1 0 0 0),(1,.int .i64 k)],[(1,w0s true 2),(2,tmM true n ks)],3⟩) (fun k=>k<=100000/\nxI ks (k:Int)=X) (fun k=>100000-k) a [0,1,2] [] ⟨rfl,⟨rfl,rfl,trivial⟩,⟨rfl,rfl,trivial⟩⟩ ⟨by omega,hX⟩ ?_
  rintro k ⟨hk,hx⟩
  have c:=f0e n ks hn k
  by_cases hk2:k<=99999
  .cases hb:u0b ks k with
   |true=>
    rw [d1x hb (by omega)] at hx
    subst hx
    rw [hb] at c
    unfold nxV
    rw [if_neg (by omega)]
    repeat' ((conv=>whnf);first|refine a0e (l:= [0,1,2]) (c) ?_|((first|apply a0f|apply a0c|apply a0g|apply a0b|apply a0h|apply a0a)<;>intro h<;>try (exfalso;(try dsimp only at h);omega))|refine a0i ?_)
    all_goals (conv=>whnf)
    all_goals first
     |exact a0n (l:= [0,1,2]) rfl rfl trivial a0k
     |(exfalso;omega)
     |trace_state
   |false=>
    rw [f1W hb (by omega)] at hx
    rw [hb] at c
    repeat' ((conv=>whnf);first|refine a0e (l:= [0,1,2]) (c) ?_|((first|apply a0f|apply a0c|apply a0g|apply a0b|apply a0h|apply a0a)<;>intro h<;>try (exfalso;(try dsimp only at h);omega))|refine a0i ?_)
    all_goals (conv=>whnf)
    all_goals first
     |exact ⟨k+1,[0,1,2],[],⟨by omega,hx⟩,(show 100000-(k+1)<100000-k by omega),⟨rfl,⟨rfl,congrArg (fun z=>some (SV.int .i64 z)) (a0M (by omega)),trivial⟩,⟨rfl,rfl,trivial⟩⟩⟩
     |(exfalso;omega)
     |trace_state
  .rw [w0t (by omega)] at hx
   subst hx
   repeat' ((conv=>whnf);first|((first|apply a0f|apply a0c|apply a0g|apply a0b|apply a0h|apply a0a)<;>intro h<;>try (exfalso;(try dsimp only at h);omega))|refine a0i ?_)
   all_goals (conv=>whnf)
   all_goals first
    |exact a0n (l:= [0,1,2]) rfl rfl trivial a0k
    |(exfalso;omega)
    |trace_state
def ddL (l:List Int) (k:Nat):List Int:=(l.take k).foldl (fun s d=>if d∈s then s else s++ [d]) []
theorem z0X {l:List Int} {k:Nat} (h:k<l.length):ddL l (k+1)=if l.getD k 0∈ddL l k then ddL l k else ddL l k++ [l.getD k 0]:=by
 unfold ddL
 rw [List.take_add_one,List.getElem?_eq_getElem h,List.foldl_append]
 simp only [Option.toList_some,List.foldl_cons,List.foldl_nil,List.getD,List.getElem?_eq_getElem h,Option.getD_some]
def ddS (l:List Int):List Int:=ddL l l.length
def d1y (l:List Int):Nat->Bool
 |0=>true
 |k+1=>d1y l k&&isD (l.getD k 0)
theorem k0l {l:List Int} {k:Nat} (h:isD (l.getD k 0)=false):∀n,k<n->d1y l n=false
 |0,q=>by omega
 |n+1,q=>by
  simp only [d1y]
  by_cases e:k=n
  .subst e;rw [h,Bool.and_false]
  .rw [k0l h n (by omega),Bool.false_and]
def d1z (l:List Int) (n:Nat):Int:=if 400<n then 3 else if d1y l n=true then 0 else 4
def i1d (l:List Int) (n:Nat):SV->a0v->Nat->Prop:=if d1z l n=0 then a0s (.tup [.ptr 2 0 0 0,.int .i64 0]) [(2,w0s false 3),(3,tmM false (ddS l).length (ddS l))] 4 else a0s (.tup [.nptr,.int .i64 (d1z l n)]) [] 2
theorem f1X {m:Nat} {s:List Int} (hm:s.length=m) (x:Int):(some (HB.one false (.obj (.map false false (if b0v s x<m then m else m+1) [.ints .i64 (b0j (b0v s x) x s)] [.sc (.bools (b0j (b0v s x) true (List.replicate m true)))] (if b0v s x<m then List.range m else List.range m++ [m]) (if b0v s x<m then m else m+1)))):Option HB)=tmM false (if x∈s then s else s++ [x]).length (if x∈s then s else s++ [x]):=by
 rw [n0e]
 by_cases h:x∈s
 .have hi:=c0l.2 h
  rw [if_pos h,if_pos hi,if_pos (by omega),if_pos (by omega),hm]
  unfold b0j
  rw [List.length_replicate,if_pos (by omega),List.set_replicate_self]
 .have hi:¬b0v s x<s.length:=fun q=>h (c0l.1 q)
  rw [if_neg h,if_neg hi,if_neg (by omega),if_neg (by omega)]
  unfold b0j
  have e:List.replicate m true++ [true]=List.replicate (m+1) true:=List.replicate_succ'.symm
  rw [List.length_replicate,if_neg (by omega),List.length_append,hm,List.length_singleton,<-List.range_succ,e]
theorem d1A (l:List Int) (n:Nat) (hl:l.length=n):FC Tryz.prog 2 35 [.sl 1 0 0 n] [(1,some (.one true (.cols n [.sc (.ints .i64 l)])))] (i1d l n):=by
 unfold i1d d1z
 by_cases h4:400<n
 .rw [if_pos h4,if_neg (by decide)]
  refine a0p mixed a0x Tryz.func35 rfl (by kernel_rfl) (by kernel_rfl) (by kernel_rfl) ?_
  repeat' ((conv=>whnf);first|((first|apply a0f|apply a0c|apply a0g|apply a0b|apply a0h|apply a0a)<;>intro h<;>try (exfalso;(try dsimp only at h);omega))|refine a0i ?_)
  all_goals (conv=>whnf)
  all_goals first
   |exact a0n (l:= [0,1]) rfl rfl trivial a0k
   |(exfalso;omega)
   |trace_state
 rw [if_neg h4]
 refine a0p mixed a0x Tryz.func35 rfl (by kernel_rfl) (by kernel_rfl) (by kernel_rfl) ?_
 repeat' ((conv=>whnf);first|((first|apply a0f|apply a0c|apply a0g|apply a0b|apply a0h|apply a0a)<;>intro h<;>try (exfalso;(try dsimp only at h);omega))|refine a0i ?_)
 all_goals (conv=>whnf)
 all_goals first
  |(exfalso;omega)
  |skip
 refine f0r (fun k:Nat=>⟨[(4,.ptr 3 0 0 0),(13,.sl 1 0 0 n),(14,.int .i64 n),(15,.int .i64 k)],[(1,some (.one true (.cols n [.sc (.ints .i64 l)]))),(2,tmM false (ddL l k).length (ddL l k)),(3,w0s false 2)],4⟩) (fun k=>k<=n/\d1y l k=true) (fun k=>n-k) 0 [0,1,2,3] [] ⟨rfl,⟨rfl,rfl,rfl,rfl,trivial⟩,⟨rfl,rfl,rfl,trivial⟩⟩ ⟨Nat.zero_le _,rfl⟩ ?_
 rintro k ⟨hk,hh⟩
 by_cases hk2:k<n
 .have c:=e0k (l.getD k 0)
  have hs:=z0X (l:=l) (k:=k) (by omega)
  cases hb:isD (l.getD k 0) with
  |false=>
   rw [hb] at c
   rw [if_neg (by rw [if_neg (by rw [k0l hb n hk2];simp)];decide),if_neg (by rw [k0l hb n hk2];simp)]
   repeat' ((conv=>whnf);first|(refine a0j (c) rfl rfl rfl ?_)|(refine a0m (c) rfl rfl rfl ?_)|((first|apply a0f|apply a0c|apply a0g|apply a0b|apply a0h|apply a0a)<;>intro h<;>try (exfalso;(try dsimp only at h);omega))|refine a0i ?_)
   all_goals (conv=>whnf)
   all_goals first
    |exact a0n (l:= [0,1]) rfl rfl trivial a0k
    |(exfalso;omega)
    |trace_state
  |true=>
   rw [hb] at c
   have ht:=f1X (s:=ddL l k) rfl (l.getD k 0)
   rw [<-hs] at ht
   have hh2:d1y l (k+1)=true:=by simp only [d1y,hh,hb,Bool.and_true]
   repeat' ((conv=>whnf);first|(refine a0j (c) rfl rfl rfl ?_)|(refine a0m (c) rfl rfl rfl ?_)|((first|apply a0f|apply a0c|apply a0g|apply a0b|apply a0h|apply a0a)<;>intro h<;>try (exfalso;(try dsimp only at h);omega))|refine a0i ?_)
   all_goals (conv=>whnf)
   all_goals (try simp only [f0d,Int.toNat_natCast,Nat.add_zero] at*)
   all_goals first
    |exact ⟨k+1,[0,1,2,3],[],⟨hk2,hh2⟩,(show n-(k+1)<n-k by omega),⟨rfl,⟨rfl,rfl,rfl,congrArg (fun z=>some (SV.int .i64 z)) (a0M (by omega)),trivial⟩,⟨rfl,ht,rfl,trivial⟩⟩⟩
    |(exfalso;omega)
    |trace_state
 .have e:k=n:=by omega
  subst e
  rw [if_pos (by rw [if_pos hh])]
  unfold ddS
  rw [hl]
  repeat' ((conv=>whnf);first|((first|apply a0f|apply a0c|apply a0g|apply a0b|apply a0h|apply a0a)<;>intro h<;>try (exfalso;(try dsimp only at h);omega))|refine a0i ?_)
  all_goals (conv=>whnf)
  all_goals first
   |exact a0n (l:= [0,1,3,2]) rfl rfl ⟨rfl,rfl,trivial⟩ (a0d (a0d a0k))
   |(exfalso;omega)
   |trace_state
end
section
attribute [local irreducible] a0B a0D a0u a0Y
theorem d1B (n:Nat) (ks:List ByteArray) (vs:List (List Int)) (bs:List Nat) (ck:Nat):FC Tryz.prog 2 116 [.map 1 0] [] (a0s (.fn 139 [.ptr 2 0 0 0]) [(2,some (.one false (.cells [.map 1 0])))] 3):=by
 refine a0p mixed a0x Tryz.func116 rfl (by kernel_rfl) (by kernel_rfl) (by kernel_rfl) ?_
 repeat' ((conv=>whnf);first|((first|apply a0f|apply a0c|apply a0g|apply a0b|apply a0h|apply a0a)<;>intro h<;>try (exfalso;(try dsimp only at h);omega))|refine a0i ?_)
 all_goals (conv=>whnf)
 all_goals exact a0n (l:= [0,1,2]) rfl rfl ⟨rfl,trivial⟩ (a0d a0k)
theorem w0u {n:Nat} {ks:List ByteArray} (vs:List (List Int)) (bs:List Nat) (ck:Nat) (hn:n<=100000) (hz:∀s∈ks,s.size<=9223372036854775807) (hnd:ks.Nodup):
  FC Tryz.prog 3 115 [.fn 139 [.ptr 2 0 0 0]] [(1,some (.one true (.obj (.map false false n [.strs ks] [.arrs 16 .i64 vs] bs ck)))),(2,some (.one true (.cells [.map 1 0])))] (a0s (.sl 3 0 0 n) [(3,some (.one false (.cols n [.sc (.strs (sortS ks))])))] 4):=
 v0Y (ρ:=Tryz.keys116_ren) (ρ':=Tryz.sorted_ren) rfl rfl rfl { Tryz.keys116 with} Tryz.sorted
  (fun m=>⟨fun blk off cap ss W hH hblk hsz=>callsIn_wide.2 (AnyM.slices_Sort_string Tryz.sortS blk off cap ss W hH hblk hsz),fun p cap W=>callsIn_wide.2 (AnyM.slices_Sort_string_none Tryz.sortS p cap W)⟩)
  (f0a Tryz.func115 (by kernel_rfl) (by kernel_rfl)) (enters_of Tryz.func88 (by kernel_rfl) rfl) (enters_of Tryz.func139 (by kernel_rfl) rfl) Tryz.underlying9 hn hz hnd
structure Bk.Cok (b:Bk):Prop where
 m:b.m<=100000
 sz:∀s∈b.cs,s.size<=9223372036854775807
 nd:b.cs.Nodup
theorem l0c (b:Bk) (hc:b.Cok):FC Tryz.prog 4 96 [.ptr 1 0 0 0] (bkR b) (a0s (.sl 4 0 0 b.m) [(4,some (.one false (.cols b.m [.sc (.strs (sortS b.cs))])))] 5):=by
 have c1:=d1B b.m b.cs b.vs b.bs b.ck
 have c2:=w0u (n:=b.m) (ks:=b.cs) b.vs b.bs b.ck hc.m hc.sz hc.nd
 refine a0p mixed a0x Tryz.func96 rfl (by kernel_rfl) (by kernel_rfl) (by kernel_rfl) ?_
 repeat' ((conv=>whnf);first|refine a0e (l:= [0,3]) (c1) ?_|refine a0e (l:= [0,3,4]) (c2) ?_|((first|apply a0f|apply a0c|apply a0g|apply a0b|apply a0h|apply a0a)<;>intro h<;>try (exfalso;(try dsimp only at h);omega))|refine a0i ?_)
 all_goals (conv=>whnf)
 all_goals exact a0n (l:= [0,1,2,3,5]) rfl rfl ⟨rfl,trivial⟩ (a0d a0k)
end
section
attribute [local irreducible] a0B a0D a0u a0Y
structure Px where
 p:ByteArray
 a:Int
 c:ByteArray
structure PxC where
 p:List ByteArray
 a:List Int
 c:List ByteArray
def p0d (L:List Px):PxC:=⟨L.map Px.p,L.map Px.a,L.map Px.c⟩
theorem w0v (L:List Px) (x:Px):p0d (L++ [x])=⟨(p0d L).p++ [x.p],(p0d L).a++ [x.a],(p0d L).c++ [x.c]⟩:=by simp [p0d]
abbrev pxB (n:Nat) (q:PxC):Blk:= .cols n [.sc (.strs q.p),.sc (.ints .i64 q.a),.sc (.strs q.c)]
def liR (r:List Int) (ps:List ByteArray) (c:ByteArray):Nat->List Px
 |0=> []
 |i+1=>if r.getD i 0=0 then liR r ps c i else liR r ps c i++ [⟨ps.getD i ⟨#[]⟩,r.getD i 0,c⟩]
def liA (b:Bk) (cs:List ByteArray):Nat->List Px
 |0=> []
 |k+1=>liA b cs k++liR (b.row (cs.getD k ⟨#[]⟩)) b.ps (cs.getD k ⟨#[]⟩) b.n
def Bk.list (b:Bk):List Px:=liA b (sortS b.cs) b.m
theorem q0z (r:List Int) (ps:List ByteArray) (c:ByteArray):∀i,(liR r ps c i).length<=i
 |0=>Nat.le_refl _
 |i+1=>by
  have:=q0z r ps c i
  simp only [liR]
  split<;>simp<;>omega
theorem w0w (b:Bk) (cs:List ByteArray):∀k,(liA b cs k).length<=k*b.n
 |0=>by simp [liA]
 |k+1=>by
  have:=w0w b cs k
  have h2:=q0z (b.row (cs.getD k ⟨#[]⟩)) b.ps (cs.getD k ⟨#[]⟩) b.n
  simp only [liA,List.length_append]
  rw [Nat.succ_mul];omega
theorem z0Y (b:Bk) (hb:b.Ok) (hc:b.Cok):FC Tryz.prog 4 71 [.ptr 1 0 0 0] (bkR b) (a0s (.sl 4 0 0 b.list.length) [(4,some (.one false (pxB b.list.length (p0d b.list))))] 5):=by
 have hn:=hb.n
 have hm:=hc.m
 have c1:=l0c b hc
 refine a0p mixed a0x Tryz.func71 rfl (by kernel_rfl) (by kernel_rfl) (by kernel_rfl) ?_
 repeat' ((conv=>whnf);first|refine a0e (l:= [0,1,2,3]) (c1) ?_|((first|apply a0f|apply a0c|apply a0g|apply a0b|apply a0h|apply a0a)<;>intro h<;>try (exfalso;(try dsimp only at h);omega))|refine a0i ?_)
 all_goals (conv=>whnf)
 refine f0r (fun x:Nat×Nat×List Px=>⟨[(0,.ptr 1 0 0 0),(12,.sl 4 0 0 b.m),(13,.int .i64 b.m),(14,.int .i64 x.1),(3,.sl 5 0 0 x.2.1)],(4,some (.one false (.cols b.m [.sc (.strs (sortS b.cs))])))::(5,some (.one false (pxB x.2.1 (p0d x.2.2))))::bkR b,6⟩) (fun x=>x.1<=b.m/\x.2.2=liA b (sortS b.cs) x.1/\x.2.2.length=x.2.1) (fun x=>b.m-x.1) (0,0,[]) [0,1,2,3,4,5] [.slot 3 [.sc (.strs []),.sc (.ints .i64 []),.sc (.strs [])]] ⟨rfl,⟨rfl,rfl,rfl,rfl,rfl,trivial⟩,⟨rfl,rfl,rfl,rfl,rfl,trivial⟩⟩ ⟨Nat.zero_le _,rfl,rfl⟩ ?_
 rintro ⟨k,m,L⟩ ⟨hk,hL,hl⟩
 dsimp only at hk hL hl
 by_cases hk2:k<b.m
 .have hstep:liA b (sortS b.cs) (k+1)=L++liR (b.row ((sortS b.cs).getD k ⟨#[]⟩)) b.ps ((sortS b.cs).getD k ⟨#[]⟩) b.n:=by rw [hL];rfl
  repeat' ((conv=>whnf);first|((first|apply a0f|apply a0c|apply a0g|apply a0b|apply a0h|apply a0a)<;>intro h<;>try (exfalso;(try dsimp only at h);omega))|refine a0i ?_)
  all_goals (conv=>whnf)
  all_goals (try simp only [f0d] at*)
  all_goals first
   |(exfalso;omega)
   |skip
  refine f0r (fun x:Nat×Nat×List Px=>⟨[(0,.ptr 1 0 0 0),(12,.sl 4 0 0 b.m),(13,.int .i64 b.m),(14,.int .i64 k),(3,.sl 5 0 0 x.2.1),(5,.str ((sortS b.cs).getD k ⟨#[]⟩)),(6,.ptr 6 0 0 0),(27,.sl 2 0 0 b.n),(28,.int .i64 b.n),(29,.int .i64 x.1)],(4,some (.one false (.cols b.m [.sc (.strs (sortS b.cs))])))::(5,some (.one false (pxB x.2.1 (p0d x.2.2))))::(6,some (.one false (.cols 16 [.sc (.ints .i64 (b.row ((sortS b.cs).getD k ⟨#[]⟩)))])))::bkR b,7⟩) (fun x=>x.1<=b.n/\x.2.2=L++liR (b.row ((sortS b.cs).getD k ⟨#[]⟩)) b.ps ((sortS b.cs).getD k ⟨#[]⟩) x.1/\x.2.2.length=x.2.1) (fun x=>b.n-x.1) (0,m,L) [0,1,2,3,4,5,6] [] ⟨rfl,⟨rfl,rfl,rfl,rfl,rfl,rfl,rfl,rfl,rfl,rfl,trivial⟩,⟨rfl,rfl,rfl,rfl,rfl,rfl,trivial⟩⟩ ⟨Nat.zero_le _,(List.append_nil L).symm,hl⟩ ?_
  rintro ⟨i,m2,L2⟩ ⟨hi,hL2,hl2⟩
  dsimp only at hi hL2 hl2
  have hmb:m2<=1600016:=by
   have b1:=w0w b (sortS b.cs) k
   have b2:=q0z (b.row ((sortS b.cs).getD k ⟨#[]⟩)) b.ps ((sortS b.cs).getD k ⟨#[]⟩) i
   have b3:k*b.n<=100000*16:=Nat.mul_le_mul (by omega) hn
   rw [<-hl2,hL2,List.length_append,hL];omega
  by_cases hi2:i<b.n
  .by_cases hz:(b.row ((sortS b.cs).getD k ⟨#[]⟩)).getD i 0=0
   .have h3:L2=L++liR (b.row ((sortS b.cs).getD k ⟨#[]⟩)) b.ps ((sortS b.cs).getD k ⟨#[]⟩) (i+1):=by simp only [liR];rw [if_pos hz];exact hL2
    repeat' ((conv=>whnf);first|((first|apply a0f|apply a0c|apply a0g|apply a0b|apply a0h|apply a0a)<;>intro h<;>try (exfalso;(try dsimp only at h);omega))|refine a0i ?_)
    all_goals (conv=>whnf)
    all_goals (try simp only [f0d,Int.toNat_natCast] at*)
    all_goals first
     |exact ⟨(i+1,m2,L2),[0,1,2,3,4,5,6],[],⟨hi2,h3,hl2⟩,(show b.n-(i+1)<b.n-i by omega),⟨rfl,⟨rfl,rfl,rfl,rfl,rfl,rfl,rfl,rfl,rfl,congrArg (fun z=>some (SV.int .i64 z)) (a0M (by omega)),trivial⟩,⟨rfl,rfl,rfl,rfl,rfl,rfl,trivial⟩⟩⟩
     |(exfalso;omega)
     |contradiction
     |trace_state
   .have h3:L2++ [⟨b.ps.getD i ⟨#[]⟩,(b.row ((sortS b.cs).getD k ⟨#[]⟩)).getD i 0,(sortS b.cs).getD k ⟨#[]⟩⟩]=L++liR (b.row ((sortS b.cs).getD k ⟨#[]⟩)) b.ps ((sortS b.cs).getD k ⟨#[]⟩) (i+1):=by simp only [liR];rw [if_neg hz,hL2,List.append_assoc]
    have h4:(L2++ [(⟨b.ps.getD i ⟨#[]⟩,(b.row ((sortS b.cs).getD k ⟨#[]⟩)).getD i 0,(sortS b.cs).getD k ⟨#[]⟩⟩:Px)]).length=m2+1:=by rw [List.length_append,hl2];rfl
    have h5:=w0v L2 ⟨b.ps.getD i ⟨#[]⟩,(b.row ((sortS b.cs).getD k ⟨#[]⟩)).getD i 0,(sortS b.cs).getD k ⟨#[]⟩⟩
    have h6:(some (HB.one false (pxB (m2+1) ⟨(p0d L2).p++ [b.ps.getD i ⟨#[]⟩],(p0d L2).a++ [(b.row ((sortS b.cs).getD k ⟨#[]⟩)).getD i 0],(p0d L2).c++ [(sortS b.cs).getD k ⟨#[]⟩]⟩)):Option HB)=some (.one false (pxB (m2+1) (p0d (L2++ [⟨b.ps.getD i ⟨#[]⟩,(b.row ((sortS b.cs).getD k ⟨#[]⟩)).getD i 0,(sortS b.cs).getD k ⟨#[]⟩⟩])))):=by rw [h5]
    repeat' ((conv=>whnf);first|((first|apply a0f|apply a0c|apply a0g|apply a0b|apply a0h|apply a0a)<;>intro h<;>try (exfalso;(try dsimp only at h);omega))|refine a0i ?_)
    all_goals (conv=>whnf)
    all_goals (try simp only [f0d,Int.toNat_natCast] at*)
    all_goals first
     |exact ⟨(i+1,m2+1,_),[0,1,2,3,4,8,6],[],⟨hi2,h3,h4⟩,(show b.n-(i+1)<b.n-i by omega),⟨rfl,⟨rfl,rfl,rfl,rfl,rfl,rfl,rfl,rfl,rfl,congrArg (fun z=>some (SV.int .i64 z)) (a0M (by omega)),trivial⟩,⟨rfl,h6,rfl,rfl,rfl,rfl,trivial⟩⟩⟩
     |(exfalso;omega)
     |contradiction
     |trace_state
  .have ei:i=b.n:=by omega
   subst ei
   repeat' ((conv=>whnf);first|((first|apply a0f|apply a0c|apply a0g|apply a0b|apply a0h|apply a0a)<;>intro h<;>try (exfalso;(try dsimp only at h);omega))|refine a0i ?_)
   all_goals (conv=>whnf)
   all_goals (try simp only [f0d] at*)
   all_goals first
    |exact ⟨(k+1,m2,L2),[0,1,2,3,4,5],[],⟨hk2,hL2.trans hstep.symm,hl2⟩,(show b.m-(k+1)<b.m-k by omega),⟨rfl,⟨rfl,rfl,rfl,congrArg (fun z=>some (SV.int .i64 z)) (a0M (by omega)),rfl,trivial⟩,⟨rfl,rfl,rfl,rfl,rfl,trivial⟩⟩⟩
    |(exfalso;omega)
    |trace_state
 .have e:k=b.m:=by omega
  subst e
  have e2:L=b.list:=hL
  subst e2
  rw [hl]
  repeat' ((conv=>whnf);first|((first|apply a0f|apply a0c|apply a0g|apply a0b|apply a0h|apply a0a)<;>intro h<;>try (exfalso;(try dsimp only at h);omega))|refine a0i ?_)
  all_goals (conv=>whnf)
  all_goals first
   |exact a0n (l:= [0,1,2,3,5]) rfl rfl ⟨rfl,trivial⟩ (a0d a0k)
   |(exfalso;omega)
   |trace_state
end
section
attribute [local irreducible] a0B a0D a0u a0Y
theorem k0m (l:List Int) (i k:Nat) (x:Int) (h:i<l.length):(l.set i x).getD k 0=if k=i then x else l.getD k 0:=by
 by_cases e:k=i
 .subst e;rw [if_pos rfl,List.getD,List.getElem?_set_self h];rfl
 .rw [if_neg e,List.getD,List.getElem?_set_ne (fun q=>e q.symm)];rfl
end
section
attribute [local irreducible] a0B a0D a0u a0Y
end
section
attribute [local irreducible] a0B a0D a0u a0Y
end
section
attribute [local irreducible] a0B a0D a0u a0Y
end
section
attribute [local irreducible] a0B a0D a0u a0Y
end
section
attribute [local irreducible] a0B a0D a0u a0Y
def i1U (f t:ByteArray) (n d:Int):Int:=
 if f0W f=false\/f0W t=false\/f=t then 11 else if n<1\/1099511627776<n\/d<1\/1099511627776<d then 4 else 0
attribute [irreducible] i1U
end
section
attribute [local irreducible] a0B a0D a0u a0Y
def b1Q:List Int:= [1,10,100,1000,10000,100000,1000000,10000000,100000000,1000000000,10000000000,100000000000,1000000000000,10000000000000,100000000000000,1000000000000000,10000000000000000,100000000000000000,1000000000000000000,10000000000000000000]
theorem z0Z:∀k,k<20->b1Q.getD k 0=((10^k:Nat):Int):=by decide+kernel
theorem f0X (u:Nat) (h1:1<=u) (hu:u<18446744073709551616):k0U Tryz.prog glT 93 [.int .u64 u] (.int .i64 (b0Y u)):=by
 have c1:=t0Y u hu
 have hb:=o0V (u:=u) hu
 have c2:=l0a (d0F u) hb
 have hk:d0F u*78913/262144<20:=by omega
 have hn:=z0P h1 hu
 have hp:=z0Z _ hk
 refine a0p mixed a0x Tryz.func93 rfl (by kernel_rfl) (by kernel_rfl) (by kernel_rfl) ?_
 generalize d0F u*78913/262144=k at*
 repeat' ((conv=>whnf);first|(refine a0j (c1) rfl rfl rfl ?_)|(refine a0j (c2) rfl rfl rfl ?_)|(refine a0j (t0Z _) rfl rfl rfl ?_)|((first|apply a0f|apply a0c|apply a0g|apply a0b|apply a0h|apply a0a)<;>intro h<;>try (exfalso;(try dsimp only at h);omega))|refine a0i ?_)
 all_goals (conv=>whnf)
 all_goals refine a0o ?_
 all_goals simp only [d0a]
 all_goals refine congrArg (SV.int .i64) ?_
 have e:∀b:Bool,b=decide ((b1Q.getD k 0)<=(u:Int))->IntKind.i64.wrap ((k:Int)+if b=true then 1 else 0)=(b0Y u:Int):=by
  intro b hb
  subst hb
  rw [hn,hp]
  by_cases h:10^k<=u
  .have h':((10^k:Nat):Int)<=(u:Int):=Int.ofNat_le.2 h
   rw [if_pos h,decide_eq_true h',if_pos rfl,a0G (by omega) (by omega)];rfl
  .have h':¬((10^k:Nat):Int)<=(u:Int):=fun x=>h (Int.ofNat_le.1 x)
   rw [if_neg h,decide_eq_false h',if_neg (by simp),a0G (by omega) (by omega)];rfl
 exact e _ rfl
theorem w0x:∀n,n<100->(n<10->e0x (b0Y n) n= [((48+n:Nat):Int)])/\(¬n<10->e0x (b0Y n) n= [((48+n/10:Nat):Int),((48+n%10:Nat):Int)]):=by
 intro n hn
 constructor
 .intro h
  rw [b0Y,if_pos h];simp [e0x];omega
 .intro h
  rw [b0Y,if_neg h,b0Y,if_pos (by omega)];simp [e0x];omega
theorem h0g {s:ByteArray} {a n:Nat} (h:a+n<=s.size) (l:List Int) (hl:l.length=n) (hg:∀i,i<n->a0r s ((a+i:Nat):Int)=l.getD i 0):s.extract a (a+n)=a0F l:=by
 have h1:s.data.toList.length=s.size:=by simp
 have:(s.extract a (a+n)).data.toList=(a0F l).data.toList:=by
  unfold a0F
  simp only [ByteArray.data_extract,Array.toList_extract,List.extract_eq_take_drop]
  apply List.ext_getElem?
  intro i
  by_cases hi:i<n
  .rw [List.getElem?_take,if_pos (by omega),List.getElem?_drop,List.getElem?_eq_getElem (by omega)]
   rw [List.getElem?_map,List.getElem?_eq_getElem (by omega)]
   simp only [Option.map_some,Option.some.injEq]
   have hh:=hg i hi
   unfold a0r at hh
   rw [Int.toNat_natCast,List.getD,List.getElem?_eq_getElem (by omega),List.getD,List.getElem?_eq_getElem (by omega)] at hh
   simp only [Option.getD_some] at hh
   rw [<-hh,Int.toNat_natCast]
   exact (UInt8.ofNat_toNat).symm
  .rw [List.getElem?_take,if_neg (by omega),List.getElem?_eq_none (by simp;omega)]
 have e2:∀x y:ByteArray,x.data.toList=y.data.toList->x=y:=by
  intro x y h;cases x;cases y;simp at h;congr
 exact e2 _ _ this
theorem u0c (n:Nat) (hn:n<100):c0a Tryz.prog 92 [.int .i64 n] (.str (dec n)):=by
 obtain ⟨d1,d2⟩:=w0x n hn
 refine a0p mixed a0x Tryz.func92 rfl (by kernel_rfl) (by kernel_rfl) (by kernel_rfl) ?_
 repeat' ((conv=>whnf);first|(refine a0q ⟨by (try simp (disch:=omega) only [a0S]);omega,by (try simp (disch:=omega) only [a0S]);omega,f1N (n:=36) (by kernel_rfl) (by (try simp (disch:=omega) only [a0S]);omega)⟩ ?_)|(refine a0q ⟨by (try simp (disch:=omega) only [a0S]);omega,by (try simp (disch:=omega) only [a0S]);omega,f1N (n:=200) (by kernel_rfl) (by (try simp (disch:=omega) only [a0S]);omega)⟩ ?_)|((first|apply a0f|apply a0c|apply a0g|apply a0b|apply a0h|apply a0a)<;>intro h<;>try (exfalso;(try dsimp only at h);omega))|refine a0i ?_)
 all_goals (conv=>whnf)
 all_goals refine a0o ?_
 all_goals simp only [d0a]
 all_goals refine congrArg SV.str ?_
 all_goals unfold dec
 .rw [d1 (by omega),show (IntKind.i64.wrap ((n:Int)+1)).toNat=n+1 from by (try simp (disch:=omega) only [a0S]);omega]
  refine h0g (n:=1) (by show n+1<=36;omega) _ rfl ?_
  intro i hi
  have e:i=0:=by omega
  subst e
  refine Eq.trans (n0l (n:=36) (f:=fun i=>if i<10 then 48+i else 87+i) (by kernel_rfl) (i:=n+0) (by omega)) ?_
  rw [if_pos (by omega)];rfl
 .rw [d2 (by omega),show (IntKind.i64.wrap ((n:Int)*2)).toNat=n*2 from by (try simp (disch:=omega) only [a0S]);omega,show (IntKind.i64.wrap (IntKind.i64.wrap ((n:Int)*2)+2)).toNat=n*2+2 from by (try simp (disch:=omega) only [a0S]);omega]
  refine h0g (n:=2) (by show n*2+2<=200;omega) _ rfl ?_
  intro i hi
  rcases (show i=0\/i=1 by omega) with rfl|rfl
  .rw [show ((n*2+0:Nat):Int)=(n:Int)*2 by omega,e0z (by kernel_rfl) (by omega) (by omega)];rfl
  .rw [show ((n*2+1:Nat):Int)=(n:Int)*2+1 by omega,h0a (by kernel_rfl) (by omega) (by omega)];rfl
set_option maxHeartbeats 2000000 in
theorem e0l (l:List Int) (N o n U:Nat) (hl:l.length=N) (hN:o+n<=N) (hN2:N<=1000) (hU:U<10^n) (hU2:U<18446744073709551616):
  FC Tryz.prog 2 94 [.sl 1 0 o n,.int .u64 U] [(1,some (.one false (.cols N [.sc (.ints .u8 l)])))] (a0s (.tup []) [(1,some (.one false (.cols N [.sc (.ints .u8 (t0V l N o n U n))])))] 2):=by
 refine a0p mixed a0x Tryz.func94 rfl (by kernel_rfl) (by kernel_rfl) (by kernel_rfl) ?_
 (conv=>whnf)
 refine a0z (fun m:Nat=>⟨[(0,.sl 1 0 o n),(1,.int .u64 (U/10^m:Nat)),(4,.int .i64 (n-m:Nat))],[(1,some (.one false (.cols N [.sc (.ints .u8 (t0V l N o n U m))])))],2⟩) (fun m=>m<=n) (fun m=>n-m) 0 [0,1] [] ⟨rfl,⟨rfl,?_,rfl,trivial⟩,⟨?_,trivial⟩⟩ (by omega) ?_
 .simp only [Nat.pow_zero,Nat.div_one];rfl
 .rw [w0k hl];rfl
 intro m hm
 have hu:U/10^m<=U:=Nat.div_le_self _ _
 have hdm:U/10^m<10^(n-m):=by
  rw [Nat.div_lt_iff_lt_mul (Nat.pow_pos (by omega)),<-Nat.pow_add,show n-m+m=n from by omega];exact hU
 generalize hq:U/10^m=q at*
 by_cases h8:8<=n-m
 .repeat' ((conv=>whnf);first|(refine a0q ⟨by (try simp (disch:=omega) only [a0S]);omega,k0X (n:=200) (by kernel_rfl) (by (try simp (disch:=omega) only [a0S]);omega)⟩ ?_)|(refine a0q ⟨by (try simp (disch:=omega) only [a0S]);omega,by (try simp (disch:=omega) only [a0S]);omega⟩ ?_)|(refine a0q (by (try simp (disch:=omega) only [a0S]);omega) ?_)|((first|apply a0f|apply a0c|apply a0g|apply a0b|apply a0h|apply a0a)<;>intro h<;>try (exfalso;(try dsimp only at h);omega))|refine a0i ?_)
  all_goals (conv=>whnf)
  refine ⟨m+8,[0,1],[],by omega,by omega,⟨rfl,⟨rfl,?_,?_,trivial⟩,⟨?_,trivial⟩⟩⟩
  .refine congrArg (fun z=>some (SV.int .u64 z)) ?_
   (try simp (disch:=omega) only [a0S])
   simp only [a0V,hq,Nat.reducePow];omega
  .refine congrArg (fun z=>some (SV.int .i64 z)) ?_
   (try simp (disch:=omega) only [a0S])
   omega
  .refine congrArg (fun z=>some (HB.one false (.cols N [.sc (.ints .u8 z)]))) ?_
   rw [a0H (m:=m),a0H (m:=m+1),a0H (m:=m+2),a0H (m:=m+3),a0H (m:=m+4),a0H (m:=m+5),a0H (m:=m+6),a0H (m:=m+7)]
   all_goals first|omega|((try simp (disch:=omega) only [a0S]);omega)|((try simp (disch:=omega) only [a0S]);rw [h0a (by kernel_rfl) (by omega) (by omega)];simp only [a0V,hq,Nat.reducePow];omega)|((try simp (disch:=omega) only [a0S]);rw [e0z (by kernel_rfl) (by omega) (by omega)];simp only [a0V,hq,Nat.reducePow];omega)
 .have hk:n-m=0\/n-m=1\/n-m=2\/n-m=3\/n-m=4\/n-m=5\/n-m=6\/n-m=7:=by omega
  rcases hk with hk|hk|hk|hk|hk|hk|hk|hk
  .obtain rfl:n=m+0:=by omega
   have hk':q<10^0:=by simpa [hk] using hdm
   repeat' ((conv=>whnf);first|(refine a0q ⟨by (try simp (disch:=omega) only [a0S]);omega,k0X (n:=200) (by kernel_rfl) (by (try simp (disch:=omega) only [a0S]);omega)⟩ ?_)|(refine a0q ⟨by (try simp (disch:=omega) only [a0S]);omega,by (try simp (disch:=omega) only [a0S]);omega⟩ ?_)|(refine a0q (by (try simp (disch:=omega) only [a0S]);omega) ?_)|((refine a0f (fun h=> ?_) (fun h=> ?_))<;>try (exfalso;revert h;(try simp (disch:=omega) only [a0S]);omega))|((first|apply a0f|apply a0c|apply a0g|apply a0b|apply a0h|apply a0a)<;>intro h<;>try (exfalso;(try dsimp only at h);omega))|refine a0i ?_)
   all_goals (conv=>whnf)
   refine a0n (l:= [0,1]) rfl rfl ⟨?_,trivial⟩ (a0d a0k)
   refine congrArg (fun z=>some (HB.one false (.cols N [.sc (.ints .u8 z)]))) ?_
   rfl
  .obtain rfl:n=m+1:=by omega
   have hk':q<10^1:=by simpa [hk] using hdm
   repeat' ((conv=>whnf);first|(refine a0q ⟨by (try simp (disch:=omega) only [a0S]);omega,k0X (n:=200) (by kernel_rfl) (by (try simp (disch:=omega) only [a0S]);omega)⟩ ?_)|(refine a0q ⟨by (try simp (disch:=omega) only [a0S]);omega,by (try simp (disch:=omega) only [a0S]);omega⟩ ?_)|(refine a0q (by (try simp (disch:=omega) only [a0S]);omega) ?_)|((refine a0f (fun h=> ?_) (fun h=> ?_))<;>try (exfalso;revert h;(try simp (disch:=omega) only [a0S]);omega))|((first|apply a0f|apply a0c|apply a0g|apply a0b|apply a0h|apply a0a)<;>intro h<;>try (exfalso;(try dsimp only at h);omega))|refine a0i ?_)
   all_goals (conv=>whnf)
   refine a0n (l:= [0,1]) rfl rfl ⟨?_,trivial⟩ (a0d a0k)
   refine congrArg (fun z=>some (HB.one false (.cols N [.sc (.ints .u8 z)]))) ?_
   rw [a0H (m:=m)]
   all_goals first|omega|((try simp (disch:=omega) only [a0S]);omega)|((try simp (disch:=omega) only [a0S]);rw [h0a (by kernel_rfl) (by omega) (by omega)];simp only [a0V,hq,Nat.reducePow];omega)|((try simp (disch:=omega) only [a0S]);rw [e0z (by kernel_rfl) (by omega) (by omega)];simp only [a0V,hq,Nat.reducePow];omega)|((try simp (disch:=omega) only [a0S]);simp only [a0V,hq,Nat.reducePow];omega)
  .obtain rfl:n=m+2:=by omega
   have hk':q<10^2:=by simpa [hk] using hdm
   repeat' ((conv=>whnf);first|(refine a0q ⟨by (try simp (disch:=omega) only [a0S]);omega,k0X (n:=200) (by kernel_rfl) (by (try simp (disch:=omega) only [a0S]);omega)⟩ ?_)|(refine a0q ⟨by (try simp (disch:=omega) only [a0S]);omega,by (try simp (disch:=omega) only [a0S]);omega⟩ ?_)|(refine a0q (by (try simp (disch:=omega) only [a0S]);omega) ?_)|((refine a0f (fun h=> ?_) (fun h=> ?_))<;>try (exfalso;revert h;(try simp (disch:=omega) only [a0S]);omega))|((first|apply a0f|apply a0c|apply a0g|apply a0b|apply a0h|apply a0a)<;>intro h<;>try (exfalso;(try dsimp only at h);omega))|refine a0i ?_)
   all_goals (conv=>whnf)
   refine a0n (l:= [0,1]) rfl rfl ⟨?_,trivial⟩ (a0d a0k)
   refine congrArg (fun z=>some (HB.one false (.cols N [.sc (.ints .u8 z)]))) ?_
   rw [a0H (m:=m),a0H (m:=m+1)]
   all_goals first|omega|((try simp (disch:=omega) only [a0S]);omega)|((try simp (disch:=omega) only [a0S]);rw [h0a (by kernel_rfl) (by omega) (by omega)];simp only [a0V,hq,Nat.reducePow];omega)|((try simp (disch:=omega) only [a0S]);rw [e0z (by kernel_rfl) (by omega) (by omega)];simp only [a0V,hq,Nat.reducePow];omega)|((try simp (disch:=omega) only [a0S]);simp only [a0V,hq,Nat.reducePow];omega)
  .obtain rfl:n=m+3:=by omega
   have hk':q<10^3:=by simpa [hk] using hdm
   repeat' ((conv=>whnf);first|(refine a0q ⟨by (try simp (disch:=omega) only [a0S]);omega,k0X (n:=200) (by kernel_rfl) (by (try simp (disch:=omega) only [a0S]);omega)⟩ ?_)|(refine a0q ⟨by (try simp (disch:=omega) only [a0S]);omega,by (try simp (disch:=omega) only [a0S]);omega⟩ ?_)|(refine a0q (by (try simp (disch:=omega) only [a0S]);omega) ?_)|((refine a0f (fun h=> ?_) (fun h=> ?_))<;>try (exfalso;revert h;(try simp (disch:=omega) only [a0S]);omega))|((first|apply a0f|apply a0c|apply a0g|apply a0b|apply a0h|apply a0a)<;>intro h<;>try (exfalso;(try dsimp only at h);omega))|refine a0i ?_)
   all_goals (conv=>whnf)
   refine a0n (l:= [0,1]) rfl rfl ⟨?_,trivial⟩ (a0d a0k)
   refine congrArg (fun z=>some (HB.one false (.cols N [.sc (.ints .u8 z)]))) ?_
   rw [a0H (m:=m),a0H (m:=m+1),a0H (m:=m+2)]
   all_goals first|omega|((try simp (disch:=omega) only [a0S]);omega)|((try simp (disch:=omega) only [a0S]);rw [h0a (by kernel_rfl) (by omega) (by omega)];simp only [a0V,hq,Nat.reducePow];omega)|((try simp (disch:=omega) only [a0S]);rw [e0z (by kernel_rfl) (by omega) (by omega)];simp only [a0V,hq,Nat.reducePow];omega)|((try simp (disch:=omega) only [a0S]);simp only [a0V,hq,Nat.reducePow];omega)
  .obtain rfl:n=m+4:=by omega
   have hk':q<10^4:=by simpa [hk] using hdm
   repeat' ((conv=>whnf);first|(refine a0q ⟨by (try simp (disch:=omega) only [a0S]);omega,k0X (n:=200) (by kernel_rfl) (by (try simp (disch:=omega) only [a0S]);omega)⟩ ?_)|(refine a0q ⟨by (try simp (disch:=omega) only [a0S]);omega,by (try simp (disch:=omega) only [a0S]);omega⟩ ?_)|(refine a0q (by (try simp (disch:=omega) only [a0S]);omega) ?_)|((refine a0f (fun h=> ?_) (fun h=> ?_))<;>try (exfalso;revert h;(try simp (disch:=omega) only [a0S]);omega))|((first|apply a0f|apply a0c|apply a0g|apply a0b|apply a0h|apply a0a)<;>intro h<;>try (exfalso;(try dsimp only at h);omega))|refine a0i ?_)
   all_goals (conv=>whnf)
   refine a0n (l:= [0,1]) rfl rfl ⟨?_,trivial⟩ (a0d a0k)
   refine congrArg (fun z=>some (HB.one false (.cols N [.sc (.ints .u8 z)]))) ?_
   rw [a0H (m:=m),a0H (m:=m+1),a0H (m:=m+2),a0H (m:=m+3)]
   all_goals first|omega|((try simp (disch:=omega) only [a0S]);omega)|((try simp (disch:=omega) only [a0S]);rw [h0a (by kernel_rfl) (by omega) (by omega)];simp only [a0V,hq,Nat.reducePow];omega)|((try simp (disch:=omega) only [a0S]);rw [e0z (by kernel_rfl) (by omega) (by omega)];simp only [a0V,hq,Nat.reducePow];omega)|((try simp (disch:=omega) only [a0S]);simp only [a0V,hq,Nat.reducePow];omega)
  .obtain rfl:n=m+5:=by omega
   have hk':q<10^5:=by simpa [hk] using hdm
   repeat' ((conv=>whnf);first|(refine a0q ⟨by (try simp (disch:=omega) only [a0S]);omega,k0X (n:=200) (by kernel_rfl) (by (try simp (disch:=omega) only [a0S]);omega)⟩ ?_)|(refine a0q ⟨by (try simp (disch:=omega) only [a0S]);omega,by (try simp (disch:=omega) only [a0S]);omega⟩ ?_)|(refine a0q (by (try simp (disch:=omega) only [a0S]);omega) ?_)|((refine a0f (fun h=> ?_) (fun h=> ?_))<;>try (exfalso;revert h;(try simp (disch:=omega) only [a0S]);omega))|((first|apply a0f|apply a0c|apply a0g|apply a0b|apply a0h|apply a0a)<;>intro h<;>try (exfalso;(try dsimp only at h);omega))|refine a0i ?_)
   all_goals (conv=>whnf)
   refine a0n (l:= [0,1]) rfl rfl ⟨?_,trivial⟩ (a0d a0k)
   refine congrArg (fun z=>some (HB.one false (.cols N [.sc (.ints .u8 z)]))) ?_
   rw [a0H (m:=m),a0H (m:=m+1),a0H (m:=m+2),a0H (m:=m+3),a0H (m:=m+4)]
   all_goals first|omega|((try simp (disch:=omega) only [a0S]);omega)|((try simp (disch:=omega) only [a0S]);rw [h0a (by kernel_rfl) (by omega) (by omega)];simp only [a0V,hq,Nat.reducePow];omega)|((try simp (disch:=omega) only [a0S]);rw [e0z (by kernel_rfl) (by omega) (by omega)];simp only [a0V,hq,Nat.reducePow];omega)|((try simp (disch:=omega) only [a0S]);simp only [a0V,hq,Nat.reducePow];omega)
  .obtain rfl:n=m+6:=by omega
   have hk':q<10^6:=by simpa [hk] using hdm
   repeat' ((conv=>whnf);first|(refine a0q ⟨by (try simp (disch:=omega) only [a0S]);omega,k0X (n:=200) (by kernel_rfl) (by (try simp (disch:=omega) only [a0S]);omega)⟩ ?_)|(refine a0q ⟨by (try simp (disch:=omega) only [a0S]);omega,by (try simp (disch:=omega) only [a0S]);omega⟩ ?_)|(refine a0q (by (try simp (disch:=omega) only [a0S]);omega) ?_)|((refine a0f (fun h=> ?_) (fun h=> ?_))<;>try (exfalso;revert h;(try simp (disch:=omega) only [a0S]);omega))|((first|apply a0f|apply a0c|apply a0g|apply a0b|apply a0h|apply a0a)<;>intro h<;>try (exfalso;(try dsimp only at h);omega))|refine a0i ?_)
   all_goals (conv=>whnf)
   refine a0n (l:= [0,1]) rfl rfl ⟨?_,trivial⟩ (a0d a0k)
   refine congrArg (fun z=>some (HB.one false (.cols N [.sc (.ints .u8 z)]))) ?_
   rw [a0H (m:=m),a0H (m:=m+1),a0H (m:=m+2),a0H (m:=m+3),a0H (m:=m+4),a0H (m:=m+5)]
   all_goals first|omega|((try simp (disch:=omega) only [a0S]);omega)|((try simp (disch:=omega) only [a0S]);rw [h0a (by kernel_rfl) (by omega) (by omega)];simp only [a0V,hq,Nat.reducePow];omega)|((try simp (disch:=omega) only [a0S]);rw [e0z (by kernel_rfl) (by omega) (by omega)];simp only [a0V,hq,Nat.reducePow];omega)|((try simp (disch:=omega) only [a0S]);simp only [a0V,hq,Nat.reducePow];omega)
  .obtain rfl:n=m+7:=by omega
   have hk':q<10^7:=by simpa [hk] using hdm
   repeat' ((conv=>whnf);first|(refine a0q ⟨by (try simp (disch:=omega) only [a0S]);omega,k0X (n:=200) (by kernel_rfl) (by (try simp (disch:=omega) only [a0S]);omega)⟩ ?_)|(refine a0q ⟨by (try simp (disch:=omega) only [a0S]);omega,by (try simp (disch:=omega) only [a0S]);omega⟩ ?_)|(refine a0q (by (try simp (disch:=omega) only [a0S]);omega) ?_)|((refine a0f (fun h=> ?_) (fun h=> ?_))<;>try (exfalso;revert h;(try simp (disch:=omega) only [a0S]);omega))|((first|apply a0f|apply a0c|apply a0g|apply a0b|apply a0h|apply a0a)<;>intro h<;>try (exfalso;(try dsimp only at h);omega))|refine a0i ?_)
   all_goals (conv=>whnf)
   refine a0n (l:= [0,1]) rfl rfl ⟨?_,trivial⟩ (a0d a0k)
   refine congrArg (fun z=>some (HB.one false (.cols N [.sc (.ints .u8 z)]))) ?_
   rw [a0H (m:=m),a0H (m:=m+1),a0H (m:=m+2),a0H (m:=m+3),a0H (m:=m+4),a0H (m:=m+5),a0H (m:=m+6)]
   all_goals first|omega|((try simp (disch:=omega) only [a0S]);omega)|((try simp (disch:=omega) only [a0S]);rw [h0a (by kernel_rfl) (by omega) (by omega)];simp only [a0V,hq,Nat.reducePow];omega)|((try simp (disch:=omega) only [a0S]);rw [e0z (by kernel_rfl) (by omega) (by omega)];simp only [a0V,hq,Nat.reducePow];omega)|((try simp (disch:=omega) only [a0S]);simp only [a0V,hq,Nat.reducePow];omega)
end
section
attribute [local irreducible] a0B a0D a0u a0Y
theorem k0n {u:Nat} (h:u<18446744073709551616):b0Y u<=20:=by
 rcases Nat.lt_or_ge 20 (b0Y u) with h1|h1
 .have hu:1<=u:=by
   rcases Nat.eq_zero_or_pos u with e|e
   .subst e;rw [b0Y,if_pos (by omega)] at h1;omega
   .exact e
  have a:=q0r u hu
  have:10^20<=10^(b0Y u-1):=Nat.pow_le_pow_right (by omega) (by omega)
  omega
 .exact h1
theorem f0f (i:Int) (h1: -9223372036854775808<=i) (h2:i<=9223372036854775807):k0U Tryz.prog glT 70 [.int .i64 i,.int .i64 10] (.str (c0g i)):=by
 refine a0p mixed a0x Tryz.func70 rfl (by kernel_rfl) (by kernel_rfl) (by kernel_rfl) ?_
 by_cases hs:0<=i/\i<100
 .have c:=u0c i.toNat (by omega)
  rw [Int.toNat_of_nonneg hs.1] at c
  repeat' ((conv=>whnf);first|(refine a0j (c) rfl rfl rfl ?_)|((first|apply a0f|apply a0c|apply a0g|apply a0b|apply a0h|apply a0a)<;>intro h<;>try (exfalso;(try dsimp only at h);omega))|refine a0i ?_)
  all_goals (conv=>whnf)
  all_goals refine a0o ?_
  unfold c0g
  rw [if_neg (by omega)];rfl
 .by_cases hi:i<0
  .have e:IntKind.u64.wrap (0-IntKind.u64.wrap i)=(i.natAbs:Int):=by
    simp only [IntKind.wrap,IntKind.bits,IntKind.signed];simp;omega
   have hb:i.natAbs<18446744073709551616:=by omega
   have hn:=k0n hb
   have hp:=e0y i.natAbs
   have c2:=f0X i.natAbs (by omega) hb
   rw [<-e] at c2
   have en:(IntKind.i64.wrap (1+(b0Y i.natAbs:Int))).toNat=1+b0Y i.natAbs:=by (try simp (disch:=omega) only [a0S]);omega
   have en':(IntKind.i64.wrap (1+(b0Y i.natAbs:Int))).toNat-Int.toNat 1=b0Y i.natAbs:=by rw [en];simp
   have c3:=e0l (List.replicate 24 0) 24 (Int.toNat 1) ((IntKind.i64.wrap (1+(b0Y i.natAbs:Int))).toNat-Int.toNat 1) i.natAbs rfl (by rw [en'];show 1+_<=24;omega) (by omega) (by rw [en'];exact g0m _) hb
   rw [<-e] at c3
   repeat' ((conv=>whnf);first|(refine a0t (c2) rfl rfl rfl rfl ?_)|refine a0e (l:= [0,1]) (c3) ?_|(refine a0q ⟨by (try simp (disch:=omega) only [a0S]);omega,by (try simp (disch:=omega) only [a0S]);omega,by (try simp (disch:=omega) only [a0S]);omega⟩ ?_)|(refine a0q (by (try simp (disch:=omega) only [a0S]);omega) ?_)|((first|apply a0f|apply a0c|apply a0g|apply a0b|apply a0h|apply a0a)<;>intro h<;>try (exfalso;(try dsimp only at h);omega))|refine a0i ?_)
   all_goals (conv=>whnf)
   all_goals refine a0o ?_
   unfold c0g
   rw [if_pos hi]
   refine congrArg SV.str (congrArg a0F ?_)
   rw [en',en]
   refine Eq.trans (z0Q (n:=b0Y i.natAbs) (by rw [k0c];omega)) ?_
   rw [show Int.toNat 1=1 from rfl,s0h (by omega)]
  .have e:IntKind.u64.wrap i=(i.toNat:Int):=by (try simp (disch:=omega) only [a0S]);omega
   have hb:i.toNat<18446744073709551616:=by omega
   have hn:=k0n hb
   have hp:=e0y i.toNat
   have c2:=f0X i.toNat (by omega) hb
   rw [<-e] at c2
   have en:(IntKind.i64.wrap (1+(b0Y i.toNat:Int))).toNat=1+b0Y i.toNat:=by (try simp (disch:=omega) only [a0S]);omega
   have en':(IntKind.i64.wrap (1+(b0Y i.toNat:Int))).toNat-Int.toNat 1=b0Y i.toNat:=by rw [en];simp
   have c3:=e0l (List.replicate 24 0) 24 (Int.toNat 1) ((IntKind.i64.wrap (1+(b0Y i.toNat:Int))).toNat-Int.toNat 1) i.toNat rfl (by rw [en'];show 1+_<=24;omega) (by omega) (by rw [en'];exact g0m _) hb
   rw [<-e] at c3
   repeat' ((conv=>whnf);first|(refine a0t (c2) rfl rfl rfl rfl ?_)|refine a0e (l:= [0,1]) (c3) ?_|(refine a0q ⟨by (try simp (disch:=omega) only [a0S]);omega,by (try simp (disch:=omega) only [a0S]);omega,by (try simp (disch:=omega) only [a0S]);omega⟩ ?_)|(refine a0q (by (try simp (disch:=omega) only [a0S]);omega) ?_)|((first|apply a0f|apply a0c|apply a0g|apply a0b|apply a0h|apply a0a)<;>intro h<;>try (exfalso;(try dsimp only at h);omega))|refine a0i ?_)
   all_goals (conv=>whnf)
   all_goals refine a0o ?_
   unfold c0g dec
   rw [if_neg hi]
   refine congrArg SV.str (congrArg a0F ?_)
   rw [en',show Int.toNat 1=1 from rfl,s0h (by omega)]
theorem b0I (i:Int) (h1: -9223372036854775808<=i) (h2:i<=9223372036854775807):k0U Tryz.prog glT 42 [.int .i64 i,.int .i64 10] (.str (c0g i)):=by
 have c:=f0f i h1 h2
 refine a0p mixed a0x Tryz.func42 rfl (by kernel_rfl) (by kernel_rfl) (by kernel_rfl) ?_
 repeat' ((conv=>whnf);first|(refine a0t (c) rfl rfl rfl rfl ?_)|((first|apply a0f|apply a0c|apply a0g|apply a0b|apply a0h|apply a0a)<;>intro h<;>try (exfalso;(try dsimp only at h);omega))|refine a0i ?_)
 all_goals (conv=>whnf)
 all_goals exact a0o rfl
theorem b0G (i:Int) (h1: -9223372036854775808<=i) (h2:i<=9223372036854775807):(c0g i).size<=21:=by
 have h3:=k0n (u:=i.natAbs) (by omega)
 have h4:=k0n (u:=i.toNat) (by omega)
 unfold c0g dec
 split
 .simp [a0F,ByteArray.size,a0O];omega
 .simp [a0F,ByteArray.size,a0O];omega
end
section
attribute [local irreducible] a0B a0D a0u a0Y
end
section
attribute [local irreducible] a0B a0D a0u a0Y
end
section
attribute [local irreducible] a0B a0D a0u a0Y
end
section
attribute [local irreducible] a0B a0D a0u a0Y
end
section
attribute [local irreducible] a0B a0D a0u a0Y
end
section
attribute [local irreducible] a0B a0D a0u a0Y
structure Rt where
 f:ByteArray
 t:ByteArray
 n:Int
 d:Int
def Rt.z:Rt:=⟨⟨#[]⟩,⟨#[]⟩,0,0⟩
def Rt.sv (r:Rt):SV:= .agg [.str r.f,.str r.t,.int .i64 r.n,.int .i64 r.d]
structure RL where
 f:List ByteArray
 t:List ByteArray
 n:List Int
 d:List Int
 l:Nat
def RL.at (q:RL) (i:Nat):Rt:=⟨q.f.getD i ⟨#[]⟩,q.t.getD i ⟨#[]⟩,q.n.getD i 0,q.d.getD i 0⟩
def RL.H (q:RL):a0v:= [(0,some (GB glT)),(1,some (.one true (.cols q.l [.sc (.strs q.f),.sc (.strs q.t),.sc (.ints .i64 q.n),.sc (.ints .i64 q.d)])))]
def RL.fits (q:RL) (f t:ByteArray) (i:Nat):Prop:=(q.at i).f=f/\(q.at i).t=t/\i1U (q.at i).f (q.at i).t (q.at i).n (q.at i).d=0
instance (q:RL) (f t:ByteArray) (i:Nat):Decidable (q.fits f t i):=by unfold RL.fits;infer_instance
end
section
attribute [local irreducible] a0B a0D a0u a0Y
end
section
attribute [local irreducible] a0B a0D a0u a0Y
end
section
attribute [local irreducible] a0B a0D a0u a0Y
theorem q0A (j:Nat):z16.getD j 0=0:=by
 rw [List.getD,List.getElem?_replicate];split<;>rfl
end
section
attribute [local irreducible] a0B a0D a0u a0Y
def i1e:ByteArray:=⟨#[69,85,82]⟩
def f1Y:ByteArray:=⟨#[85,83,68]⟩
def p3:List ByteArray:= [⟨#[97]⟩,⟨#[98]⟩,⟨#[99]⟩]
def k1:Bk:=⟨3,p3,1,[i1e],[[-100,100,0,0,0,0,0,0,0,0,0,0,0,0,0,0]],[0],1⟩
def k2:Bk:=⟨3,p3,1,[i1e],[[-100,70,30,0,0,0,0,0,0,0,0,0,0,0,0,0]],[0],1⟩
def q0:RL:=⟨[i1e],[f1Y],[11],[10],1⟩
def l0:List Px:= [⟨⟨#[97]⟩,-110,f1Y⟩,⟨⟨#[98]⟩,77,f1Y⟩,⟨⟨#[99]⟩,33,f1Y⟩]
theorem a1a (s:ByteArray):sortS [s]= [s]:=s0k (List.Perm.refl _) (List.pairwise_singleton _ _)
end
end Go.Proofs.YtmgnedokogidoaaGreatDoor
namespace Go.Sy
open Go.RowKit
theorem sidx_le (l:List ByteArray) (s:ByteArray):a0A l s<=l.length:=by
 induction l with
 |nil=>simp [a0A]
 |cons x l ih=>
  simp only [a0A,seq]
  by_cases h:x=s
  .rw [decide_eq_true h];simp
  .rw [decide_eq_false h];simp;exact ih
theorem sidx_lt {l:List ByteArray} {s:ByteArray}:a0A l s<l.length↔s∈l:=by
 induction l with
 |nil=>simp [a0A]
 |cons x l ih=>
  simp only [a0A,seq]
  by_cases h:x=s
  .rw [decide_eq_true h];simp [h]
  .rw [decide_eq_false h]
   have:¬s=x:=fun e=>h e.symm
   simp [this,ih]
theorem sidx_get {l:List ByteArray} {s:ByteArray} (h:a0A l s<l.length):l[a0A l s]?=some s:=by
 induction l with
 |nil=>simp [a0A] at h
 |cons x l ih=>
  simp only [a0A,seq] at h⊢
  by_cases e:x=s
  .rw [decide_eq_true e];simp [e]
  .rw [decide_eq_false e] at h⊢
   simp only [cond_false,List.length_cons,List.getElem?_cons_succ] at h⊢
   exact ih (by omega)
theorem sidx_of_get {l:List ByteArray} (hd:l.Nodup) {i:Nat} {s:ByteArray} (h:l[i]?=some s):a0A l s=i:=by
 have hi:i<l.length:=(List.getElem?_eq_some_iff.1 h).1
 have hm:s∈l:=List.mem_iff_getElem?.2 ⟨i,h⟩
 have h2:=sidx_get (sidx_lt.2 hm)
 have h3:=sidx_lt.2 hm
 obtain ⟨_,e1⟩:=List.getElem?_eq_some_iff.1 h
 obtain ⟨_,e2⟩:=List.getElem?_eq_some_iff.1 h2
 exact (List.getElem_inj hd).1 (e2.trans e1.symm)
theorem f0g {l:List ByteArray} {s:ByteArray}:b0j (a0A l s) s l=if a0A l s<l.length then l else l++ [s]:=by
 unfold b0j
 split
 .rename_i h
  have:=sidx_get h
  refine List.ext_getElem? fun i=> ?_
  rw [List.getElem?_set]
  by_cases e:a0A l s=i
  .subst e;rw [if_pos rfl,if_pos h,this]
  .rw [if_neg e]
 .rfl
end Go.Sy
namespace Go.Proofs.YtmgnedokogidoaaGreatDoor
open Go.RowKit Go.Sy
section
structure BkC (b:Bk):Prop where
 cl:b.cs.length=b.m
 vl:b.vs.length=b.m
 nd:b.cs.Nodup
theorem k0o {b:Bk} (h:BkC b) {c:ByteArray} {j:Nat} (hj:b.cs[j]?=some c):b.row c=b.vs.getD j z16:=by
 unfold Bk.row
 rw [Go.Sy.sidx_of_get h.nd hj]
theorem p0e {b:Bk} (h:BkC b) {c:ByteArray} (hc:¬c∈b.cs):b.row c=z16:=by
 unfold Bk.row
 have:¬a0A b.cs c<b.cs.length:=fun q=>hc (Go.Sy.sidx_lt.1 q)
 rw [List.getD,List.getElem?_eq_none (by rw [h.vl,<-h.cl];omega)];rfl
theorem f1Z {b:Bk} (h:BkC b) {P:List Int->Prop} (hz:P z16) (hr:∀c,P (b.row c)) (i:Nat):P (b.vs.getD i z16):=by
 by_cases e:i<b.m
 .have hj:b.cs[i]?=some (b.cs[i]'(by rw [h.cl];exact e)):=List.getElem?_eq_getElem _
  have:=hr (b.cs[i]'(by rw [h.cl];exact e))
  rw [k0o h hj] at this
  exact this
 .rw [List.getD,List.getElem?_eq_none (by rw [h.vl];omega)];exact hz
theorem w0y {b:Bk} (h:BkC b) (c:ByteArray) (r:List Int):BkC (b.put c r):=by
 have hle:=Go.Sy.sidx_le b.cs c
 by_cases e:a0A b.cs c<b.m
 .have e2:a0A b.cs c<b.cs.length:=by rw [h.cl];exact e
  refine ⟨?_,?_,?_⟩
  .show (b0j _ _ _).length=if _ then _ else _
   rw [if_pos e,f0g,if_pos e2];exact h.cl
  .show (b0j _ _ _).length=if _ then _ else _
   rw [if_pos e]
   unfold b0j
   rw [if_pos (by rw [h.vl];exact e),List.length_set];exact h.vl
  .show (b0j _ _ _).Nodup
   rw [f0g,if_pos e2];exact h.nd
 .have e2:¬a0A b.cs c<b.cs.length:=by rw [h.cl];exact e
  refine ⟨?_,?_,?_⟩
  .show (b0j _ _ _).length=if _ then _ else _
   rw [if_neg e,f0g,if_neg e2,List.length_append,h.cl];rfl
  .show (b0j _ _ _).length=if _ then _ else _
   rw [if_neg e]
   unfold b0j
   rw [if_neg (by rw [h.vl];exact e),List.length_append,h.vl];rfl
  .show (b0j _ _ _).Nodup
   rw [f0g,if_neg e2]
   refine List.nodup_append.2 ⟨h.nd,by simp,fun x hx y hy=> ?_⟩
   simp only [List.mem_singleton] at hy
   subst hy
   intro q;subst q
   exact e2 (Go.Sy.sidx_lt.2 hx)
theorem w0z {b:Bk} (h:BkC b) (c:ByteArray) (r:List Int) (c':ByteArray):(b.put c r).row c'=if c'=c then r else b.row c':=by
 have hC:=w0y h c r
 have hle:=Go.Sy.sidx_le b.cs c
 by_cases e:a0A b.cs c<b.m
 .have e2:a0A b.cs c<b.cs.length:=by rw [h.cl];exact e
  have ecs:(b.put c r).cs=b.cs:=by show b0j _ _ _=_;rw [f0g,if_pos e2]
  have evs:(b.put c r).vs=b.vs.set (a0A b.cs c) r:=by show b0j _ _ _=_;unfold b0j;rw [if_pos (by rw [h.vl];exact e)]
  show (b.put c r).vs.getD (a0A (b.put c r).cs c') z16=_
  rw [ecs,evs]
  by_cases q:c'=c
  .subst q
   rw [if_pos rfl,List.getD,List.getElem?_set_self (by rw [h.vl];exact e)];rfl
  .rw [if_neg q]
   have:a0A b.cs c≠a0A b.cs c':=fun w=>by
    have g1:=Go.Sy.sidx_get e2
    have g2:=Go.Sy.sidx_get (l:=b.cs) (s:=c') (by rw [<-w];exact e2)
    rw [<-w,g1] at g2
    exact q (Option.some.inj g2).symm
   rw [List.getD,List.getElem?_set_ne this];rfl
 .have e2:¬a0A b.cs c<b.cs.length:=by rw [h.cl];exact e
  have ecs:(b.put c r).cs=b.cs++ [c]:=by show b0j _ _ _=_;rw [f0g,if_neg e2]
  have evs:(b.put c r).vs=b.vs++ [r]:=by show b0j _ _ _=_;unfold b0j;rw [if_neg (by rw [h.vl];exact e)]
  by_cases q:c'=c
  .subst q
   rw [if_pos rfl,k0o hC (j:=b.m) (by rw [ecs,List.getElem?_append_right (by rw [h.cl];omega),h.cl,Nat.sub_self];rfl),evs,List.getD,List.getElem?_append_right (by rw [h.vl];omega),h.vl,Nat.sub_self];rfl
  .rw [if_neg q]
   by_cases hm:c'∈b.cs
   .obtain ⟨j,hj⟩:=List.mem_iff_getElem?.1 hm
    have hjl:j<b.m:=by rw [<-h.cl];exact (List.getElem?_eq_some_iff.1 hj).1
    rw [k0o h hj,k0o hC (j:=j) (by rw [ecs,List.getElem?_append_left (by rw [h.cl];exact hjl)];exact hj),evs,List.getD,List.getElem?_append_left (by rw [h.vl];exact hjl)];rfl
   .rw [p0e h hm,p0e hC (by rw [ecs];simp [hm,q])]
theorem w0A {b:Bk} (h:BkC b) (c:ByteArray) (r:List Int) (s:ByteArray):s∈(b.put c r).cs↔s∈b.cs\/s=c:=by
 show s∈b0j _ _ _↔_
 rw [f0g]
 split
 .rename_i e
  exact ⟨.inl,fun q=>q.elim id (fun q=>by subst q;exact Go.Sy.sidx_lt.1 e)⟩
 .simp
theorem g1a {b:Bk} (h:BkC b) (c:ByteArray):BkC (b.del c):=by
 by_cases e:a0A b.cs c<b.m
 .refine ⟨?_,?_,?_⟩
  .show (b.cs.eraseIdx _).length=if _ then _ else _
   rw [if_pos e,List.length_eraseIdx_of_lt (by rw [h.cl];exact e),h.cl]
  .show (b.vs.eraseIdx _).length=if _ then _ else _
   rw [if_pos e,List.length_eraseIdx_of_lt (by rw [h.vl];exact e),h.vl]
  .exact h.nd.sublist (List.eraseIdx_sublist _ _)
 .refine ⟨?_,?_,?_⟩
  .show (b.cs.eraseIdx _).length=if _ then _ else _
   rw [if_neg e,List.eraseIdx_of_length_le (by rw [h.cl];omega),h.cl]
  .show (b.vs.eraseIdx _).length=if _ then _ else _
   rw [if_neg e,List.eraseIdx_of_length_le (by rw [h.vl];omega),h.vl]
  .exact h.nd.sublist (List.eraseIdx_sublist _ _)
theorem q0B {b:Bk} (h:BkC b) (c s:ByteArray):s∈(b.del c).cs↔s∈b.cs/\s≠c:=by
 show s∈b.cs.eraseIdx _↔_
 constructor
 .intro q
  refine ⟨(List.eraseIdx_sublist _ _).subset q,fun w=> ?_⟩
  subst w
  obtain ⟨j,hj⟩:=List.mem_iff_getElem?.1 q
  rw [List.getElem?_eraseIdx] at hj
  by_cases e:j<a0A b.cs s
  .rw [if_pos e] at hj
   have:=Go.Sy.sidx_of_get h.nd hj;omega
  .rw [if_neg e] at hj
   have:=Go.Sy.sidx_of_get h.nd hj;omega
 .rintro ⟨q,w⟩
  obtain ⟨j,hj⟩:=List.mem_iff_getElem?.1 q
  have hne:j≠a0A b.cs c:=fun e=>by
   have hl:a0A b.cs c<b.cs.length:=by rw [<-e];exact (List.getElem?_eq_some_iff.1 hj).1
   have g:=Go.Sy.sidx_get hl
   rw [<-e,hj] at g
   exact w (Option.some.inj g)
  refine List.mem_iff_getElem?.2 ?_
  by_cases e:j<a0A b.cs c
  .exact ⟨j,by rw [List.getElem?_eraseIdx,if_pos e];exact hj⟩
  .exact ⟨j-1,by rw [List.getElem?_eraseIdx,if_neg (by omega),show j-1+1=j by omega];exact hj⟩
theorem d1C {b:Bk} (h:BkC b) (c c':ByteArray):(b.del c).row c'=if c'=c then z16 else b.row c':=by
 have hC:=g1a h c
 by_cases q:c'=c
 .subst q
  rw [if_pos rfl,p0e hC (fun w=>((q0B h c' c').1 w).2 rfl)]
 .rw [if_neg q]
  by_cases hm:c'∈b.cs
  .obtain ⟨j,hj⟩:=List.mem_iff_getElem?.1 hm
   have hne:j≠a0A b.cs c:=fun e=>by
    have hl:a0A b.cs c<b.cs.length:=by rw [<-e];exact (List.getElem?_eq_some_iff.1 hj).1
    have g:=Go.Sy.sidx_get hl
    rw [<-e,hj] at g
    exact q (Option.some.inj g)
   rw [k0o h hj]
   have ecs:(b.del c).cs=b.cs.eraseIdx (a0A b.cs c):=rfl
   have evs:(b.del c).vs=b.vs.eraseIdx (a0A b.cs c):=rfl
   by_cases e:j<a0A b.cs c
   .rw [k0o hC (j:=j) (by rw [ecs,List.getElem?_eraseIdx,if_pos e];exact hj),evs,List.getD,List.getElem?_eraseIdx,if_pos e];rfl
   .rw [k0o hC (j:=j-1) (by rw [ecs,List.getElem?_eraseIdx,if_neg (by omega),show j-1+1=j by omega];exact hj),evs,List.getD,List.getElem?_eraseIdx,if_neg (by omega),show j-1+1=j by omega];rfl
  .rw [p0e h hm,p0e hC (fun w=>hm ((q0B h c c').1 w).1)]
theorem i1f {b:Bk} (h:BkC b) (c:ByteArray) (r:List Int):BkC (b.mv1 c r):=by
 unfold Bk.mv1
 split
 .exact g1a (w0y h c r) c
 .exact w0y h c r
theorem k0p {b:Bk} (h:BkC b) (c:ByteArray) (r:List Int) (c':ByteArray):(b.mv1 c r).row c'=if c'=c then r else b.row c':=by
 unfold Bk.mv1
 by_cases e:r=z16
 .rw [if_pos e,d1C (w0y h c r),w0z h]
  by_cases q:c'=c
  .rw [if_pos q,if_pos q,e]
  .rw [if_neg q,if_neg q]
 .rw [if_neg e,w0z h]
theorem w0B {b:Bk} (h:BkC b) (c:ByteArray) (r:List Int) (s:ByteArray):s∈(b.mv1 c r).cs↔(s∈b.cs/\s≠c)\/(s=c/\r≠z16):=by
 unfold Bk.mv1
 by_cases e:r=z16
 .rw [if_pos e,q0B (w0y h c r),w0A h]
  constructor
  .rintro ⟨q|q,w⟩
   .exact .inl ⟨q,w⟩
   .exact absurd q w
  .rintro (q|q)
   .exact ⟨.inl q.1,q.2⟩
   .exact absurd e q.2
 .rw [if_neg e,w0A h]
  constructor
  .rintro (q|q)
   .by_cases w:s=c
    .exact .inr ⟨w,e⟩
    .exact .inl ⟨q,w⟩
   .exact .inr ⟨q,e⟩
  .rintro (q|q)
   .exact .inl q.1
   .exact .inr q.1
structure BkI (b:Bk) (B:Int):Prop where
 C:BkC b
 n16:b.n<=16
 psl:b.ps.length=b.n
 nz:∀c,c∈b.cs->b.row c≠z16
 c3:∀c,c∈b.cs->f0W c=true
 rl:∀c,(b.row c).length=16
 rb:∀c j,-B<=(b.row c).getD j 0/\(b.row c).getD j 0<=B
 rs:∀c,(b.row c).sum=0
 rt:∀c j,b.n<=j->(b.row c).getD j 0=0
theorem BkI.ok {b:Bk} {B:Int} (h:BkI b B) (hB:B<=4503599627370496):b.Ok:=by
 have h0:=h.rb ⟨#[]⟩ 0
 refine ⟨h.n16,h.psl,f1Z h.C (P:=fun r=>r.length=16) rfl h.rl,fun i j=> ?_⟩
 refine f1Z h.C (P:=fun r=> -4503599627370496<=r.getD j 0/\r.getD j 0<=4503599627370496) ?_ (fun c=> ?_) i
 .show _<=z16.getD j 0/\z16.getD j 0<=_
  rw [q0A];decide
 .show-4503599627370496<=(b.row c).getD j 0/\(b.row c).getD j 0<=4503599627370496
  have:=h.rb c j;omega
theorem BkI.cok {b:Bk} {B:Int} (h:BkI b B) (hm:b.m<=100000):b.Cok:=by
 refine ⟨hm,fun s hs=> ?_,h.C.nd⟩
 have:=h.c3 s hs
 unfold f0W at this
 simp only [Bool.and_eq_true,decide_eq_true_eq] at this
 omega
theorem w0C (l:List Int) (i:Nat) (x:Int) (h:i<l.length):(l.set i x).sum=l.sum-l.getD i 0+x:=by
 induction l generalizing i with
 |nil=>simp at h
 |cons y l ih=>
  cases i with
  |zero=>simp only [List.set_cons_zero,List.sum_cons,List.getD_cons_zero];omega
  |succ i=>
   simp only [List.length_cons] at h
   simp only [List.set_cons_succ,List.sum_cons,List.getD_cons_succ]
   rw [ih i (by omega)];omega
theorem w0D {r:List Int} {F T:Nat} {a:Int} (hl:r.length=16) (hF:F<16) (hT:T<16) (hne:F≠T) (j:Nat):(h0f r F T a).getD j 0=r.getD j 0+((if j=F then-a else 0)+(if j=T then a else 0)):=by
 unfold h0f
 rw [k0m _ _ _ _ (by rw [List.length_set,hl];exact hT),k0m _ _ _ _ (by rw [hl];exact hF)]
 by_cases e:j=T
 .subst e
  rw [if_pos rfl,if_neg (fun q=>hne q.symm),if_pos rfl];omega
 .rw [if_neg e,if_neg e]
  by_cases e2:j=F
  .subst e2;rw [if_pos rfl,if_pos rfl];omega
  .rw [if_neg e2,if_neg e2];omega
theorem w0E {r:List Int} {F T:Nat} {a:Int} (hl:r.length=16) (hF:F<16) (hT:T<16) (hne:F≠T):(h0f r F T a).sum=r.sum:=by
 unfold h0f
 rw [w0C _ _ _ (by rw [List.length_set,hl];exact hT),w0C _ _ _ (by rw [hl];exact hF),k0m _ _ _ _ (by rw [hl];exact hF),if_neg (fun q=>hne q.symm)]
 omega
end
section
def stE (b:Bk) (f t c:ByteArray) (a:Int):Int:=
 if idI b.ps f b.n<0\/idI b.ps t b.n<0 then 6
 else if idI b.ps f b.n=idI b.ps t b.n then 4
 else if g0p a c≠0 then g0p a c
 else if a<0 then 4 else 0
theorem g1b {b:Bk} {f t c:ByteArray} {a:Int} (h:stE b f t c a=0):a0A b.ps f<b.n/\a0A b.ps t<b.n/\a0A b.ps f≠a0A b.ps t/\f0W c=true/\0<=a/\a<=4503599627370496/\g0p a c=0:=by
 unfold stE at h
 split at h
 .cases h
 .rename_i h1
  split at h
  .cases h
  .rename_i h2
   split at h
   .rename_i h3;exact absurd h h3
   .rename_i h3
    split at h
    .cases h
    .rename_i h4
     have h3':g0p a c=0:=by simpa using h3
     have hm:=q0v a c
     rw [h3'] at hm
     have g1:a0A b.ps f<b.n:=by
      rcases Nat.lt_or_ge (a0A b.ps f) b.n with q|q
      .exact q
      .exact absurd (Or.inl (by rw [k0i (by omega)];decide)) h1
     have g2:a0A b.ps t<b.n:=by
      rcases Nat.lt_or_ge (a0A b.ps t) b.n with q|q
      .exact q
      .exact absurd (Or.inr (by rw [k0i (by omega)];decide)) h1
     rw [l0Z g1,l0Z g2] at h2
     rcases hm with hm|hm
     .omega
     .exact ⟨g1,g2,by omega,hm.2.1,by omega,hm.2.2.2,h3'⟩
theorem g1c (b:Bk) (f t c:ByteArray) (a:Int):mvE b f t c a=if stE b f t c a≠0 then stE b f t c a else if u0X ((b.row c).getD (a0A b.ps f) 0-a)=true/\u0X ((b.row c).getD (a0A b.ps t) 0+a)=true then 0 else 4:=by
 unfold mvE stE
 split
 .rfl
 .split
  .rfl
  .split
   .rfl
   .split
    .rfl
    .rfl
theorem i1g {b:Bk} {B B':Int} (h:BkI b B) {f t c:ByteArray} {a:Int} (hs:stE b f t c a=0) (hB:B<=B') (h1: -B'<=(b.row c).getD (a0A b.ps f) 0-a/\(b.row c).getD (a0A b.ps f) 0-a<=B') (h2: -B'<=(b.row c).getD (a0A b.ps t) 0+a/\(b.row c).getD (a0A b.ps t) 0+a<=B'):BkI (b.mv1 c (h0f (b.row c) (a0A b.ps f) (a0A b.ps t) a)) B':=by
 obtain ⟨hF,hT,hne,hc,ha,_⟩:=g1b hs
 have hn:=h.n16
 have hps:(b.mv1 c (h0f (b.row c) (a0A b.ps f) (a0A b.ps t) a)).ps=b.ps:=by unfold Bk.mv1;split<;>rfl
 have hnn:(b.mv1 c (h0f (b.row c) (a0A b.ps f) (a0A b.ps t) a)).n=b.n:=by unfold Bk.mv1;split<;>rfl
 have hg:=w0D (a:=a) (h.rl c) (show a0A b.ps f<16 by omega) (show a0A b.ps t<16 by omega) hne
 refine ⟨i1f h.C _ _,by rw [hnn];exact hn,by rw [hps,hnn];exact h.psl,fun s q=> ?_,fun s q=> ?_,fun s=> ?_,fun s j=> ?_,fun s=> ?_,fun s j q=> ?_⟩
 .rw [w0B h.C] at q
  rw [k0p h.C]
  rcases q with q|q
  .rw [if_neg q.2];exact h.nz s q.1
  .rw [if_pos q.1];exact q.2
 .rw [w0B h.C] at q
  rcases q with q|q
  .exact h.c3 s q.1
  .rw [q.1];exact hc
 .rw [k0p h.C]
  split
  .rw [List.length_set,List.length_set];exact h.rl c
  .exact h.rl s
 .rw [k0p h.C]
  split
  .rw [hg j]
   have:=h.rb c j
   by_cases e1:j=a0A b.ps f
   .rw [if_pos e1,if_neg (by omega),e1];omega
   .by_cases e2:j=a0A b.ps t
    .rw [if_neg e1,if_pos e2,e2];omega
    .rw [if_neg e1,if_neg e2];omega
  .have:=h.rb s j;omega
 .rw [k0p h.C]
  split
  .rw [w0E (h.rl c) (by omega) (by omega) hne];exact h.rs c
  .exact h.rs s
 .rw [hnn] at q
  rw [k0p h.C]
  split
  .rw [hg j,if_neg (by omega),if_neg (by omega),h.rt c j q];rfl
  .exact h.rt s j q
theorem i1h (b:Bk) (f t c:ByteArray) (a:Int):(b.mv f t c a).ps=b.ps/\(b.mv f t c a).n=b.n:=by
 unfold Bk.mv Bk.mv1
 split
 .split<;>exact ⟨rfl,rfl⟩
 .exact ⟨rfl,rfl⟩
theorem j1j (b:Bk) (f t c:ByteArray) (a:Int):(b.mv f t c a).m<=b.m+1:=by
 have hp:∀r,(b.put c r).m<=b.m+1:=fun r=>by
  unfold Bk.put;dsimp only
  split<;>omega
 have hd:∀b':Bk,(b'.del c).m<=b'.m:=fun b'=>by
  unfold Bk.del;dsimp only
  split<;>omega
 unfold Bk.mv Bk.mv1
 split
 .split
  .exact Nat.le_trans (hd _) (hp _)
  .exact hp _
 .omega
theorem j1k {b:Bk} (h:BkI b 4503599627370496) (f t c:ByteArray) (a:Int):BkI (b.mv f t c a) 4503599627370496:=by
 by_cases e:mvE b f t c a=0
 .have e2:=e
  rw [g1c] at e2
  by_cases s:stE b f t c a=0
  .rw [if_neg (by simpa using s)] at e2
   split at e2
   .rename_i g
    rw [s0m,s0m] at g
    unfold Bk.mv
    rw [if_pos e]
    exact i1g h s (Int.le_refl _) g.1 g.2
   .cases e2
  .rw [if_pos s] at e2;exact absurd e2 s
 .rw [k0h e];exact h
structure Mv where
 f:ByteArray
 t:ByteArray
 a:Int
 c:ByteArray
abbrev Bk.go (b:Bk) (m:Mv):Bk:=b.mv m.f m.t m.c m.a
def Bk.all (b:Bk) (M:List Mv):Bk:=M.foldl Bk.go b
end
section
attribute [local irreducible] a0B a0D a0u a0Y
end
section
attribute [local irreducible] a0B a0D a0u a0Y
theorem s0p (ps:List ByteArray) (n:Nat) (hl:ps.length=n):FC Tryz.prog 2 62 [.sl 1 0 0 n] [(1,some (.one true (.cols n [.sc (.strs ps)])))] (u0a ps):=by
 by_cases h16:16<n
 .unfold u0a f0L
  rw [hl,if_pos h16,if_pos (by decide)]
  refine a0p mixed a0x Tryz.func62 rfl (by kernel_rfl) (by kernel_rfl) (by kernel_rfl) ?_
  repeat' ((conv=>whnf);first|((first|apply a0f|apply a0c|apply a0g|apply a0b|apply a0h|apply a0a)<;>intro h<;>try (exfalso;(try dsimp only at h);omega))|refine a0i ?_)
  all_goals (conv=>whnf)
  all_goals first
   |exact a0n (l:= [0,1]) rfl rfl trivial a0k
   |(exfalso;omega)
   |trace_state
 .exact d1v ps n hl (by omega)
theorem n0p {ps:List ByteArray}:∀{n k:Nat},nwK ps n=0->k<=n->nwK ps k=0
 |0,k,h,hk=>by rw [show k=0 by omega];rfl
 |n+1,k,h,hk=>by
  have h0:nwK ps n=0:=by
   simp only [nwK] at h
   by_cases q:nwK ps n=0
   .exact q
   .rw [if_pos q] at h;exact h
  by_cases e:k=n+1
  .rw [e];exact h
  .exact n0p h0 (by omega)
theorem w0F {ps:List ByteArray} (h:f0L ps=0):ps.length<=16/\ps.Nodup/\∀s∈ps,nmB s=true:=by
 unfold f0L at h
 split at h
 .cases h
 .have hE:∀k,k<ps.length->nwE ps k=0:=fun k hk=>by
   have h1:=n0p h (show k+1<=ps.length from hk)
   have h0:=n0p h (show k<=ps.length by omega)
   simp only [nwK] at h1
   rwa [if_neg (by simpa using h0)] at h1
  refine ⟨by omega,?_,fun s hs=> ?_⟩
  .refine List.pairwise_iff_getElem.2 fun i j hi hj hij e=> ?_
   have:=hE j hj
   unfold nwE at this
   split at this
   .cases this
   .split at this
    .cases this
    .rename_i g
     have gj:ps.getD j ⟨#[]⟩=ps[j]:=by rw [List.getD,List.getElem?_eq_getElem hj];rfl
     have hm:ps[j]∈ps.take j:=by
      rw [<-e]
      exact List.mem_iff_getElem.2 ⟨i,by rw [List.length_take];omega,by rw [List.getElem_take]⟩
     have hlt:=Go.Sy.sidx_lt.2 hm
     rw [List.length_take,Nat.min_eq_left (by omega)] at hlt
     rw [gj] at g
     unfold idI at g
     rw [if_pos hlt] at g
     omega
  .obtain ⟨k,hk,rfl⟩:=List.getElem_of_mem hs
   have:=hE k hk
   unfold nwE at this
   have gj:ps.getD k ⟨#[]⟩=ps[k]:=by rw [List.getD,List.getElem?_eq_getElem hk];rfl
   rw [gj] at this
   cases q:nmB ps[k] with
   |true=>rfl
   |false=>rw [q,if_pos rfl] at this;cases this
theorem g1d {ps:List ByteArray} (h:f0L ps=0):BkI (nwB ps) 0:=by
 have hr:∀c,(nwB ps).row c=z16:=fun c=>rfl
 refine ⟨⟨rfl,rfl,List.nodup_nil⟩,(w0F h).1,d0L ps,fun c q=>absurd q (List.not_mem_nil),fun c q=>absurd q (List.not_mem_nil),fun c=>rfl,fun c j=> ?_,fun c=>rfl,fun c j _=> ?_⟩
 .rw [hr,q0A];decide
 .rw [hr,q0A]
abbrev bkX (ro:Bool) (np:Nat) (ps:List ByteArray) (b:Bk):a0v:= [(1,bkC true 2 3 np),(2,some (.one true (.cols np [.sc (.strs ps)]))),(3,bkM ro b)]
theorem p0f {b:Bk} (h:BkI b 4503599627370496) {np:Nat} {ps:List ByteArray} (hn:b.n=np) (hp:b.ps=ps) (f t c:ByteArray) (a:Int):FC Tryz.prog 4 244 [.ptr 1 0 0 0,.str f,.str t,.agg [.int .i64 a,.str c]] (bkX false np ps b) (a0s (.int .i64 (mvE b f t c a)) [(3,bkM false (b.mv f t c a))] 4):=by
 subst hn hp;exact z0U b (h.ok (Int.le_refl _)) f t c a
theorem w0G {b:Bk} (h:BkI b 4503599627370496) {np:Nat} {ps:List ByteArray} (hn:b.n=np) (hp:b.ps=ps) (hm:b.m<=100000):FC Tryz.prog 4 71 [.ptr 1 0 0 0] (bkX true np ps b) (a0s (.sl 4 0 0 b.list.length) [(4,some (.one false (pxB b.list.length (p0d b.list))))] 5):=by
 subst hn hp;exact z0Y b (h.ok (Int.le_refl _)) (h.cok hm)
theorem BkI.up {b:Bk} {B B':Int} (h:BkI b B) (hB:B<=B'):BkI b B':=by
 have g:=h.rb
 exact ⟨h.C,h.n16,h.psl,h.nz,h.c3,h.rl,fun c j=>by have:=g c j;omega,h.rs,h.rt⟩
end
section
attribute [local irreducible] a0B a0D a0u a0Y
theorem a1b {α:Type} {l:List α} {n:Nat} (h:l.length=n):seg 0 n l=l:=by
 unfold seg;rw [List.drop_zero,List.take_of_length_le (by omega)]
theorem w0H (n:Nat) (l:List ByteArray) (hl:l.length=n) (hn:n<=1000000):FC Tryz.prog 2 63 [.sl 1 0 0 n] [(1,some (.one true (.cols n [.sc (.strs l)])))] (a0s (.sl 2 0 0 n) [(2,some (.one false (.cols n [.sc (.strs l)])))] 3):=by
 cases n with
 |zero=>
  obtain rfl:=List.eq_nil_of_length_eq_zero hl
  refine w0a rfl ?_
  refine a0p mixed a0x Tryz.func63 rfl (by kernel_rfl) (by kernel_rfl) (by kernel_rfl) ?_
  repeat' ((conv=>whnf);first|((first|apply a0f|apply a0c|apply a0g|apply a0b|apply a0h|apply a0a)<;>intro h<;>try (exfalso;(try dsimp only at h);omega))|refine a0i ?_|(refine And.intro ?_ ?_))
  all_goals (conv=>whnf)
  all_goals first
   |exact e0h (fun _ _ _ h=> .inl h) (a0n (l:= [0,1]) rfl rfl trivial a0k)
   |exact e0h (fun _ _ _ h=> .inr h) (a0n (l:= [0,1,3]) rfl rfl ⟨rfl,trivial⟩ (a0d a0k))
   |decide
 |succ n=>
  refine a0p mixed a0x Tryz.func63 rfl (by kernel_rfl) (by kernel_rfl) (by kernel_rfl) ?_
  repeat' ((conv=>whnf);first|((first|apply a0f|apply a0c|apply a0g|apply a0b|apply a0h|apply a0a)<;>intro h<;>try (exfalso;(try dsimp only at h);omega))|refine a0i ?_)
  all_goals (conv=>whnf)
  all_goals (rw [Nat.zero_add (n+1),a1b hl];exact a0n (l:= [0,1,3]) rfl rfl ⟨rfl,trivial⟩ (a0d a0k))
abbrev bk0:Bk:=⟨0,[],0,[],[],[],0⟩
abbrev h1I (b:Bk):Blk:= .obj (.map false false b.m [.strs b.cs] [.arrs 16 .i64 b.vs] b.bs b.ck)
abbrev cyC (ro:Bool) (hc hp hb hd np:Nat) (cut:Int):Option HB:=some (.one ro (.cells [.ptr hc 0 0 0,.int .i64 cut,.sl hp 0 0 np,.map hb 0,.map hd 0]))
abbrev cyP (ro:Bool) (n:Nat) (ps:List ByteArray):Option HB:=some (.one ro (.cols n [.sc (.strs ps)]))
abbrev cyB (ro:Bool) (h m:Nat) (ds:List Int):Option HB:=some (.one ro (.obj (.map false false m [.ints .i64 ds] [.ptrs h m] (List.range m) m)))
def f7 (hp hm np:Nat) (x:Nat):Blk:= .cells [.sl hp x 0 np,.map hm x]
def f8 (np:Nat) (sp:List ByteArray) (x:Nat):Blk:= .cols np [.sc (.strs sp)]
def f9 (B:List Bk) (x:Nat):Blk:=h1I (B.getD x bk0)
abbrev fmB (ro:Bool) (m:Nat) (f:Nat->Blk):Option HB:=some (.fam ro (fun x=>x<m) f)
def cnE (cut:Int) (ps:List ByteArray):Int:=if cut<0\/86400<cut then 4 else f0L ps
def cnO (cut:Int) (ps:List ByteArray) (n:Nat):SV->a0v->Nat->Prop:=if cnE cut ps=0 then a0s (.tup [.ptr 3 0 0 0,.int .i64 0]) [(3,cyC false 1 4 5 6 n cut),(4,cyP false n ps),(5,cyB false 7 0 []),(6,tmM false 0 []),(7,fmB false 0 (f7 8 9 n)),(8,fmB false 0 (f8 n (sortS ps))),(9,fmB false 0 (f9 []))] 10 else a0s (.tup [.nptr,.int .i64 (cnE cut ps)]) [] 3
theorem g1e (cut:Int) (ps:List ByteArray) (n:Nat) (hl:ps.length=n):FC Tryz.prog 3 36 [.ptr 1 0 0 0,.int .i64 cut,.sl 2 0 0 n] [(2,some (.one true (.cols n [.sc (.strs ps)])))] (cnO cut ps n):=by
 have c1:=s0p ps n hl
 unfold cnO cnE
 by_cases h:cut<0\/86400<cut
 .rw [if_pos h,if_neg (by decide)]
  refine a0p mixed a0x Tryz.func36 rfl (by kernel_rfl) (by kernel_rfl) (by kernel_rfl) ?_
  repeat' ((conv=>whnf);first|((first|apply a0f|apply a0c|apply a0g|apply a0b|apply a0h|apply a0a)<;>intro h<;>try (exfalso;(try dsimp only at h);omega))|refine a0i ?_)
  all_goals (conv=>whnf)
  all_goals first
   |exact a0n (l:= [0,1,2]) rfl rfl trivial a0k
   |(exfalso;omega)
   |trace_state
 rw [if_neg h]
 unfold u0a at c1
 by_cases he:f0L ps=0
 .rw [if_neg (by rw [he];simp)] at c1
  rw [if_pos he]
  have c2:=w0H n ps hl (by have:=(w0F he).1;omega)
  refine a0p mixed a0x Tryz.func36 rfl (by kernel_rfl) (by kernel_rfl) (by kernel_rfl) ?_
  repeat' ((conv=>whnf);first|refine a0e (l:= [0,2]) (c1) ?_|refine a0e (l:= [0,2]) (c2) ?_|((first|apply a0f|apply a0c|apply a0g|apply a0b|apply a0h|apply a0a)<;>intro h<;>try (exfalso;(try dsimp only at h);omega))|refine a0i ?_)
  all_goals (conv=>whnf)
  all_goals first
   |(exfalso;omega)
   |exact e0g (l:= [0,1,2,9,6,7,8,10,11,12]) [.relab (fun _ _=>none) (fun _=>0) ((7,cyB false 10 0 [])::gdN 10 0 0 [⟨0,0,f7 11 12 n⟩,⟨0,0,f8 n (sortS ps)⟩,⟨0,0,f9 []⟩]) [] 3] ⟨h0R (n:=10) (th:=7) [⟨0,0,f7 11 12 n⟩,⟨0,0,f8 n (sortS ps)⟩,⟨0,0,f9 []⟩] (by decide) rfl (n0h rfl (fun i hi=>by omega)),rfl,rfl,⟨rfl,rfl,rfl,rfl,rfl,rfl,rfl,trivial⟩⟩ (a0d (a0d (a0d (a0d (c0f (c0f (c0f a0k)))))))
   |trace_state
 .rw [if_pos he] at c1
  rw [if_neg he]
  generalize f0L ps=e at*
  refine a0p mixed a0x Tryz.func36 rfl (by kernel_rfl) (by kernel_rfl) (by kernel_rfl) ?_
  repeat' ((conv=>whnf);first|refine a0e (l:= [0,2]) (c1) ?_|((first|apply a0f|apply a0c|apply a0g|apply a0b|apply a0h|apply a0a)<;>intro h<;>try (exfalso;(try dsimp only at h);omega))|refine a0i ?_)
  all_goals (conv=>whnf)
  all_goals first
   |exact a0n (l:= [0,1,2]) rfl rfl trivial a0k
   |(exfalso;omega)
   |trace_state
end
end Go.Proofs.YtmgnedokogidoaaGreatDoor
