/- Several texts in one: XNum, XMoneyC, XAuP, XPanC, XBinC, XBkP, XBitsP, XFmtC, XBitsC, XMoneyC3, XMoneyC4, XPosA, XPosB, XPosC, XSortP, XPosD, XPosE, XCalA, XPosF, XPosG, XPosH, XPosI, XPosJ, XPosK, XMoneyC2, XRateC, XFmtC2, XFmtC3, XRateC2, XRateC3, XRateC4, XRateL, XRateM, XRateF, XPosL, XPosM, XPosN, XPosO, XSidx, XPosQ, XPosR. -/
import Derived.Test.YtlankgapiecloaaGreatDoorYLib
import Derived.Test.YtlankgapiecloaaGreatDoorTab
import Derived.Test.YtlankgapiecloaaGreatDoorYCalls
import Derived.Test.YtlankgapiecloaaGreatDoorShelf
import Derived.Test.YtlankgapiecloaaGreatDoorYPlain
import Derived.Test.YtlankgapiecloaaGreatDoorYSort
import Derived.Sort.Walk0
import Derived.Test.YtlankgapiecloaaGreatDoorLay
import Derived.Test.YtlankgapiecloaaGreatDoorYKeys
import Derived.Test.YtlankgapiecloaaGreatDoorYNil
import Derived.Test.YtlankgapiecloaaGreatDoorYIdx
namespace Go.Sy
open Go.RowKit
theorem u32_in' {n:Int} (h:0≤n) (h':n≤4294967295):IntKind.u32.wrap n=n:=IntWalk.u32_in n ⟨h,h'⟩
theorem u64_in' {n:Int} (h:0≤n) (h':n≤18446744073709551615):IntKind.u64.wrap n=n:=IntWalk.u64_in n ⟨h,h'⟩
theorem u8_in' {n:Int} (h:0≤n) (h':n≤255):IntKind.u8.wrap n=n:=IntWalk.u8_in n ⟨h,h'⟩
theorem ishr_lit {k:IntKind} {x:Int} (n:Nat) (h:n≤k.bits):ishr k x (n:Int)=x/2^n:=by
 unfold ishr
 rw [Int.toNat_natCast,Nat.min_eq_left h,Int.fdiv_eq_ediv_of_nonneg]
 exact Int.pow_nonneg (by omega)
theorem ishr_lit8 {x:Int}:ishr .u64 x 8=x/256:=ishr_lit (k:= .u64) 8 (by decide)
theorem ishr_lit16 {x:Int}:ishr .u64 x 16=x/65536:=ishr_lit (k:= .u64) 16 (by decide)
theorem ishr_lit32 {x:Int}:ishr .u64 x 32=x/4294967296:=ishr_lit (k:= .u64) 32 (by decide)
theorem ishr_lit18 {x:Int}:ishr .i64 x 18=x/262144:=ishr_lit (k:= .i64) 18 (by decide)
theorem sz_lt {s:ByteArray} {x:Int} {n:Nat} (h:s.size=n) (k:x<(n:Int)):x<(s.size:Int):=by rw [h];exact k
theorem sz_le {s:ByteArray} {x:Int} {n:Nat} (h:s.size=n) (k:x≤(n:Int)):x≤(s.size:Int):=by rw [h];exact k
def digs:Nat→Nat→List Int
 |0,_=> []
 |n+1,u=>digs n (u/10)++ [((48+u%10:Nat):Int)]
theorem digs_length:∀n u,(digs n u).length=n
 |0,_=>rfl
 |n+1,u=>by simp [digs,digs_length n]
theorem digs_get:∀(n u i:Nat),i<n→(digs n u)[i]?=some ((48+u/10^(n-1-i)%10:Nat):Int)
 |0,_,i,h=>by omega
 |n+1,u,i,h=>by
  simp only [digs]
  by_cases e:i<n
  ·rw [List.getElem?_append_left (by rw [digs_length];exact e),digs_get n (u/10) i e,Nat.div_div_eq_div_mul,show 10*10^(n-1-i)=10^(n+1-1-i) from by rw [←Nat.pow_succ'];congr 1;omega]
  ·have e':i=n:=by omega
   subst e'
   rw [List.getElem?_append_right (by rw [digs_length];exact Nat.le_refl _),digs_length]
   simp
def ndig (u:Nat):Nat:=if u<10 then 1 else ndig (u/10)+1
termination_by u
decreasing_by omega
theorem ndig_pos (u:Nat):0<ndig u:=by rw [ndig];split<;>omega
theorem ndig_lt (u:Nat):u<10^ndig u:=by
 induction u using Nat.strongRecOn with
 |_ u ih=>
  rw [ndig]
  split
  ·simpa using ‹u<10›
  ·have:=ih (u/10) (by omega)
   rw [Nat.pow_succ]
   omega
theorem ndig_ge (u:Nat) (h:1≤u):10^(ndig u-1)≤u:=by
 induction u using Nat.strongRecOn with
 |_ u ih=>
  rw [ndig]
  split
  ·simpa using h
  ·have:=ih (u/10) (by omega) (by omega)
   have hp:=ndig_pos (u/10)
   rw [show ndig (u/10)+1-1=(ndig (u/10)-1)+1 from by omega,Nat.pow_succ]
   omega
theorem ndig_unique {u k:Nat} (h1:10^k≤u) (h2:u<10^(k+1)):ndig u=k+1:=by
 have hu:1≤u:=Nat.le_trans (Nat.one_le_pow _ _ (by omega)) h1
 have a:=ndig_lt u
 have b:=ndig_ge u hu
 have hp:=ndig_pos u
 rcases Nat.lt_trichotomy (ndig u) (k+1) with h|h|h
 ·have:10^ndig u≤10^k:=Nat.pow_le_pow_right (by omega) (by omega)
  omega
 ·exact h
 ·have:10^(k+1)≤10^(ndig u-1):=Nat.pow_le_pow_right (by omega) (by omega)
  omega
def dec (u:Nat):ByteArray:=bytesOf (digs (ndig u) u)
def decI (n:Int):ByteArray:=if n<0 then bytesOf (45::digs (ndig n.natAbs) n.natAbs) else dec n.toNat
def blen (u:Nat):Nat:=if u=0 then 0 else u.log2+1
theorem blen_lt (u:Nat):u<2^blen u:=by
 unfold blen
 split
 ·omega
 ·exact Nat.lt_log2_self
theorem blen_ge (u:Nat) (h:1≤u):2^(blen u-1)≤u:=by
 unfold blen
 rw [if_neg (by omega),Nat.add_sub_cancel]
 exact Nat.log2_self_le (by omega)
theorem blen_unique {u k:Nat} (h1:2^k≤u) (h2:u<2^(k+1)):blen u=k+1:=by
 have hu:1≤u:=Nat.le_trans (Nat.one_le_pow _ _ (by omega)) h1
 have a:=blen_lt u
 have b:=blen_ge u hu
 have hp:0<blen u:=by unfold blen;rw [if_neg (by omega)];omega
 rcases Nat.lt_trichotomy (blen u) (k+1) with h|h|h
 ·have:2^blen u≤2^k:=Nat.pow_le_pow_right (by omega) (by omega)
  omega
 ·exact h
 ·have:2^(k+1)≤2^(blen u-1):=Nat.pow_le_pow_right (by omega) (by omega)
  omega
theorem blen_le64 {u:Nat} (h:u<2^64):blen u≤64:=by
 rcases Nat.lt_or_ge 64 (blen u) with h1|h1
 ·have hu:1≤u:=by
   rcases Nat.eq_zero_or_pos u with e|e
   ·subst e;simp [blen] at h1
   ·exact e
  have a:=blen_ge u hu
  have:2^64≤2^(blen u-1):=Nat.pow_le_pow_right (by omega) (by omega)
  omega
 ·exact h1
theorem blen_shift (u k:Nat) (h:2^k≤u):blen u=k+blen (u/2^k):=by
 have h1:1≤u/2^k:=(Nat.one_le_div_iff (Nat.two_pow_pos k)).2 h
 have a:=blen_lt (u/2^k)
 have b:=blen_ge (u/2^k) h1
 have hp:0<blen (u/2^k):=by unfold blen;rw [if_neg (by omega)];omega
 have:blen u=(k+blen (u/2^k)-1)+1:=by
  refine blen_unique ?_ ?_
  ·rw [show k+blen (u/2^k)-1=(blen (u/2^k)-1)+k from by omega,Nat.pow_add]
   exact (Nat.le_div_iff_mul_le (Nat.two_pow_pos k)).1 b
  ·rw [show k+blen (u/2^k)-1+1=blen (u/2^k)+k from by omega,Nat.pow_add]
   exact (Nat.div_lt_iff_lt_mul (Nat.two_pow_pos k)).1 a
 omega
theorem ndig_by_blen:∀L,L≤64→1≤L→10^(L*78913/2^18)≤2^L∧2^L≤10^(L*78913/2^18+1)∧(L*78913/2^18=0∨10^(L*78913/2^18-1)≤2^(L-1)):=by
 decide+kernel
theorem ndig_lib {u:Nat} (h1:1≤u) (h2:u<2^64):ndig u=blen u*78913/2^18+(if 10^(blen u*78913/2^18)≤u then 1 else 0):=by
 have hp:1≤blen u:=by unfold blen;rw [if_neg (by omega)];omega
 obtain ⟨a,b,c⟩:=ndig_by_blen (blen u) (blen_le64 h2) hp
 have d:=blen_lt u
 have e:=blen_ge u h1
 generalize blen u*78913/2^18=k at*
 split
 ·exact ndig_unique ‹_› (Nat.lt_of_lt_of_le d b)
 ·rcases c with c|c
  ·subst c;rename_i h;simp at h;omega
  ·have hk:k≠0:=by intro h;subst h;rename_i h;simp at h;omega
   have:=ndig_unique (u:=u) (k:=k-1) (Nat.le_trans c e) (by rw [show k-1+1=k from by omega];omega)
   omega
def tabB (s:ByteArray) (n:Nat) (f:Nat→Nat):Bool:=decide (s.size=n)&&(List.range n).all (fun i=>Nat.beq (s.data.toList.getD i 0).toNat (f i))
theorem tabB_at {s:ByteArray} {n:Nat} {f:Nat→Nat} (h:tabB s n f=true) {i:Nat} (hi:i<n):byteAt s (i:Int)=(f i:Int):=by
 unfold tabB at h
 simp only [Bool.and_eq_true,List.all_eq_true,List.mem_range] at h
 unfold byteAt
 rw [Int.toNat_natCast,Nat.eq_of_beq_eq_true (h.2 i hi)]
def smF (i:Nat):Nat:=if i%2=0 then 48+i/20 else 48+i/2%10
theorem sm_odd {s:ByteArray} (h:tabB s 200 smF=true) {y:Int} (h0:0≤y) (h1:y<100):byteAt s (y*2+1)=48+y%10:=by
 have e:y*2+1=((y.toNat*2+1:Nat):Int):=by omega
 rw [e,tabB_at h (by omega)]
 unfold smF
 rw [if_neg (by omega)]
 omega
theorem sm_even {s:ByteArray} (h:tabB s 200 smF=true) {y:Int} (h0:0≤y) (h1:y<100):byteAt s (y*2)=48+y/10:=by
 have e:y*2=((y.toNat*2:Nat):Int):=by omega
 rw [e,tabB_at h (by omega)]
 unfold smF
 rw [if_pos (by omega)]
 omega
def dtab (l:List Int) (N o n U m:Nat):List Int:=(List.range N).map (fun x=>if o+n-m≤x∧x<o+n then ((48+U/10^(o+n-1-x)%10:Nat):Int) else l.getD x 0)
theorem dtab_length (l:List Int) (N o n U m:Nat):(dtab l N o n U m).length=N:=by simp [dtab]
theorem dtab_zero {l:List Int} {N o n U:Nat} (h:l.length=N):dtab l N o n U 0=l:=by
 apply List.ext_getElem?
 intro i
 simp only [dtab,List.getElem?_map]
 by_cases hi:i<N
 ·rw [List.getElem?_range hi]
  simp only [Option.map_some]
  rw [if_neg (by omega),List.getD,List.getElem?_eq_getElem (by omega)]
  rfl
 ·rw [List.getElem?_eq_none (by simp;omega),List.getElem?_eq_none (by omega)];rfl
theorem dtab_set {l:List Int} {N o n U m i:Nat} {v:Int} (hm:m<n) (hN:o+n≤N) (hi:i=o+n-m-1) (hv:v=((48+U/10^m%10:Nat):Int)):(dtab l N o n U m).set i v=dtab l N o n U (m+1):=by
 subst hi
 apply List.ext_getElem?
 intro x
 rw [List.getElem?_set,dtab_length]
 by_cases e:o+n-m-1=x
 ·subst e
  rw [if_pos rfl,if_pos (by omega)]
  simp only [dtab,List.getElem?_map]
  rw [List.getElem?_range (by omega)]
  simp only [Option.map_some]
  rw [if_pos (by omega),hv,show o+n-1-(o+n-m-1)=m from by omega]
 ·rw [if_neg e]
  simp only [dtab,List.getElem?_map]
  by_cases hx:x<N
  ·rw [List.getElem?_range hx]
   simp only [Option.map_some]
   by_cases h2:o+n-m≤x∧x<o+n
   ·rw [if_pos h2,if_pos (by omega)]
   ·rw [if_neg h2,if_neg (by omega)]
  ·rw [List.getElem?_eq_none (by simp;omega)];rfl
theorem dtab_seg {l:List Int} {N o n U:Nat} (hN:o+n≤N):seg o n (dtab l N o n U n)=digs n U:=by
 apply List.ext_getElem?
 intro i
 unfold seg
 by_cases hi:i<n
 ·rw [List.getElem?_take,if_pos hi,List.getElem?_drop,digs_get _ _ _ hi]
  simp only [dtab,List.getElem?_map]
  rw [List.getElem?_range (by omega)]
  simp only [Option.map_some]
  rw [if_pos (by omega),show o+n-1-(o+i)=n-1-i from by omega]
 ·rw [List.getElem?_take,if_neg hi,List.getElem?_eq_none (by rw [digs_length];omega)]
theorem pow_step (U m j:Nat):U/10^(m+j)=U/10^m/10^j:=by rw [Nat.pow_add,Nat.div_div_eq_div_mul]
attribute [irreducible] dtab dec decI
theorem seg_head {L:List Int} {n:Nat} {v:Int} (h:0<L.length):seg 0 (1+n) (L.set 0 v)=v::seg 1 n L:=by
 cases L with
 |nil=>simp at h
 |cons x l=>simp [seg,Nat.add_comm 1 n]
end Go.Sy
namespace Go.Proofs.YtlankgapiecloaaGreatDoor
open Go.RowKit Go.Sy
attribute [local irreducible] vcall vloop vcallD retP
set_option maxRecDepth 100000
set_option linter.unusedVariables false
theorem i64_succ {k:Nat} (h:k<9223372036854775806):IntKind.i64.wrap ((k:Int)+1)=((k+1:Nat):Int):=by rw [w64_in (by omega) (by omega)];rfl
def capAt (s:ByteArray) (i:Nat):Bool:=decide (65≤byteAt s (i:Int))&&decide (byteAt s (i:Int)≤90)
def capsTo (s:ByteArray):Nat→Bool
 |0=>true
 |k+1=>capsTo s k&&capAt s k
def curB (s:ByteArray):Bool:=decide (s.size=3)&&capsTo s s.size
theorem capsTo_false {s:ByteArray} {k n:Nat} (h:k<n) (hc:capAt s k=false):capsTo s n=false:=by
 induction n with
 |zero=>omega
 |succ n ih=>
  simp only [capsTo]
  by_cases e:k=n
  ·subst e;simp [hc]
  ·rw [ih (by omega)];rfl
theorem curB_false {s:ByteArray} {k:Nat} (h:k<s.size) (hc:byteAt s (k:Int)<65∨90<byteAt s (k:Int)):curB s=false:=by
 have:capAt s k=false:=by unfold capAt;simp;omega
 unfold curB
 rw [capsTo_false h this];simp
theorem curB_size {s:ByteArray} (h:s.size≠3):curB s=false:=by unfold curB;simp [h]
theorem capsTo_step {s:ByteArray} {k:Nat} (h:capsTo s k=true) (h1:¬byteAt s (k:Int)<65) (h2:¬90<byteAt s (k:Int)):capsTo s (k+1)=true:=by
 simp only [capsTo,h,capAt];simp;omega
attribute [irreducible] curB
theorem money_isCurrency (s:ByteArray):Pure Tryz.prog 199 [.str s] (.bool (curB s)):=by
 refine fc_of mixed T_ok Tryz.func199 rfl (by kernel_rfl) (by kernel_rfl) (by kernel_rfl) ?_
 repeat' ((conv=>whnf);first|((first|apply br_dec|apply br_ndec)<;>intro h<;>try (exfalso;(try dsimp only at h);omega))|((first|apply br_seq|apply br_nseq|apply br_not|apply br_intro)<;>intro h)|refine cond_a ?_)
 all_goals (conv=>whnf)
 ·exact ret_pure (by rw [curB_size (by omega)];rfl)
 ·refine vloop_of (fun k:Nat=>⟨[(0,.str s),(8,.int .i64 s.size),(9,.int .i64 k)],[],1⟩) (fun k=>k≤s.size∧capsTo s k=true) (fun k=>s.size-k) 0 [0] [] ⟨rfl,⟨rfl,rfl,rfl,trivial⟩,trivial⟩ ⟨by omega,rfl⟩ ?_
  rintro k ⟨hk,hc⟩
  repeat' ((conv=>whnf);first|((first|apply br_dec|apply br_ndec)<;>intro h<;>try (exfalso;(try dsimp only at h);omega))|((first|apply br_seq|apply br_nseq|apply br_not|apply br_intro)<;>intro h)|refine cond_a ?_)
  all_goals (conv=>whnf)
  ·exact ret_pure (by rw [curB_false (k:=k) (by omega) (by omega)];rfl)
  ·exact ret_pure (by rw [curB_false (k:=k) (by omega) (by omega)];rfl)
  ·exact ⟨k+1,[0],[],⟨by omega,capsTo_step hc (by omega) (by omega)⟩,by omega,⟨rfl,⟨rfl,rfl,congrArg (fun z=>some (SV.int .i64 z)) (i64_succ (by omega)),trivial⟩,trivial⟩⟩
  ·have e:k=s.size:=by omega
   subst e
   refine ret_pure ?_
   have:curB s=true:=by unfold curB;rw [hc];simp;omega
   rw [this];rfl
end Go.Proofs.YtlankgapiecloaaGreatDoor
namespace Go.Proofs.YtlankgapiecloaaGreatDoor
open Go.RowKit Go.Sy
set_option linter.unusedVariables false
set_option linter.unusedSimpArgs false
def auC (c:Int):Bool:=decide ((97≤c∧c≤122)∨(65≤c∧c≤90)∨(48≤c∧c≤57)∨c=95∨c=45)
def auI (s:ByteArray):Bool:=decide (1≤s.size∧s.size≤16)&&(List.range s.size).all (fun i=>auC (byteAt s (i:Int)))
theorem auI_size {s:ByteArray} (h:s.size<1∨16<s.size):auI s=false:=by
 unfold auI
 rw [decide_eq_false (by omega),Bool.false_and]
theorem auI_no {s:ByteArray} {k:Nat} (hk:k<s.size) (hc:¬((97≤byteAt s (k:Int)∧byteAt s (k:Int)≤122)∨(65≤byteAt s (k:Int)∧byteAt s (k:Int)≤90)∨(48≤byteAt s (k:Int)∧byteAt s (k:Int)≤57)∨byteAt s (k:Int)=95∨byteAt s (k:Int)=45)):auI s=false:=by
 unfold auI
 rw [Bool.and_eq_false_iff]
 refine .inr ?_
 cases e:(List.range s.size).all (fun i=>auC (byteAt s (i:Int))) with
 |false=>rfl
 |true=>
  rw [List.all_eq_true] at e
  exact absurd (of_decide_eq_true (e k (by simpa using hk))) hc
def auTo (s:ByteArray) (k:Nat):Prop:=∀i,i<k→auC (byteAt s (i:Int))=true
theorem auTo_succ {s:ByteArray} {k:Nat} (h:auTo s k) (hc:(97≤byteAt s (k:Int)∧byteAt s (k:Int)≤122)∨(65≤byteAt s (k:Int)∧byteAt s (k:Int)≤90)∨(48≤byteAt s (k:Int)∧byteAt s (k:Int)≤57)∨byteAt s (k:Int)=95∨byteAt s (k:Int)=45):auTo s (k+1):=by
 intro i hi
 by_cases e:i=k
 ·subst e;unfold auC;exact decide_eq_true hc
 ·exact h i (by omega)
theorem auI_all {s:ByteArray} (h1:1≤s.size) (h2:s.size≤16) (h:auTo s s.size):auI s=true:=by
 unfold auI
 rw [decide_eq_true ⟨h1,h2⟩,Bool.true_and,List.all_eq_true]
 exact fun i hi=>h i (by simpa using hi)
attribute [irreducible] auI
structure Au where
 id:ByteArray
 cur:ByteArray
 app:Int
 rev:Int
 cle:Int
 exp:Int
 st:Int
 att:Int
 unt:Int
 pa:Int
abbrev Au.s (a:Au):SV:= .agg [.str a.id,.str a.cur,.int .i64 a.app,.int .i64 a.rev,.int .i64 a.cle,.int .i64 a.exp,.int .i64 a.st,.int .i64 a.att,.int .i64 a.unt,.int .i64 a.pa]
theorem Au.eta (a:Au):Au.mk a.id a.cur a.app a.rev a.cle a.exp a.st a.att a.unt a.pa=a:=rfl
def Au.zero:Au:=⟨⟨#[]⟩,⟨#[]⟩,0,0,0,0,0,0,0,0⟩
@[irreducible] def fundsW (a:Au):Int:=IntKind.i64.wrap (IntKind.i64.wrap (IntKind.i64.wrap (a.app-a.rev)-a.cle)-a.exp)
@[irreducible] def stateOf (a:Au):Int:=if 0<fundsW a then 1 else if 0<a.exp then 4 else if 0<a.cle then 2 else 3
def amountOk (n:Int):Bool:=decide (0≤n∧n≤999999999999)
@[irreducible] def checkZ (a:Au):Int:=
 if auI a.id=false then 5 else if curB a.cur=false then 11
 else if¬(1≤a.app∧a.app≤999999999999∧0≤a.rev∧a.rev≤999999999999∧0≤a.cle∧a.cle≤999999999999∧0≤a.exp∧a.exp≤999999999999) then 4
 else if fundsW a<0 then 26
 else if¬(0≤a.att∧a.att≤1099511627776∧a.att<a.unt∧a.unt≤1099511627776) then 14
 else if¬(0≤a.pa∧a.pa≤8∧a.pa≤a.cle∧(a.pa=0↔a.cle=0)) then 4
 else if a.st≠stateOf a∨(a.st=1∧a.exp≠0) then 8 else 0
theorem fundsW_eq (a:Au) (h1:0≤a.app) (h2:a.app≤999999999999) (h3:0≤a.rev) (h4:a.rev≤999999999999) (h5:0≤a.cle) (h6:a.cle≤999999999999) (h7:0≤a.exp) (h8:a.exp≤999999999999):fundsW a=a.app-a.rev-a.cle-a.exp:=by
 unfold fundsW
 rw [w64_in (n:=a.app-a.rev) (by omega) (by omega),w64_in (n:=a.app-a.rev-a.cle) (by omega) (by omega),w64_in (by omega) (by omega)]
@[irreducible] def openZ (a:Au):Int:=if checkZ a=0 then fundsW a else 0
@[irreducible] def usableZ (a:Au):Int:=if checkZ a=0 then (if a.st=1 then 0 else 8) else checkZ a
structure Facts (a:Au):Prop where
 id:auI a.id=true
 cur:curB a.cur=true
 app:1≤a.app∧a.app≤999999999999
 rev:0≤a.rev∧a.rev≤999999999999
 cle:0≤a.cle∧a.cle≤999999999999
 exp:0≤a.exp∧a.exp≤999999999999
 funds:fundsW a=a.app-a.rev-a.cle-a.exp
 nneg:0≤fundsW a
 time:0≤a.att∧a.att≤1099511627776∧a.att<a.unt∧a.unt≤1099511627776
 pa:0≤a.pa∧a.pa≤8∧a.pa≤a.cle∧(a.pa=0↔a.cle=0)
 st:a.st=stateOf a
 op:a.st=1→a.exp=0
theorem facts_of {a:Au} (h:checkZ a=0):Facts a:=by
 unfold checkZ at h
 split at h;·simp at h
 split at h;·simp at h
 split at h;·simp at h
 split at h;·simp at h
 split at h;·simp at h
 split at h;·simp at h
 split at h;·simp at h
 rename_i h1 h2 h3 h4 h5 h6 h7
 have e:=fundsW_eq a (by omega) (by omega) (by omega) (by omega) (by omega) (by omega) (by omega) (by omega)
 have h7':a.st=stateOf a∧(a.st=1→a.exp=0):=by
  constructor
  ·apply Classical.byContradiction;intro x;exact h7 (.inl x)
  ·intro x;apply Classical.byContradiction;intro y;exact h7 (.inr ⟨x,y⟩)
 exact ⟨by simpa using h1,by simpa using h2,by omega,by omega,by omega,by omega,e,by omega,by omega,by omega,h7'.1,h7'.2⟩
theorem usable_facts {a:Au} (h:usableZ a=0):Facts a∧a.st=1∧0<fundsW a∧openZ a=fundsW a∧checkZ a=0∧a.exp=0:=by
 unfold usableZ at h
 split at h
 ·rename_i hc
  split at h
  ·rename_i hs
   have f:=facts_of hc
   refine ⟨f,hs,?_,by unfold openZ;rw [if_pos hc],hc,f.op hs⟩
   have:=f.st
   rw [hs] at this
   unfold stateOf at this
   split at this
   ·assumption
   ·split at this
    ·simp at this
    ·split at this<;>simp at this
  ·simp at h
 ·rename_i hc;exact absurd h hc
@[irreducible] def newZ (id cur:ByteArray) (n at_ un:Int):Au×Int:=
 let a:Au:=⟨id,cur,n,0,0,0,1,at_,un,0⟩
 if checkZ a=0 then (a,0) else (Au.zero,checkZ a)
@[irreducible] def raiseZ (a:Au) (n u:Int):Au×Int:=
 if usableZ a≠0 then (Au.zero,usableZ a) else if¬(1≤n∧n≤999999999999-a.app) then (Au.zero,4)
 else if u<a.unt∨1099511627776<u then (Au.zero,14) else ({ a with app:=a.app+n,unt:=u},0)
@[irreducible] def reverseZ (a:Au) (n:Int):Au×Int×Int:=
 if usableZ a≠0 then (Au.zero,0,usableZ a) else if¬(0≤n∧n≤fundsW a) then (Au.zero,0,4)
 else ({ a with rev:=a.rev+(if n=0 then fundsW a else n),st:=stateOf { a with rev:=a.rev+(if n=0 then fundsW a else n)}},(if n=0 then fundsW a else n),0)
@[irreducible] def clearZ (a:Au) (n:Int) (f:Bool):Au×Int×Int×Int:=
 if usableZ a≠0 then (Au.zero,0,0,usableZ a) else if¬(1≤n∧n≤999999999999) then (Au.zero,0,0,4) else if 8≤a.pa then (Au.zero,0,0,10)
 else ({ a with cle:=a.cle+min n (fundsW a),rev:=a.rev+(if f=true then fundsW a-min n (fundsW a) else 0),pa:=a.pa+1,
                st:=stateOf { a with cle:=a.cle+min n (fundsW a),rev:=a.rev+(if f=true then fundsW a-min n (fundsW a) else 0),pa:=a.pa+1}},
       min n (fundsW a),(if f=true then fundsW a-min n (fundsW a) else 0),0)
@[irreducible] def expireZ (a:Au) (t:Int):Au×Int×Int:=
 if usableZ a≠0 then (Au.zero,0,usableZ a) else if t<a.unt then (Au.zero,0,14)
 else ({ a with exp:=a.exp+fundsW a,st:=stateOf { a with exp:=a.exp+fundsW a}},fundsW a,0)
theorem newZ_id (id cur:ByteArray) (n at_ un:Int) (h:(newZ id cur n at_ un).2=0):(newZ id cur n at_ un).1.id=id:=by
 unfold newZ at h⊢
 dsimp only at h⊢
 split
 ·rfl
 ·rename_i hc;rw [if_neg hc] at h;exact absurd h hc
abbrev t2 (r:Au×Int):SV:= .tup [r.1.s,.int .i64 r.2]
abbrev t3 (r:Au×Int×Int):SV:= .tup [r.1.s,.int .i64 r.2.1,.int .i64 r.2.2]
abbrev t4 (r:Au×Int×Int×Int):SV:= .tup [r.1.s,.int .i64 r.2.1,.int .i64 r.2.2.1,.int .i64 r.2.2.2]
theorem new_check (id cur:ByteArray) (n at_ un:Int):checkZ ⟨id,cur,n,0,0,0,stateOf ⟨id,cur,n,0,0,0,0,at_,un,0⟩,at_,un,0⟩=checkZ ⟨id,cur,n,0,0,0,1,at_,un,0⟩∧
  (checkZ ⟨id,cur,n,0,0,0,1,at_,un,0⟩=0→stateOf ⟨id,cur,n,0,0,0,0,at_,un,0⟩=1):=by
 by_cases hn:1≤n∧n≤999999999999
 ·have e:stateOf ⟨id,cur,n,0,0,0,0,at_,un,0⟩=1:=by
   unfold stateOf
   rw [fundsW_eq _ (by simp;omega) (by simp;omega) (by simp) (by simp) (by simp) (by simp) (by simp) (by simp)]
   simp;omega
  rw [e];exact ⟨rfl,fun _=>rfl⟩
 ·constructor
  ·unfold checkZ
   simp only
   split;·rfl
   split;·rfl
   rw [if_pos (by omega),if_pos (by omega)]
  ·intro h;have:=(facts_of h).app;simp at this;omega
end Go.Proofs.YtlankgapiecloaaGreatDoor
namespace Go.Proofs.YtlankgapiecloaaGreatDoor
open Go.RowKit Go.Sy
attribute [local irreducible] vcall vloop vcallD retP
set_option maxRecDepth 100000
set_option linter.unusedVariables false
set_option linter.unusedSimpArgs false
def dgAt (s:ByteArray) (i:Nat):Prop:=48≤byteAt s (i:Int)∧byteAt s (i:Int)≤57
instance (s:ByteArray) (i:Nat):Decidable (dgAt s i):=by unfold dgAt;infer_instance
end Go.Proofs.YtlankgapiecloaaGreatDoor
namespace Go.Proofs.YtlankgapiecloaaGreatDoor
open Go.RowKit Go.Sy
attribute [local irreducible] vcall vloop vcallD retP
set_option maxRecDepth 100000
set_option linter.unusedVariables false
set_option linter.unusedSimpArgs false
def mkB (c:Int):Bool:=decide (0≤Lib.indexByte [40,41,123,125,44,59,58,61,60,62,43,45,42,37,46] c.toNat.toUInt8)
theorem str_Marks (c:Int) (h0:0≤c) (h1:c<128):Pure Tryz.prog 77 [.str ⟨#[40,41,123,125,44,59,58,61,60,62,43,45,42,37,46]⟩,.int .i32 c] (.bool (mkB c)):=by
 refine pure_of_calls (vals:= [.string ⟨#[40,41,123,125,44,59,58,61,60,62,43,45,42,37,46]⟩,.int .i32 c]) (v:= .bool (mkB c)) (bodied_of' Tryz.func77 (by kernel_rfl) (by kernel_rfl)) ?_ ?_ ?_
 ·intro g vs h
  simpa [Rvs,Rv] using h
 ·intro g;simp [Rv]
 ·intro w
  have h:=Tryz.strings_ContainsRune_ascii ⟨#[40,41,123,125,44,59,58,61,60,62,43,45,42,37,46]⟩ c w h0 h1
  refine h.mono ?_
  rintro e w' ⟨rfl,rfl⟩
  exact ⟨rfl,Below.refl _ _⟩
def ltP (c:Int):Prop:=(97≤c∧c≤122)∨(65≤c∧c≤90)
instance (c:Int):Decidable (ltP c):=by unfold ltP;infer_instance
def wdP (c:Int):Prop:=ltP c∨(48≤c∧c≤57)∨c=95
instance (c:Int):Decidable (wdP c):=by unfold wdP;infer_instance
def clsI (c:Int):Int:=if c=32∨c=9∨c=10 then 1 else if ltP c then 2 else if 48≤c∧c≤57 then 3 else if c=95 then 4 else if c=34 then 5 else if c=35 then 6 else if c≤126∧mkB c=true then 7 else 0
theorem i32_in {c:Int} (h0:0≤c) (h1:c≤255):IntKind.i32.wrap c=c:=IntWalk.i32_in _ ⟨by omega,by omega⟩
theorem clsI_lt {c:Int}:clsI c=2↔ltP c:=by
 unfold clsI
 by_cases h:ltP c
 ·have:¬(c=32∨c=9∨c=10):=by unfold ltP at h;omega
  rw [if_neg this,if_pos h];simp [h]
 ·simp only [if_neg h]
  (repeat' split)<;>simp [h]
theorem clsI_wd {c:Int}:(clsI c=2∨clsI c=3∨clsI c=4)↔wdP c:=by
 have e:∀x,clsI c=x→(clsI c=2∨clsI c=3∨clsI c=4↔x=2∨x=3∨x=4):=fun x e=>by rw [e]
 refine (e _ rfl).trans ?_
 unfold wdP
 by_cases h2:ltP c
 ·have:=clsI_lt.2 h2;simp [this,h2]
 ·have h2':=h2
  unfold ltP at h2'
  have n2:clsI c≠2:=fun h=>h2 (clsI_lt.1 h)
  have e3:clsI c=3↔(48≤c∧c≤57):=by
   unfold clsI;rw [if_neg h2];(repeat' split)<;>omega
  have e4:clsI c=4↔c=95:=by
   unfold clsI;rw [if_neg h2];(repeat' split)<;>omega
  rw [e3,e4]
  simp [n2,h2]
theorem lex_classOf (c:Int) (h0:0≤c) (h1:c≤255):Pure Tryz.prog 55 [.int .i32 c] (.int .i64 (clsI c)):=by
 by_cases h126:c≤126
 ·have cm:=str_Marks c h0 (by omega)
  cases hm:mkB c with
  |true=>
   rw [hm] at cm
   unfold clsI ltP
   rw [hm]
   refine fc_of mixed T_ok Tryz.func55 rfl (by kernel_rfl) (by kernel_rfl) (by kernel_rfl) ?_
   repeat' ((conv=>whnf);first|(refine vcall_pure (cm) rfl rfl rfl ?_)|(refine vcallD_pure (cm) rfl rfl rfl ?_)|((first|apply br_dec|apply br_ndec)<;>intro h<;>try (exfalso;(try dsimp only at h);omega))|((first|apply br_seq|apply br_nseq|apply br_not|apply br_intro)<;>intro h)|refine cond_a ?_)
   all_goals (conv=>whnf)
   all_goals (refine ret_pure (congrArg (SV.int .i64) ?_))
   all_goals first
    |((try simp only [and_true,Bool.false_eq_true,and_false,if_false]);(repeat' split)<;>omega)
  |false=>
   rw [hm] at cm
   unfold clsI ltP
   rw [hm]
   refine fc_of mixed T_ok Tryz.func55 rfl (by kernel_rfl) (by kernel_rfl) (by kernel_rfl) ?_
   repeat' ((conv=>whnf);first|(refine vcall_pure (cm) rfl rfl rfl ?_)|(refine vcallD_pure (cm) rfl rfl rfl ?_)|((first|apply br_dec|apply br_ndec)<;>intro h<;>try (exfalso;(try dsimp only at h);omega))|((first|apply br_seq|apply br_nseq|apply br_not|apply br_intro)<;>intro h)|refine cond_a ?_)
   all_goals (conv=>whnf)
   all_goals (refine ret_pure (congrArg (SV.int .i64) ?_))
   all_goals first
    |((try simp only [and_true,Bool.false_eq_true,and_false,if_false]);(repeat' split)<;>omega)
 ·unfold clsI ltP
  refine fc_of mixed T_ok Tryz.func55 rfl (by kernel_rfl) (by kernel_rfl) (by kernel_rfl) ?_
  repeat' ((conv=>whnf);first|((first|apply br_dec|apply br_ndec)<;>intro h<;>try (exfalso;(try dsimp only at h);omega))|((first|apply br_seq|apply br_nseq|apply br_not|apply br_intro)<;>intro h)|refine cond_a ?_)
  all_goals (conv=>whnf)
  all_goals (refine ret_pure (congrArg (SV.int .i64) ?_))
  all_goals first
   |((repeat' split)<;>omega)
theorem lex_isWordByte (c:Int) (h0:0≤c) (h1:c≤255):Pure Tryz.prog 78 [.int .u8 c] (.bool (decide (wdP c))):=by
 have c1:=lex_classOf c h0 h1
 have hw:=clsI_wd (c:=c)
 rw [show (SV.int .i32 c)=SV.int .i32 (IntKind.i32.wrap c) by rw [i32_in h0 h1]] at c1
 generalize clsI c=x at c1 hw
 refine fc_of mixed T_ok Tryz.func78 rfl (by kernel_rfl) (by kernel_rfl) (by kernel_rfl) ?_
 repeat' ((conv=>whnf);first|(refine vcall_pure (c1) rfl rfl rfl ?_)|(refine vcallD_pure (c1) rfl rfl rfl ?_)|((first|apply br_dec|apply br_ndec)<;>intro h<;>try (exfalso;(try dsimp only at h);omega))|((first|apply br_seq|apply br_nseq|apply br_not|apply br_intro)<;>intro h)|refine cond_a ?_)
 all_goals (conv=>whnf)
 all_goals first
  |exact ret_pure (congrArg SV.bool (decide_eq_true (hw.1 (by omega))).symm)
  |exact ret_pure (congrArg SV.bool (decide_eq_decide.2 ⟨fun hh=>hw.1 (Or.inr (Or.inr hh)),fun hh=>(hw.2 hh).resolve_left (by omega)|>.resolve_left (by omega)⟩))
def wdTo (s:ByteArray):Nat→Bool
 |0=>true
 |k+1=>wdTo s k&&decide (wdP (byteAt s (k:Int)))
theorem wdTo_step {s:ByteArray} {k:Nat} (h:wdTo s k=true) (h1:wdP (byteAt s (k:Int))):wdTo s (k+1)=true:=by
 simp only [wdTo,h,Bool.true_and,decide_eq_true_eq];exact h1
theorem wdTo_false {s:ByteArray} {k n:Nat} (h:k<n) (hc:¬wdP (byteAt s (k:Int))):wdTo s n=false:=by
 induction n with
 |zero=>omega
 |succ n ih=>
  simp only [wdTo]
  by_cases e:k=n
  ·subst e;simp [hc]
  ·rw [ih (by omega)];rfl
theorem wdTo_at {s:ByteArray} {k n:Nat} (h:k<n) (hd:wdTo s n=true):wdP (byteAt s (k:Int)):=by
 by_cases hc:wdP (byteAt s (k:Int))
 ·exact hc
 ·rw [wdTo_false h hc] at hd;cases hd
theorem wdTo_first {s:ByteArray}:∀n,wdTo s n=false→∃k,k<n∧wdTo s k=true∧¬wdP (byteAt s (k:Int))
 |0,h=>by simp [wdTo] at h
 |n+1,h=>by
  cases hn:wdTo s n with
  |false=>obtain ⟨k,h1,h2⟩:=wdTo_first n hn;exact ⟨k,by omega,h2⟩
  |true=>
   refine ⟨n,by omega,hn,fun hw=> ?_⟩
   rw [wdTo_step hn hw] at h;cases h
theorem lex_wordAt (s:ByteArray) (e:Nat) (he:e≤s.size) (ht:wdTo s e=true) (hx:e=s.size∨¬wdP (byteAt s (e:Int))) (hs:s.size≤1000000):Pure Tryz.prog 56 [.str s,.int .i64 0] (.str (s.extract 0 e)):=by
 refine fc_of mixed T_ok Tryz.func56 rfl (by kernel_rfl) (by kernel_rfl) (by kernel_rfl) ?_
 (conv=>whnf)
 refine vloop_of (fun k:Nat=>⟨[(0,.str s),(1,.int .i64 0),(5,.int .i64 k)],[],1⟩) (fun k=>k≤e) (fun k=>e-k) 0 [0] [] ⟨rfl,⟨rfl,rfl,rfl,trivial⟩,trivial⟩ (by omega) ?_
 intro k hk
 have bd:=byteAt_bd s (k:Int)
 have c:=lex_isWordByte (byteAt s (k:Int)) bd.1 bd.2
 by_cases hk2:k<e
 ·rw [decide_eq_true (wdTo_at hk2 ht)] at c
  repeat' ((conv=>whnf);first|(refine vcall_pure (c) rfl rfl rfl ?_)|(refine vcallD_pure (c) rfl rfl rfl ?_)|((first|apply br_dec|apply br_ndec)<;>intro h<;>try (exfalso;(try dsimp only at h);omega))|((first|apply br_seq|apply br_nseq|apply br_not|apply br_intro)<;>intro h)|refine cond_a ?_)
  all_goals (conv=>whnf)
  all_goals first
   |exact ⟨k+1,[0],[],by omega,by omega,⟨rfl,⟨rfl,rfl,congrArg (fun z=>some (SV.int .i64 z)) (i64_succ (by omega)),trivial⟩,trivial⟩⟩
   |(exfalso;omega)
 ·have e1:k=e:=by omega
  subst e1
  by_cases hsz:k<s.size
  ·rw [decide_eq_false (hx.resolve_left (by omega))] at c
   repeat' ((conv=>whnf);first|(refine vcall_pure (c) rfl rfl rfl ?_)|(refine vcallD_pure (c) rfl rfl rfl ?_)|((first|apply br_dec|apply br_ndec)<;>intro h<;>try (exfalso;(try dsimp only at h);omega))|((first|apply br_seq|apply br_nseq|apply br_not|apply br_intro)<;>intro h)|refine cond_a ?_)
   all_goals (conv=>whnf)
   all_goals first
    |exact ret_pure rfl
    |(exfalso;omega)
  ·repeat' ((conv=>whnf);first|((first|apply br_dec|apply br_ndec)<;>intro h<;>try (exfalso;(try dsimp only at h);omega))|((first|apply br_seq|apply br_nseq|apply br_not|apply br_intro)<;>intro h)|refine cond_a ?_)
   all_goals (conv=>whnf)
   all_goals first
    |exact ret_pure rfl
    |(exfalso;omega)
def nmB (s:ByteArray):Bool:=decide (1≤s.size)&&decide (s.size≤16)&&decide (ltP (byteAt s 0))&&wdTo s s.size
theorem sz_pos {s:ByteArray} (h:¬s=⟨#[]⟩):1≤s.size:=by
 rcases Nat.eq_zero_or_pos s.size with h0|h0
 ·exfalso;apply h
  cases s with|mk d=>
  have:d= #[]:=Array.eq_empty_of_size_eq_zero h0
  rw [this]
 ·exact h0
theorem extract_all (s:ByteArray):s.extract 0 s.size=s:=by
 apply ByteArray.ext
 simp
theorem lex_IsName (s:ByteArray):Pure Tryz.prog 41 [.str s] (.bool (nmB s)):=by
 unfold nmB
 by_cases h0:s=⟨#[]⟩
 ·subst h0
  refine fc_of mixed T_ok Tryz.func41 rfl (by kernel_rfl) (by kernel_rfl) (by kernel_rfl) ?_
  repeat' ((conv=>whnf);first|((first|apply br_dec|apply br_ndec)<;>intro h<;>try (exfalso;(try dsimp only at h);omega))|((first|apply br_seq|apply br_nseq|apply br_not|apply br_intro)<;>intro h)|refine cond_a ?_)
  all_goals (conv=>whnf)
  all_goals first
   |exact ret_pure rfl
   |(exfalso;exact h rfl)
 ·have hz:=sz_pos h0
  by_cases h16:s.size≤16
  ·have bd:=byteAt_bd s 0
   have c1:=lex_classOf (byteAt s 0) bd.1 bd.2
   rw [show (SV.int .i32 (byteAt s 0))=SV.int .i32 (IntKind.i32.wrap (byteAt s 0)) by rw [i32_in bd.1 bd.2]] at c1
   by_cases hl:ltP (byteAt s 0)
   ·rw [clsI_lt.2 hl] at c1
    cases hw:wdTo s s.size with
    |true=>
     have c2:=lex_wordAt s s.size (Nat.le_refl _) hw (.inl rfl) (by omega)
     rw [extract_all] at c2
     rw [decide_eq_true hz,decide_eq_true h16,decide_eq_true hl]
     refine fc_of mixed T_ok Tryz.func41 rfl (by kernel_rfl) (by kernel_rfl) (by kernel_rfl) ?_
     repeat' ((conv=>whnf);first|(refine vcall_pure (c1) rfl rfl rfl ?_)|(refine vcallD_pure (c1) rfl rfl rfl ?_)|(refine vcall_pure (c2) rfl rfl rfl ?_)|(refine vcallD_pure (c2) rfl rfl rfl ?_)|((first|apply br_dec|apply br_ndec)<;>intro h<;>try (exfalso;(try dsimp only at h);omega))|((first|apply br_seq|apply br_nseq|apply br_not|apply br_intro)<;>intro h)|refine cond_a ?_)
     all_goals (conv=>whnf)
     all_goals first
      |exact ret_pure rfl
      |(exfalso;exact h0 (by assumption))
      |(exfalso;omega)
      |exact ret_pure (congrArg SV.bool (decide_eq_true rfl))
    |false=>
     obtain ⟨k,k1,k2,k3⟩:=wdTo_first _ hw
     have c2:=lex_wordAt s k (by omega) k2 (.inr k3) (by omega)
     have hsz:(s.extract 0 k).size=k:=by rw [ByteArray.size_extract];omega
     rw [decide_eq_true hz,decide_eq_true h16,decide_eq_true hl]
     refine fc_of mixed T_ok Tryz.func41 rfl (by kernel_rfl) (by kernel_rfl) (by kernel_rfl) ?_
     repeat' ((conv=>whnf);first|(refine vcall_pure (c1) rfl rfl rfl ?_)|(refine vcallD_pure (c1) rfl rfl rfl ?_)|(refine vcall_pure (c2) rfl rfl rfl ?_)|(refine vcallD_pure (c2) rfl rfl rfl ?_)|((first|apply br_dec|apply br_ndec)<;>intro h<;>try (exfalso;(try dsimp only at h);omega))|((first|apply br_seq|apply br_nseq|apply br_not|apply br_intro)<;>intro h)|refine cond_a ?_)
     all_goals (conv=>whnf)
     all_goals first
      |exact ret_pure rfl
      |(exfalso;exact h0 (by assumption))
      |(exfalso;omega)
      |exact ret_pure (congrArg SV.bool (decide_eq_false (by rw [hsz];omega)))
   ·have hne:clsI (byteAt s 0)≠2:=fun h=>hl (clsI_lt.1 h)
    rw [decide_eq_false hl]
    generalize clsI (byteAt s 0)=x at c1 hne
    refine fc_of mixed T_ok Tryz.func41 rfl (by kernel_rfl) (by kernel_rfl) (by kernel_rfl) ?_
    repeat' ((conv=>whnf);first|(refine vcall_pure (c1) rfl rfl rfl ?_)|(refine vcallD_pure (c1) rfl rfl rfl ?_)|((first|apply br_dec|apply br_ndec)<;>intro h<;>try (exfalso;(try dsimp only at h);omega))|((first|apply br_seq|apply br_nseq|apply br_not|apply br_intro)<;>intro h)|refine cond_a ?_)
    all_goals (conv=>whnf)
    all_goals first
     |(exfalso;exact h0 (by assumption))
     |(exfalso;omega)
     |exact ret_pure (by rw [Bool.and_false];rfl)
  ·rw [decide_eq_false h16]
   refine fc_of mixed T_ok Tryz.func41 rfl (by kernel_rfl) (by kernel_rfl) (by kernel_rfl) ?_
   repeat' ((conv=>whnf);first|((first|apply br_dec|apply br_ndec)<;>intro h<;>try (exfalso;(try dsimp only at h);omega))|((first|apply br_seq|apply br_nseq|apply br_not|apply br_intro)<;>intro h)|refine cond_a ?_)
   all_goals (conv=>whnf)
   all_goals first
    |(exfalso;exact h0 (by assumption))
    |(exfalso;omega)
    |exact ret_pure (by rw [Bool.and_false];rfl)
end Go.Proofs.YtlankgapiecloaaGreatDoor
namespace Go.Proofs.YtlankgapiecloaaGreatDoor
open Go.RowKit Go.Sy
set_option linter.unusedVariables false
set_option linter.unusedSimpArgs false
structure Bop where
 k:Int
 t:Int
 id:ByteArray
 au:ByteArray
 is:ByteArray
 ac:ByteArray
 am:Int
 fe:Int
 fi:Bool
abbrev Bop.s (o:Bop):SV:= .agg [.int .i64 o.k,.int .i64 o.t,.str o.id,.str o.au,.str o.is,.str o.ac,.int .i64 o.am,.int .i64 o.fe,.bool o.fi]
def fiB (s:ByteArray) (u:Bool) (p:ByteArray→Bool):Bool:=match u with|true=>p s|false=>seq s ⟨#[]⟩
def bkMv (k:Int):Bool:=decide (k=4∨k=5∨k=6)
def bkCh (k:Int):Bool:=decide (k=1∨k=2∨k=3∨k=4∨k=7)
def pmB (k a:Int):Bool:=
 if k=3 then decide (0≤a∧a≤999999999999) else if k=6 then decide (-999999999999≤a∧a≤999999999999∧a≠0)
 else if k=8 then decide (0≤a∧a≤99999) else if k=7 then decide (a=0) else decide (1≤a∧a≤999999999999)
def bkN (o:Bop):Bool:=fiB o.id (bkMv o.k) auI&&(fiB o.au (bkCh o.k) auI&&(fiB o.is (bkMv o.k) nmB&&fiB o.ac (bkMv o.k) nmB))
def ckE (o:Bop):Int:=
 if o.k<1∨8<o.k then 4 else if o.t<0∨1099511627776<o.t then 14 else if bkN o=false then 5 else if pmB o.k o.am=false then 4
 else if o.fe<0∨(if o.k=4∨o.k=5 then o.am else 0)<o.fe then 4 else if o.fi=true∧o.k≠4 then 2 else if bkMv o.k=true∧o.is=o.ac then 7 else 0
theorem kind_of8 {k:Int} (h:¬(k<1∨8<k)):k=1∨k=2∨k=3∨k=4∨k=5∨k=6∨k=7∨k=8:=by omega
structure CkOk (o:Bop):Prop where
 k:1≤o.k∧o.k≤8
 t:0≤o.t∧o.t≤1099511627776
 n:bkN o=true
 a:pmB o.k o.am=true
 f:0≤o.fe∧o.fe≤(if o.k=4∨o.k=5 then o.am else 0)
 fi:o.fi=true→o.k=4
 d:bkMv o.k=true→o.is≠o.ac
theorem ck_ok {o:Bop} (h:ckE o=0):CkOk o:=by
 unfold ckE at h
 by_cases h1:o.k<1∨8<o.k
 ·rw [if_pos h1] at h;cases h
 rw [if_neg h1] at h
 by_cases h2:o.t<0∨1099511627776<o.t
 ·rw [if_pos h2] at h;cases h
 rw [if_neg h2] at h
 by_cases h3:bkN o=false
 ·rw [if_pos h3] at h;cases h
 rw [if_neg h3] at h
 by_cases h4:pmB o.k o.am=false
 ·rw [if_pos h4] at h;cases h
 rw [if_neg h4] at h
 by_cases h5:o.fe<0∨(if o.k=4∨o.k=5 then o.am else 0)<o.fe
 ·rw [if_pos h5] at h;cases h
 rw [if_neg h5] at h
 by_cases h6:o.fi=true∧o.k≠4
 ·rw [if_pos h6] at h;cases h
 rw [if_neg h6] at h
 by_cases h7:bkMv o.k=true∧o.is=o.ac
 ·rw [if_pos h7] at h;cases h
 exact ⟨by omega,by omega,by simpa using h3,by simpa using h4,by omega,fun e=>Classical.byContradiction fun q=>h6 ⟨e,q⟩,fun e q=>h7 ⟨e,q⟩⟩
end Go.Proofs.YtlankgapiecloaaGreatDoor
namespace Go.Sy
open Go.RowKit
structure KD (u32 u1 Y1 Y0 Q:Nat):Prop where
 b1:u1<4294967296
 b0:Y0<4294967296
 n1:2147483648≤Y1
 n2:Y1<4294967296
 lt:u32<Y1*4294967296+Y0
 q:Q=(u32*4294967296+u1)/(Y1*4294967296+Y0)
section
variable {u32 u1 Y1 Y0 Q:Nat} (k:KD u32 u1 Y1 Y0 Q)
include k
theorem KD.le:Q≤u32/Y1:=by
 have h1:Q*(Y1*4294967296+Y0)≤u32*4294967296+u1:=by rw [k.q];exact Nat.div_mul_le_self _ _
 rw [Nat.le_div_iff_mul_le (by have:=k.n1;omega)]
 rw [Nat.mul_add,←Nat.mul_assoc] at h1
 have:=k.b1
 have h2:0≤Q*Y0:=Nat.zero_le _
 omega
end
end Go.Sy
namespace Go.Proofs.YtlankgapiecloaaGreatDoor
open Go.RowKit Go.Sy
attribute [local irreducible] vcall vloop vcallD retP
set_option maxRecDepth 100000
set_option linter.unusedVariables false
set_option linter.unusedSimpArgs false
theorem l8_at {s:ByteArray} (h:tabB s 256 blen=true) {x:Int} (h0:0≤x) (h1:x<256):byteAt s x=(blen x.toNat:Int):=by
 have:=tabB_at h (i:=x.toNat) (by omega)
 rw [←this,Int.toNat_of_nonneg h0]
theorem blen_small {u:Nat} (h:u<256):blen u≤8:=by
 rcases Nat.lt_or_ge 8 (blen u) with h1|h1
 ·have hu:1≤u:=by
   rcases Nat.eq_zero_or_pos u with e|e
   ·subst e;simp [blen] at h1
   ·exact e
  have a:=blen_ge u hu
  have:2^8≤2^(blen u-1):=Nat.pow_le_pow_right (by omega) (by omega)
  omega
 ·exact h1
theorem len_fin {u c:Nat} {x:Int} (hx:x=((u/2^c:Nat):Int)) (h:c=0∨2^c≤u):(c:Int)+(blen x.toNat:Int)=(blen u:Int):=by
 subst hx
 rw [Int.toNat_natCast]
 rcases h with rfl|h
 ·simp
 ·rw [blen_shift u c h];omega
theorem len_fin' {u c:Nat} {x n:Int} (hn:n=(c:Int)) (hc:c≤56) (hx:x=((u/2^c:Nat):Int)) (h:c=0∨2^c≤u) (h1:x<256):IntKind.i64.wrap (n+IntKind.i64.wrap (blen x.toNat:Int))=(blen u:Int):=by
 have hb:=blen_small (u:=x.toNat) (by omega)
 rw [w64_in (n:=(blen x.toNat:Int)) (by omega) (by omega),w64_in (by omega) (by omega),hn]
 exact len_fin hx h
theorem bits_Len64 (u:Nat) (hu:u<18446744073709551616):Pure Tryz.prog 81 [.int .u64 u] (.int .i64 (blen u)):=by
 refine fc_of mixed T_ok Tryz.func81 rfl (by kernel_rfl) (by kernel_rfl) (by kernel_rfl) ?_
 repeat' ((conv=>whnf);first|(refine cond_intro ⟨by (try simp only [ishr_lit8,ishr_lit16,ishr_lit32,ishr_lit18] at*);(try simp (disch:=omega) only [w64_in,u32_in',u64_in',u8_in',ishr_lit8,ishr_lit16,ishr_lit32,ishr_lit18,Int.tmod_eq_emod_of_nonneg,Int.tdiv_eq_ediv_of_nonneg,Int.toNat_natCast,Nat.add_zero]);omega,sz_lt (n:=256) (by kernel_rfl) (by (try simp only [ishr_lit8,ishr_lit16,ishr_lit32,ishr_lit18] at*);(try simp (disch:=omega) only [w64_in,u32_in',u64_in',u8_in',ishr_lit8,ishr_lit16,ishr_lit32,ishr_lit18,Int.tmod_eq_emod_of_nonneg,Int.tdiv_eq_ediv_of_nonneg,Int.toNat_natCast,Nat.add_zero]);omega)⟩ ?_)|((first|apply br_dec|apply br_ndec)<;>intro h<;>try (exfalso;(try dsimp only at h);omega))|((first|apply br_seq|apply br_nseq|apply br_not|apply br_intro)<;>intro h)|refine cond_a ?_)
 all_goals (conv=>whnf)
 all_goals refine ret_pure ?_
 all_goals simp only [oneOr]
 all_goals (try simp only [ishr_lit8,ishr_lit16,ishr_lit32,ishr_lit18] at*)
 all_goals rw [l8_at (by kernel_rfl) (by (try simp (disch:=omega) only [w64_in,u32_in',u64_in',u8_in',ishr_lit8,ishr_lit16,ishr_lit32,ishr_lit18,Int.tmod_eq_emod_of_nonneg,Int.tdiv_eq_ediv_of_nonneg,Int.toNat_natCast,Nat.add_zero]);omega) (by (try simp (disch:=omega) only [w64_in,u32_in',u64_in',u8_in',ishr_lit8,ishr_lit16,ishr_lit32,ishr_lit18,Int.tmod_eq_emod_of_nonneg,Int.tdiv_eq_ediv_of_nonneg,Int.toNat_natCast,Nat.add_zero]);omega)]
 all_goals refine congrArg (SV.int .i64) ?_
 ·exact len_fin' (c:=56) (by first|rfl|((try simp (disch:=omega) only [w64_in,u32_in',u64_in',u8_in',ishr_lit8,ishr_lit16,ishr_lit32,ishr_lit18,Int.tmod_eq_emod_of_nonneg,Int.tdiv_eq_ediv_of_nonneg,Int.toNat_natCast,Nat.add_zero]);omega)) (by omega) (by (try simp (disch:=omega) only [w64_in,u32_in',u64_in',u8_in',ishr_lit8,ishr_lit16,ishr_lit32,ishr_lit18,Int.tmod_eq_emod_of_nonneg,Int.tdiv_eq_ediv_of_nonneg,Int.toNat_natCast,Nat.add_zero]);omega) (by omega) (by (try simp (disch:=omega) only [w64_in,u32_in',u64_in',u8_in',ishr_lit8,ishr_lit16,ishr_lit32,ishr_lit18,Int.tmod_eq_emod_of_nonneg,Int.tdiv_eq_ediv_of_nonneg,Int.toNat_natCast,Nat.add_zero]);omega)
 ·exact len_fin' (c:=48) (by first|rfl|((try simp (disch:=omega) only [w64_in,u32_in',u64_in',u8_in',ishr_lit8,ishr_lit16,ishr_lit32,ishr_lit18,Int.tmod_eq_emod_of_nonneg,Int.tdiv_eq_ediv_of_nonneg,Int.toNat_natCast,Nat.add_zero]);omega)) (by omega) (by (try simp (disch:=omega) only [w64_in,u32_in',u64_in',u8_in',ishr_lit8,ishr_lit16,ishr_lit32,ishr_lit18,Int.tmod_eq_emod_of_nonneg,Int.tdiv_eq_ediv_of_nonneg,Int.toNat_natCast,Nat.add_zero]);omega) (by omega) (by (try simp (disch:=omega) only [w64_in,u32_in',u64_in',u8_in',ishr_lit8,ishr_lit16,ishr_lit32,ishr_lit18,Int.tmod_eq_emod_of_nonneg,Int.tdiv_eq_ediv_of_nonneg,Int.toNat_natCast,Nat.add_zero]);omega)
 ·exact len_fin' (c:=40) (by first|rfl|((try simp (disch:=omega) only [w64_in,u32_in',u64_in',u8_in',ishr_lit8,ishr_lit16,ishr_lit32,ishr_lit18,Int.tmod_eq_emod_of_nonneg,Int.tdiv_eq_ediv_of_nonneg,Int.toNat_natCast,Nat.add_zero]);omega)) (by omega) (by (try simp (disch:=omega) only [w64_in,u32_in',u64_in',u8_in',ishr_lit8,ishr_lit16,ishr_lit32,ishr_lit18,Int.tmod_eq_emod_of_nonneg,Int.tdiv_eq_ediv_of_nonneg,Int.toNat_natCast,Nat.add_zero]);omega) (by omega) (by (try simp (disch:=omega) only [w64_in,u32_in',u64_in',u8_in',ishr_lit8,ishr_lit16,ishr_lit32,ishr_lit18,Int.tmod_eq_emod_of_nonneg,Int.tdiv_eq_ediv_of_nonneg,Int.toNat_natCast,Nat.add_zero]);omega)
 ·exact len_fin' (c:=32) (by first|rfl|((try simp (disch:=omega) only [w64_in,u32_in',u64_in',u8_in',ishr_lit8,ishr_lit16,ishr_lit32,ishr_lit18,Int.tmod_eq_emod_of_nonneg,Int.tdiv_eq_ediv_of_nonneg,Int.toNat_natCast,Nat.add_zero]);omega)) (by omega) (by (try simp (disch:=omega) only [w64_in,u32_in',u64_in',u8_in',ishr_lit8,ishr_lit16,ishr_lit32,ishr_lit18,Int.tmod_eq_emod_of_nonneg,Int.tdiv_eq_ediv_of_nonneg,Int.toNat_natCast,Nat.add_zero]);omega) (by omega) (by (try simp (disch:=omega) only [w64_in,u32_in',u64_in',u8_in',ishr_lit8,ishr_lit16,ishr_lit32,ishr_lit18,Int.tmod_eq_emod_of_nonneg,Int.tdiv_eq_ediv_of_nonneg,Int.toNat_natCast,Nat.add_zero]);omega)
 ·exact len_fin' (c:=24) (by first|rfl|((try simp (disch:=omega) only [w64_in,u32_in',u64_in',u8_in',ishr_lit8,ishr_lit16,ishr_lit32,ishr_lit18,Int.tmod_eq_emod_of_nonneg,Int.tdiv_eq_ediv_of_nonneg,Int.toNat_natCast,Nat.add_zero]);omega)) (by omega) (by (try simp (disch:=omega) only [w64_in,u32_in',u64_in',u8_in',ishr_lit8,ishr_lit16,ishr_lit32,ishr_lit18,Int.tmod_eq_emod_of_nonneg,Int.tdiv_eq_ediv_of_nonneg,Int.toNat_natCast,Nat.add_zero]);omega) (by omega) (by (try simp (disch:=omega) only [w64_in,u32_in',u64_in',u8_in',ishr_lit8,ishr_lit16,ishr_lit32,ishr_lit18,Int.tmod_eq_emod_of_nonneg,Int.tdiv_eq_ediv_of_nonneg,Int.toNat_natCast,Nat.add_zero]);omega)
 ·exact len_fin' (c:=16) (by first|rfl|((try simp (disch:=omega) only [w64_in,u32_in',u64_in',u8_in',ishr_lit8,ishr_lit16,ishr_lit32,ishr_lit18,Int.tmod_eq_emod_of_nonneg,Int.tdiv_eq_ediv_of_nonneg,Int.toNat_natCast,Nat.add_zero]);omega)) (by omega) (by (try simp (disch:=omega) only [w64_in,u32_in',u64_in',u8_in',ishr_lit8,ishr_lit16,ishr_lit32,ishr_lit18,Int.tmod_eq_emod_of_nonneg,Int.tdiv_eq_ediv_of_nonneg,Int.toNat_natCast,Nat.add_zero]);omega) (by omega) (by (try simp (disch:=omega) only [w64_in,u32_in',u64_in',u8_in',ishr_lit8,ishr_lit16,ishr_lit32,ishr_lit18,Int.tmod_eq_emod_of_nonneg,Int.tdiv_eq_ediv_of_nonneg,Int.toNat_natCast,Nat.add_zero]);omega)
 ·exact len_fin' (c:=8) (by first|rfl|((try simp (disch:=omega) only [w64_in,u32_in',u64_in',u8_in',ishr_lit8,ishr_lit16,ishr_lit32,ishr_lit18,Int.tmod_eq_emod_of_nonneg,Int.tdiv_eq_ediv_of_nonneg,Int.toNat_natCast,Nat.add_zero]);omega)) (by omega) (by (try simp (disch:=omega) only [w64_in,u32_in',u64_in',u8_in',ishr_lit8,ishr_lit16,ishr_lit32,ishr_lit18,Int.tmod_eq_emod_of_nonneg,Int.tdiv_eq_ediv_of_nonneg,Int.toNat_natCast,Nat.add_zero]);omega) (by omega) (by (try simp (disch:=omega) only [w64_in,u32_in',u64_in',u8_in',ishr_lit8,ishr_lit16,ishr_lit32,ishr_lit18,Int.tmod_eq_emod_of_nonneg,Int.tdiv_eq_ediv_of_nonneg,Int.toNat_natCast,Nat.add_zero]);omega)
 ·exact len_fin' (c:=0) (by first|rfl|((try simp (disch:=omega) only [w64_in,u32_in',u64_in',u8_in',ishr_lit8,ishr_lit16,ishr_lit32,ishr_lit18,Int.tmod_eq_emod_of_nonneg,Int.tdiv_eq_ediv_of_nonneg,Int.toNat_natCast,Nat.add_zero]);omega)) (by omega) (by (try simp (disch:=omega) only [w64_in,u32_in',u64_in',u8_in',ishr_lit8,ishr_lit16,ishr_lit32,ishr_lit18,Int.tmod_eq_emod_of_nonneg,Int.tdiv_eq_ediv_of_nonneg,Int.toNat_natCast,Nat.add_zero]);omega) (by omega) (by (try simp (disch:=omega) only [w64_in,u32_in',u64_in',u8_in',ishr_lit8,ishr_lit16,ishr_lit32,ishr_lit18,Int.tmod_eq_emod_of_nonneg,Int.tdiv_eq_ediv_of_nonneg,Int.toNat_natCast,Nat.add_zero]);omega)
theorem conv_log10Pow2 (n:Nat) (hn:n≤64):Pure Tryz.prog 80 [.int .i64 n] (.int .i64 (n*78913/262144:Nat)):=by
 refine fc_of mixed T_ok Tryz.func80 rfl (by kernel_rfl) (by kernel_rfl) (by kernel_rfl) ?_
 repeat' ((conv=>whnf);first|((first|apply br_dec|apply br_ndec)<;>intro h<;>try (exfalso;(try dsimp only at h);omega))|((first|apply br_seq|apply br_nseq|apply br_not|apply br_intro)<;>intro h)|refine cond_a ?_)
 all_goals (conv=>whnf)
 all_goals refine ret_pure ?_
 all_goals simp only [oneOr]
 all_goals (try simp (disch:=omega) only [w64_in,u32_in',u64_in',u8_in',ishr_lit8,ishr_lit16,ishr_lit32,ishr_lit18,Int.tmod_eq_emod_of_nonneg,Int.tdiv_eq_ediv_of_nonneg,Int.toNat_natCast,Nat.add_zero])
 all_goals rfl
theorem conv_bool2 (b:Bool):Pure Tryz.prog 82 [.bool b] (.int .i64 (if b=true then 1 else 0)):=by
 refine fc_of mixed T_ok Tryz.func82 rfl (by kernel_rfl) (by kernel_rfl) (by kernel_rfl) ?_
 repeat' ((conv=>whnf);first|((first|apply br_dec|apply br_ndec)<;>intro h<;>try (exfalso;(try dsimp only at h);omega))|((first|apply br_seq|apply br_nseq|apply br_not|apply br_intro)<;>intro h)|refine cond_a ?_)
 all_goals (conv=>whnf)
 all_goals exact ret_pure (by simp [oneOr,h,cv])
end Go.Proofs.YtlankgapiecloaaGreatDoor
namespace Go.Proofs.YtlankgapiecloaaGreatDoor
open Go.RowKit Go.Sy
attribute [local irreducible] vcall vloop vcallD retP
set_option maxRecDepth 100000
set_option linter.unusedVariables false
set_option linter.unusedSimpArgs false
end Go.Proofs.YtlankgapiecloaaGreatDoor
namespace Go.Proofs.YtlankgapiecloaaGreatDoor
open Go.RowKit Go.Sy
attribute [local irreducible] vcall vloop vcallD retP
set_option maxRecDepth 100000
set_option linter.unusedVariables false
set_option linter.unusedSimpArgs false
theorem money_inTotal (n:Int):Pure Tryz.prog 200 [.int .i64 n] (.bool (decide (-4503599627370496≤n∧n≤4503599627370496))):=by
 refine fc_of mixed T_ok Tryz.func200 rfl (by kernel_rfl) (by kernel_rfl) (by kernel_rfl) ?_
 repeat' ((conv=>whnf);first|((first|apply br_dec|apply br_ndec)<;>intro h<;>try (exfalso;(try dsimp only at h);omega))|((first|apply br_seq|apply br_nseq|apply br_not|apply br_intro)<;>intro h)|refine cond_a ?_)
 all_goals (conv=>whnf)
 ·exact ret_pure (congrArg SV.bool (by rw [decide_eq_decide];omega))
 ·exact ret_pure (congrArg SV.bool (by rw [eq_comm,decide_eq_false_iff_not];omega))
def mchk (a:Int) (c:ByteArray):Int:=if curB c=false then 11 else if-4503599627370496≤a∧a≤4503599627370496 then 0 else 4
theorem mchk_or (a:Int) (c:ByteArray):(mchk a c=11∨mchk a c=4)∨(mchk a c=0∧curB c=true∧-4503599627370496≤a∧a≤4503599627370496):=by
 unfold mchk
 split
 ·exact .inl (.inl rfl)
 ·split
  ·rename_i h1 h2
   exact .inr ⟨rfl,by cases h:curB c<;>simp_all,h2⟩
  ·exact .inl (.inr rfl)
attribute [irreducible] mchk
theorem money_Check (a:Int) (c:ByteArray):Pure Tryz.prog 196 [.agg [.int .i64 a,.str c]] (.int .i64 (mchk a c)):=by
 refine fc_of mixed T_ok Tryz.func196 rfl (by kernel_rfl) (by kernel_rfl) (by kernel_rfl) ?_
 repeat' ((conv=>whnf);first|(refine vcall_pure (money_isCurrency _) rfl rfl rfl ?_)|(refine vcall_pure (money_inTotal _) rfl rfl rfl ?_)|((first|apply br_dec|apply br_ndec)<;>intro h<;>try (exfalso;(try dsimp only at h);omega))|((first|apply br_seq|apply br_nseq|apply br_not|apply br_intro)<;>intro h)|refine cond_a ?_)
 all_goals (conv=>whnf)
 all_goals refine ret_pure (congrArg (SV.int .i64) ?_)
 all_goals unfold mchk
 all_goals simp_all
end Go.Proofs.YtlankgapiecloaaGreatDoor
namespace Go.Proofs.YtlankgapiecloaaGreatDoor
open Go.RowKit Go.Sy
attribute [local irreducible] vcall vloop vcallD retP
set_option maxRecDepth 100000
set_option linter.unusedVariables false
set_option linter.unusedSimpArgs false
end Go.Proofs.YtlankgapiecloaaGreatDoor
namespace Go.Proofs.YtlankgapiecloaaGreatDoor
open Go.RowKit Go.Sy
attribute [local irreducible] vcall vloop vcallD retP
set_option maxRecDepth 100000
set_option linter.unusedVariables false
set_option linter.unusedSimpArgs false
end Go.Proofs.YtlankgapiecloaaGreatDoor
namespace Go.Proofs.YtlankgapiecloaaGreatDoor
open Go.RowKit Go.Sy
attribute [local irreducible] vcall vloop vcallD retP
set_option maxRecDepth 100000
set_option linter.unusedVariables false
set_option linter.unusedSimpArgs false
end Go.Proofs.YtlankgapiecloaaGreatDoor
namespace Go.Proofs.YtlankgapiecloaaGreatDoor
open Go.RowKit Go.Sy
attribute [local irreducible] vcall vloop vcallD retP
set_option maxRecDepth 100000
set_option linter.unusedVariables false
set_option linter.unusedSimpArgs false
theorem toNat0 (k:Nat):(k:Int).toNat+0=k:=rfl
end Go.Proofs.YtlankgapiecloaaGreatDoor
namespace Go.Sy
open Go.RowKit
theorem ofB_toList (s:ByteArray):s.toList=ofB s:=by
 exact (by simpa using ByteArray.toList_eq s:s.toList=s.data.toList)
theorem strLt_eq (a b:ByteArray):strLt a b=decide (ofB a<ofB b):=by
 unfold strLt
 rw [ofB_toList,ofB_toList,Go.Proofs.bytesLess_eq]
theorem ofB_inj {a b:ByteArray} (h:ofB a=ofB b):a=b:=by rw [←toB_ofB a,←toB_ofB b,h]
theorem strLt_irrefl (a:ByteArray):strLt a a=false:=by rw [strLt_eq];exact decide_eq_false (List.lt_irrefl _)
theorem strLt_asymm {a b:ByteArray} (h:strLt a b=true):strLt b a=false:=by
 rw [strLt_eq] at h⊢
 exact decide_eq_false (List.lt_asymm (of_decide_eq_true h))
theorem sortS_pairwise {l:List ByteArray} (hd:l.Nodup):(sortS l).Pairwise (fun a b=>strLt a b=true):=by
 have tr:∀a b c:List UInt8,leB a b=true→leB b c=true→leB a c=true:=fun a b c h1 h2=>by simp only [leB,decide_eq_true_eq] at*;exact List.le_trans h1 h2
 have tot:∀a b:List UInt8,(leB a b||leB b a)=true:=fun a b=>by simp only [leB,Bool.or_eq_true,decide_eq_true_eq];exact List.le_total a b
 have h1:=List.pairwise_mergeSort tr tot (l.map ofB)
 have hd2:(sortS l).Nodup:=(sortS_perm l).symm.nodup hd
 have h2:(sortS l).Pairwise (fun a b=>leB (ofB a) (ofB b)=true):=by
  unfold sortS
  rw [List.pairwise_map]
  exact h1
 refine (List.Pairwise.and h2 hd2).imp ?_
 rintro a b ⟨h3,h4⟩
 rw [strLt_eq]
 simp only [leB,decide_eq_true_eq] at h3
 rcases List.le_iff_lt_or_eq.1 h3 with h5|h5
 ·exact decide_eq_true h5
 ·exact absurd (ofB_inj h5) h4
theorem sortS_of {l m:List ByteArray} (hp:m.Perm l) (hm:m.Pairwise (fun a b=>strLt a b=true)):sortS l=m:=by
 have hdm:m.Nodup:=hm.imp (fun {a b} h e=>by subst e;rw [strLt_irrefl] at h;cases h)
 refine List.Perm.eq_of_pairwise (le:=fun a b=>strLt a b=true) (fun a b _ _ h1 h2=> ?_) (sortS_pairwise (hp.nodup hdm)) hm ((sortS_perm l).trans hp.symm)
 rw [strLt_asymm h1] at h2;cases h2
end Go.Sy
namespace Go.Proofs.YtlankgapiecloaaGreatDoor
open Go.RowKit Go.Sy
attribute [local irreducible] vcall vloop vcallD retP
set_option maxRecDepth 100000
set_option linter.unusedVariables false
set_option linter.unusedSimpArgs false
def idI (ps:List ByteArray) (s:ByteArray) (n:Nat):Int:=if sidx ps s<n then (sidx ps s:Int) else-1
theorem sidx_le (s:ByteArray):∀l:List ByteArray,sidx l s≤l.length
 | []=>Nat.le_refl _
 |x::l=>by
  have:=sidx_le s l
  simp only [sidx,List.length_cons]
  cases seq x s<;>simp only [cond_true,cond_false]<;>omega
theorem seq_tr {a b:ByteArray}:seq a b=true↔a=b:=by unfold seq;exact decide_eq_true_iff
theorem sidx_lo {s:ByteArray}:∀(l:List ByteArray) (j:Nat),j<sidx l s→¬l.getD j ⟨#[]⟩=s
 | [],j,h=>by simp [sidx] at h
 |x::l,j,h=>by
  simp only [sidx] at h
  cases hx:seq x s with
  |true=>rw [hx] at h;simp at h
  |false=>
   rw [hx] at h
   simp only [cond_false] at h
   cases j with
   |zero=>intro e;rw [seq_tr.2 (show x=s from e)] at hx;cases hx
   |succ j=>exact sidx_lo l j (by omega)
theorem sidx_at {s:ByteArray}:∀(l:List ByteArray),sidx l s<l.length→l.getD (sidx l s) ⟨#[]⟩=s
 | [],h=>by simp [sidx] at h
 |x::l,h=>by
  simp only [sidx] at h⊢
  cases hx:seq x s with
  |true=>exact seq_tr.1 hx
  |false=>
   rw [hx] at h
   simp only [cond_false,List.length_cons] at h⊢
   exact sidx_at l (by omega)
theorem sidx_eq {s:ByteArray} {l:List ByteArray} {k:Nat} (hk:k<l.length) (h:l.getD k ⟨#[]⟩=s) (hlo:∀j,j<k→¬l.getD j ⟨#[]⟩=s):sidx l s=k:=by
 rcases Nat.lt_trichotomy (sidx l s) k with q|q|q
 ·exact absurd (sidx_at l (by omega)) (hlo _ q)
 ·exact q
 ·exact absurd h (sidx_lo l k q)
theorem str_Index (n:Nat) (ps:List ByteArray) (s:ByteArray) (hl:ps.length=n) (hn:n≤100000):FC Tryz.prog 2 69 [.sl 1 0 0 n,.str s] [(1,some (.one true (.cols n [.sc (.strs ps)])))] (isOut (.int .i64 (idI ps s n)) [] 2):=by
 refine fc_of mixed T_ok Tryz.func69 rfl (by kernel_rfl) (by kernel_rfl) (by kernel_rfl) ?_
 repeat' ((conv=>whnf);first|((first|apply br_dec|apply br_ndec)<;>intro h<;>try (exfalso;(try dsimp only at h);omega))|((first|apply br_seq|apply br_nseq|apply br_not|apply br_intro)<;>intro h)|refine cond_a ?_)
 all_goals (conv=>whnf)
 refine vloop_lp (fun k:Nat=>⟨[(0,.sl 1 0 0 n),(1,.str s),(6,.sl 1 0 0 n),(7,.int .i64 n),(8,.int .i64 k)],[(1,some (.one true (.cols n [.sc (.strs ps)])))],2⟩) (fun k=>k≤n∧∀j,j<k→¬ps.getD j ⟨#[]⟩=s) (fun k=>n-k) 0 [0,1] [] ⟨rfl,⟨rfl,rfl,rfl,rfl,rfl,trivial⟩,⟨rfl,trivial⟩⟩ ⟨Nat.zero_le _,fun j hj=>by omega⟩ ?_
 rintro k ⟨hk,hlo⟩
 by_cases hk2:k<n
 ·by_cases q:ps.getD k ⟨#[]⟩=s
  ·have hi:idI ps s n=(k:Int):=by
    have e:=sidx_eq (by omega) q hlo
    unfold idI;rw [e,if_pos hk2]
   rw [hi]
   repeat' ((conv=>whnf);first|((first|apply br_dec|apply br_ndec)<;>intro h<;>try (exfalso;(try dsimp only at h);omega))|((first|apply br_seq|apply br_nseq|apply br_not|apply br_intro)<;>intro h)|refine cond_a ?_)
   all_goals (conv=>whnf)
   all_goals (try simp only [toNat0] at*)
   all_goals first
    |exact ret_out (l:= [0,1]) rfl rfl trivial allRw_nil
    |(exfalso;first|omega|contradiction|exact absurd q.symm (by assumption))
    |trace_state
  ·have hnx:∀j,j<k+1→¬ps.getD j ⟨#[]⟩=s:=fun j hj=>by
    by_cases e:j=k
    ·subst e;exact q
    ·exact hlo j (by omega)
   repeat' ((conv=>whnf);first|((first|apply br_dec|apply br_ndec)<;>intro h<;>try (exfalso;(try dsimp only at h);omega))|((first|apply br_seq|apply br_nseq|apply br_not|apply br_intro)<;>intro h)|refine cond_a ?_)
   all_goals (conv=>whnf)
   all_goals (try simp only [toNat0] at*)
   all_goals first
    |exact ⟨k+1,[0,1],[],⟨hk2,hnx⟩,(show n-(k+1)<n-k by omega),⟨rfl,⟨rfl,rfl,rfl,rfl,congrArg (fun z=>some (SV.int .i64 z)) (i64_succ (by omega)),trivial⟩,⟨rfl,trivial⟩⟩⟩
    |(exfalso;first|omega|contradiction|exact q ((by assumption:s=_).symm))
    |trace_state
 ·have e:k=n:=by omega
  subst e
  have hi:idI ps s k= -1:=by
   unfold idI
   rw [if_neg]
   intro q
   exact hlo _ q (sidx_at ps (by omega))
  rw [hi]
  repeat' ((conv=>whnf);first|((first|apply br_dec|apply br_ndec)<;>intro h<;>try (exfalso;(try dsimp only at h);omega))|((first|apply br_seq|apply br_nseq|apply br_not|apply br_intro)<;>intro h)|refine cond_a ?_)
  all_goals (conv=>whnf)
  all_goals first
   |exact ret_out (l:= [0,1]) rfl rfl trivial allRw_nil
   |(exfalso;omega)
   |trace_state
theorem str_Contains (n:Nat) (ps:List ByteArray) (s:ByteArray) (hl:ps.length=n) (hn:n≤100000):FC Tryz.prog 2 51 [.sl 1 0 0 n,.str s] [(1,some (.one true (.cols n [.sc (.strs ps)])))] (isOut (.bool (decide (0≤idI ps s n))) [] 2):=by
 have c:=str_Index n ps s hl hn
 refine fc_of mixed T_ok Tryz.func51 rfl (by kernel_rfl) (by kernel_rfl) (by kernel_rfl) ?_
 repeat' ((conv=>whnf);first|refine vcall_o (l:= [0,1]) (c) ?_|((first|apply br_dec|apply br_ndec)<;>intro h<;>try (exfalso;(try dsimp only at h);omega))|((first|apply br_seq|apply br_nseq|apply br_not|apply br_intro)<;>intro h)|refine cond_a ?_)
 all_goals (conv=>whnf)
 all_goals exact ret_out (l:= [0,1]) rfl rfl trivial allRw_nil
theorem bodied_of {P:Program} {f:FuncId} {fn:Func} (h:P.funcs[f]?=some fn) (hb:fn.body.isSome=true) (hn:(fn.name=="runtime.NumGoroutine")=false):bodied P f:=by
 obtain ⟨c,hc⟩:=Option.isSome_iff_exists.1 hb
 exact ⟨fn,c,h,hc,hn⟩
theorem str_Sort (n:Nat) (l:List ByteArray) (hn:n<4611686018427387904):FC Tryz.prog 2 52 [.sl 1 0 0 n] [(1,some (.one false (.cols n [.sc (.strs l)])))] (isOut (.tup []) [(1,some (.one false (.cols n [.sc (.strs (sortS l))])))] 2):=
 fc_sortS ⟨fun blk off cap ss W hH hblk hsz=>AnyM.slices_Sort_string Tryz.sortS blk off cap ss W hH hblk hsz,fun p cap W=>AnyM.slices_Sort_string_none Tryz.sortS p cap W⟩ (bodied_of Tryz.func52 (by kernel_rfl) (by kernel_rfl)) n l hn
structure Bk where
 n:Nat
 ps:List ByteArray
 m:Nat
 cs:List ByteArray
 vs:List (List Int)
 bs:List Nat
 ck:Nat
abbrev bkM (ro:Bool) (b:Bk):Option HB:=some (.one ro (.obj (.map false false b.m [.strs b.cs] [.arrs 16 .i64 b.vs] b.bs b.ck)))
abbrev bkP (ro:Bool) (b:Bk):Option HB:=some (.one ro (.cols b.n [.sc (.strs b.ps)]))
abbrev bkC (ro:Bool) (hp hm n:Nat):Option HB:=some (.one ro (.cells [.sl hp 0 0 n,.map hm 0]))
def nwE (ps:List ByteArray) (k:Nat):Int:=if nmB (ps.getD k ⟨#[]⟩)=false then 5 else if 0≤idI (ps.take k) (ps.getD k ⟨#[]⟩) k then 7 else 0
def nwK (ps:List ByteArray):Nat→Int
 |0=>0
 |k+1=>if nwK ps k≠0 then nwK ps k else nwE ps k
theorem nwK_stop {ps:List ByteArray} {k:Nat} (h0:nwK ps k=0) (h1:nwE ps k≠0):∀n,k<n→nwK ps n=nwE ps k
 |0,h=>by omega
 |n+1,h=>by
  simp only [nwK]
  by_cases e:k=n
  ·subst e;rw [if_neg (by omega)]
  ·rw [nwK_stop h0 h1 n (by omega),if_pos h1]
def nwErr (ps:List ByteArray):Int:=if 16<ps.length then 3 else nwK ps ps.length
def nwB (ps:List ByteArray):Bk:=⟨ps.length,sortS ps,0,[],[],[],0⟩
def nwOut (ps:List ByteArray):SV→Heap→Nat→Prop:=if nwErr ps≠0 then isOut (.tup [.nptr,.int .i64 (nwErr ps)]) [] 2 else isOut (.tup [.ptr 2 0 0 0,.int .i64 0]) [(2,bkC false 3 4 ps.length),(3,bkP false (nwB ps)),(4,bkM false (nwB ps))] 5
theorem take_snoc {ps:List ByteArray} {k:Nat} (hk:k<ps.length):ps.take (k+1)=ps.take k++ [ps.getD k ⟨#[]⟩]:=by
 rw [List.take_succ_eq_append_getElem hk,List.getD,List.getElem?_eq_getElem hk];rfl
theorem pos_New (ps:List ByteArray) (n:Nat) (hl:ps.length=n) (hn:n≤100000):FC Tryz.prog 2 34 [.sl 1 0 0 n] [(1,some (.one true (.cols n [.sc (.strs ps)])))] (nwOut ps):=by
 unfold nwOut nwErr
 by_cases h16:16<n
 ·rw [hl,if_pos h16,if_pos (by decide)]
  refine fc_of mixed T_ok Tryz.func34 rfl (by kernel_rfl) (by kernel_rfl) (by kernel_rfl) ?_
  repeat' ((conv=>whnf);first|((first|apply br_dec|apply br_ndec)<;>intro h<;>try (exfalso;(try dsimp only at h);omega))|((first|apply br_seq|apply br_nseq|apply br_not|apply br_intro)<;>intro h)|refine cond_a ?_)
  all_goals (conv=>whnf)
  all_goals first
   |exact ret_out (l:= [0,1]) rfl rfl trivial allRw_nil
   |(exfalso;omega)
   |trace_state
 rw [hl,if_neg h16]
 refine fc_of mixed T_ok Tryz.func34 rfl (by kernel_rfl) (by kernel_rfl) (by kernel_rfl) ?_
 repeat' ((conv=>whnf);first|((first|apply br_dec|apply br_ndec)<;>intro h<;>try (exfalso;(try dsimp only at h);omega))|((first|apply br_seq|apply br_nseq|apply br_not|apply br_intro)<;>intro h)|refine cond_a ?_)
 all_goals (conv=>whnf)
 refine vloop_lp (fun k:Nat=>⟨[(4,.ptr 2 0 0 0),(13,.sl 1 0 0 n),(14,.int .i64 n),(15,.int .i64 k)],[(1,some (.one true (.cols n [.sc (.strs ps)]))),(2,bkC false 3 4 k),(3,some (.one false (.cols k [.sc (.strs (ps.take k))]))),(4,bkM false (nwB ps))],5⟩) (fun k=>k≤n∧nwK ps k=0) (fun k=>n-k) 0 [0,1,3,4,2] [.cell 3 0 [.sc (.strs [])]] ⟨rfl,⟨rfl,rfl,rfl,rfl,trivial⟩,⟨rfl,rfl,rfl,rfl,trivial⟩⟩ ⟨Nat.zero_le _,rfl⟩ ?_
 rintro k ⟨hk,h0⟩
 by_cases hk2:k<n
 ·have c1:=lex_IsName (ps.getD k ⟨#[]⟩)
  have c2:=str_Contains k (ps.take k) (ps.getD k ⟨#[]⟩) (by rw [List.length_take];omega) (by omega)
  have hE:nwE ps k=if nmB (ps.getD k ⟨#[]⟩)=false then 5 else if 0≤idI (ps.take k) (ps.getD k ⟨#[]⟩) k then 7 else 0:=rfl
  have hst:=fun h=>nwK_stop h0 h n hk2
  have hs0:nwE ps k=0→nwK ps (k+1)=0:=fun h=>by simp only [nwK];rw [if_neg (by omega)];exact h
  have htk:=take_snoc (ps:=ps) (k:=k) (by omega)
  cases hnm:nmB (ps.getD k ⟨#[]⟩) with
  |false=>
   rw [hnm] at c1
   rw [hnm,if_pos rfl] at hE
   rw [hst (by omega),hE,if_pos (by decide)]
   repeat' ((conv=>whnf);first|(refine vcall_pure (c1) rfl rfl rfl ?_)|refine vcall_o (l:= [0,3]) (c2) ?_|((first|apply br_dec|apply br_ndec)<;>intro h<;>try (exfalso;(try dsimp only at h);omega))|((first|apply br_seq|apply br_nseq|apply br_not|apply br_intro)<;>intro h)|refine cond_a ?_)
   all_goals (conv=>whnf)
   all_goals first
    |exact ret_out (l:= [0,1]) rfl rfl trivial allRw_nil
    |(exfalso;omega)
    |trace_state
  |true=>
   rw [hnm] at c1
   rw [hnm,if_neg (by simp)] at hE
   by_cases hin:0≤idI (ps.take k) (ps.getD k ⟨#[]⟩) k
   ·rw [if_pos hin] at hE
    rw [decide_eq_true hin] at c2
    rw [hst (by omega),hE,if_pos (by decide)]
    repeat' ((conv=>whnf);first|(refine vcall_pure (c1) rfl rfl rfl ?_)|refine vcall_o (l:= [0,3]) (c2) ?_|((first|apply br_dec|apply br_ndec)<;>intro h<;>try (exfalso;(try dsimp only at h);omega))|((first|apply br_seq|apply br_nseq|apply br_not|apply br_intro)<;>intro h)|refine cond_a ?_)
    all_goals (conv=>whnf)
    all_goals first
     |exact ret_out (l:= [0,1]) rfl rfl trivial allRw_nil
     |(exfalso;omega)
     |trace_state
   ·rw [if_neg hin] at hE
    rw [decide_eq_false hin] at c2
    have hr:(some (HB.one false (.cols (k+1) [.sc (.strs (ps.take k++ [ps.getD k ⟨#[]⟩]))])):Option HB)=some (.one false (.cols (k+1) [.sc (.strs (ps.take (k+1)))])):=by rw [htk]
    repeat' ((conv=>whnf);first|(refine vcall_pure (c1) rfl rfl rfl ?_)|refine vcall_o (l:= [0,3]) (c2) ?_|((first|apply br_dec|apply br_ndec)<;>intro h<;>try (exfalso;(try dsimp only at h);omega))|((first|apply br_seq|apply br_nseq|apply br_not|apply br_intro)<;>intro h)|refine cond_a ?_)
    all_goals (conv=>whnf)
    all_goals first
     |exact ⟨k+1,[0,1,2,6,4],[],⟨hk2,hs0 hE⟩,(show n-(k+1)<n-k by omega),⟨rfl,⟨rfl,rfl,rfl,congrArg (fun z=>some (SV.int .i64 z)) (i64_succ (by omega)),trivial⟩,⟨rfl,rfl,hr,rfl,trivial⟩⟩⟩
     |(exfalso;omega)
     |trace_state
 ·have e:k=n:=by omega
  subst e
  have eT:ps.take k=ps:=by rw [←hl,List.take_length]
  rw [eT,if_neg (by omega)]
  have c3:=str_Sort k ps (by omega)
  repeat' ((conv=>whnf);first|refine vcall_o (l:= [0,3]) (c3) ?_|((first|apply br_dec|apply br_ndec)<;>intro h<;>try (exfalso;(try dsimp only at h);omega))|((first|apply br_seq|apply br_nseq|apply br_not|apply br_intro)<;>intro h)|refine cond_a ?_)
  all_goals (conv=>whnf)
  all_goals first
   |exact ret_out (l:= [0,1,2,3,4]) rfl rfl ⟨rfl,by rw [←hl];rfl,rfl,trivial⟩ (allRw_cons (allRw_cons (allRw_cons allRw_nil)))
   |(exfalso;omega)
   |trace_state
end Go.Proofs.YtlankgapiecloaaGreatDoor
namespace Go.Proofs.YtlankgapiecloaaGreatDoor
open Go.RowKit Go.Sy
attribute [local irreducible] vcall vloop vcallD retP
set_option maxRecDepth 100000
set_option linter.unusedVariables false
set_option linter.unusedSimpArgs false
abbrev z16:List Int:=List.replicate 16 0
abbrev Bk.ix (b:Bk) (c:ByteArray):Nat:=sidx b.cs c
abbrev Bk.row (b:Bk) (c:ByteArray):List Int:=b.vs.getD (sidx b.cs c) z16
abbrev bkH (b:Bk):Heap:= [(1,bkC true 2 3 b.n),(2,bkP true b),(3,bkM false b)]
abbrev bkR (b:Bk):Heap:= [(1,bkC true 2 3 b.n),(2,bkP true b),(3,bkM true b)]
def Bk.put (b:Bk) (c:ByteArray) (r:List Int):Bk:=
 ⟨b.n,b.ps,if sidx b.cs c<b.m then b.m else b.m+1,putL (sidx b.cs c) c b.cs,putL (sidx b.cs c) r b.vs,if sidx b.cs c<b.m then b.bs else b.bs++ [b.ck],if sidx b.cs c<b.m then b.ck else b.ck+1⟩
def Bk.del (b:Bk) (c:ByteArray):Bk:=
 ⟨b.n,b.ps,if sidx b.cs c<b.m then b.m-1 else b.m,b.cs.eraseIdx (sidx b.cs c),b.vs.eraseIdx (sidx b.cs c),b.bs.eraseIdx (sidx b.cs c),b.ck⟩
structure Bk.Ok (b:Bk):Prop where
 n:b.n≤16
 ps:b.ps.length=b.n
 len:∀i,(b.vs.getD i z16).length=16
 bd:∀i j,-4503599627370496≤(b.vs.getD i z16).getD j 0∧(b.vs.getD i z16).getD j 0≤4503599627370496
def fitB (x:Int):Bool:=decide (-4503599627370496≤x)&&decide (x≤4503599627370496)
theorem fitB_t {x:Int}:fitB x=true↔-4503599627370496≤x∧x≤4503599627370496:=by unfold fitB;simp
theorem fitB_f {x:Int}:fitB x=false↔¬(-4503599627370496≤x∧x≤4503599627370496):=by rw [←fitB_t];simp
theorem pos_within (x:Int):Pure Tryz.prog 197 [.int .i64 x] (.bool (fitB x)):=by
 by_cases h: -4503599627370496≤x∧x≤4503599627370496
 ·rw [fitB_t.2 h]
  refine fc_of mixed T_ok Tryz.func197 rfl (by kernel_rfl) (by kernel_rfl) (by kernel_rfl) ?_
  repeat' ((conv=>whnf);first|((first|apply br_dec|apply br_ndec)<;>intro h<;>try (exfalso;(try dsimp only at h);omega))|((first|apply br_seq|apply br_nseq|apply br_not|apply br_intro)<;>intro h)|refine cond_a ?_)
  all_goals (conv=>whnf)
  all_goals first
   |exact ret_pure rfl
   |(refine ret_pure (congrArg SV.bool ?_);simp;omega)
   |(exfalso;omega)
   |trace_state
 ·rw [fitB_f.2 h]
  refine fc_of mixed T_ok Tryz.func197 rfl (by kernel_rfl) (by kernel_rfl) (by kernel_rfl) ?_
  repeat' ((conv=>whnf);first|((first|apply br_dec|apply br_ndec)<;>intro h<;>try (exfalso;(try dsimp only at h);omega))|((first|apply br_seq|apply br_nseq|apply br_not|apply br_intro)<;>intro h)|refine cond_a ?_)
  all_goals (conv=>whnf)
  all_goals first
   |exact ret_pure rfl
   |(refine ret_pure (congrArg SV.bool ?_);simp;omega)
   |(exfalso;omega)
   |trace_state
abbrev mvRow (r:List Int) (F T:Nat) (a:Int):List Int:=(r.set F (r.getD F 0-a)).set T (r.getD T 0+a)
def mvE (b:Bk) (f t c:ByteArray) (a:Int):Int:=
 if idI b.ps f b.n<0∨idI b.ps t b.n<0 then 6
 else if idI b.ps f b.n=idI b.ps t b.n then 4
 else if mchk a c≠0 then mchk a c
 else if a<0 then 4
 else if fitB ((b.row c).getD (sidx b.ps f) 0-a)=true∧fitB ((b.row c).getD (sidx b.ps t) 0+a)=true then 0 else 4
def Bk.mv1 (b:Bk) (c:ByteArray) (r:List Int):Bk:=if r=z16 then (b.put c r).del c else b.put c r
def Bk.mv (b:Bk) (f t c:ByteArray) (a:Int):Bk:=if mvE b f t c a=0 then b.mv1 c (mvRow (b.row c) (sidx b.ps f) (sidx b.ps t) a) else b
theorem mv_err {b:Bk} {f t c:ByteArray} {a:Int} (h:mvE b f t c a≠0):b.mv f t c a=b:=if_neg h
theorem idI_lt {ps:List ByteArray} {s:ByteArray} {n:Nat} (h:sidx ps s<n):idI ps s n=(sidx ps s:Int):=if_pos h
theorem idI_no {ps:List ByteArray} {s:ByteArray} {n:Nat} (h:¬sidx ps s<n):idI ps s n= -1:=if_neg h
theorem pos_Move (b:Bk) (hb:b.Ok) (f t c:ByteArray) (a:Int):FC Tryz.prog 4 191 [.ptr 1 0 0 0,.str f,.str t,.agg [.int .i64 a,.str c]] (bkH b) (isOut (.int .i64 (mvE b f t c a)) [(3,bkM false (b.mv f t c a))] 4):=by
 have hn:=hb.n
 have c1:=str_Index b.n b.ps f hb.ps (by omega)
 have c2:=str_Index b.n b.ps t hb.ps (by omega)
 have c3:=money_Check a c
 by_cases h1:sidx b.ps f<b.n
 case neg=>
  have e:mvE b f t c a=6:=by unfold mvE;rw [idI_no h1,if_pos (Or.inl (by decide))]
  rw [mv_err (by rw [e];decide),e]
  rw [idI_no h1] at c1
  refine fc_of mixed T_ok Tryz.func191 rfl (by kernel_rfl) (by kernel_rfl) (by kernel_rfl) ?_
  repeat' ((conv=>whnf);first|refine vcall_o (l:= [0,2]) (c1) ?_|refine vcall_o (l:= [0,2]) (c2) ?_|refine vcallD_o (l:= [0,2]) (c1) ?_|refine vcallD_o (l:= [0,2]) (c2) ?_|((first|apply br_dec|apply br_ndec)<;>intro h<;>try (exfalso;(try dsimp only at h);omega))|((first|apply br_seq|apply br_nseq|apply br_not|apply br_intro)<;>intro h)|refine cond_a ?_)
  all_goals (conv=>whnf)
  all_goals first
   |exact ret_out (l:= [0,1,2,3]) rfl rfl ⟨rfl,trivial⟩ (allRw_cons allRw_nil)
   |(exfalso;omega)
   |trace_state
 by_cases h2:sidx b.ps t<b.n
 case neg=>
  have e:mvE b f t c a=6:=by unfold mvE;rw [idI_no h2,if_pos (Or.inr (by decide))]
  rw [mv_err (by rw [e];decide),e]
  rw [idI_no h2] at c2
  refine fc_of mixed T_ok Tryz.func191 rfl (by kernel_rfl) (by kernel_rfl) (by kernel_rfl) ?_
  repeat' ((conv=>whnf);first|refine vcall_o (l:= [0,2]) (c1) ?_|refine vcall_o (l:= [0,2]) (c2) ?_|refine vcallD_o (l:= [0,2]) (c1) ?_|refine vcallD_o (l:= [0,2]) (c2) ?_|((first|apply br_dec|apply br_ndec)<;>intro h<;>try (exfalso;(try dsimp only at h);omega))|((first|apply br_seq|apply br_nseq|apply br_not|apply br_intro)<;>intro h)|refine cond_a ?_)
  all_goals (conv=>whnf)
  all_goals first
   |exact ret_out (l:= [0,1,2,3]) rfl rfl ⟨rfl,trivial⟩ (allRw_cons allRw_nil)
   |(exfalso;omega)
   |trace_state
 have e0:mvE b f t c a=if sidx b.ps f=sidx b.ps t then 4 else if mchk a c≠0 then mchk a c else if a<0 then 4 else if fitB ((b.row c).getD (sidx b.ps f) 0-a)=true∧fitB ((b.row c).getD (sidx b.ps t) 0+a)=true then 0 else 4:=by
  unfold mvE
  rw [idI_lt h1,idI_lt h2,if_neg (by omega)]
  by_cases q:sidx b.ps f=sidx b.ps t
  ·rw [if_pos q,if_pos (by omega)]
  ·rw [if_neg q,if_neg (by omega)]
 rw [idI_lt h1] at c1
 rw [idI_lt h2] at c2
 by_cases h3:sidx b.ps f=sidx b.ps t
 ·rw [if_pos h3] at e0
  rw [mv_err (by rw [e0];decide),e0]
  refine fc_of mixed T_ok Tryz.func191 rfl (by kernel_rfl) (by kernel_rfl) (by kernel_rfl) ?_
  repeat' ((conv=>whnf);first|refine vcall_o (l:= [0,2]) (c1) ?_|refine vcall_o (l:= [0,2]) (c2) ?_|refine vcallD_o (l:= [0,2]) (c1) ?_|refine vcallD_o (l:= [0,2]) (c2) ?_|((first|apply br_dec|apply br_ndec)<;>intro h<;>try (exfalso;(try dsimp only at h);omega))|((first|apply br_seq|apply br_nseq|apply br_not|apply br_intro)<;>intro h)|refine cond_a ?_)
  all_goals (conv=>whnf)
  all_goals first
   |exact ret_out (l:= [0,1,2,3]) rfl rfl ⟨rfl,trivial⟩ (allRw_cons allRw_nil)
   |(exfalso;omega)
   |trace_state
 rw [if_neg h3] at e0
 by_cases h4:mchk a c=0
 case neg=>
  rw [if_pos h4] at e0
  rw [mv_err (by rw [e0];exact h4),e0]
  refine fc_of mixed T_ok Tryz.func191 rfl (by kernel_rfl) (by kernel_rfl) (by kernel_rfl) ?_
  repeat' ((conv=>whnf);first|refine vcall_o (l:= [0,2]) (c1) ?_|refine vcall_o (l:= [0,2]) (c2) ?_|refine vcallD_o (l:= [0,2]) (c1) ?_|refine vcallD_o (l:= [0,2]) (c2) ?_|(refine vcall_pure (c3) rfl rfl rfl ?_)|((first|apply br_dec|apply br_ndec)<;>intro h<;>try (exfalso;(try dsimp only at h);omega))|((first|apply br_seq|apply br_nseq|apply br_not|apply br_intro)<;>intro h)|refine cond_a ?_)
  all_goals (conv=>whnf)
  all_goals first
   |exact ret_out (l:= [0,1,2,3]) rfl rfl ⟨rfl,trivial⟩ (allRw_cons allRw_nil)
   |(exfalso;omega)
   |trace_state
 rw [if_neg (by simpa using h4)] at e0
 rw [h4] at c3
 have ham:=mchk_or a c
 rw [h4] at ham
 have hlen:=hb.len (sidx b.cs c)
 have hbd:=hb.bd (sidx b.cs c)
 have hF: -4503599627370496≤(b.row c).getD (sidx b.ps f) 0∧(b.row c).getD (sidx b.ps f) 0≤4503599627370496:=hbd (sidx b.ps f)
 have hT: -4503599627370496≤(b.row c).getD (sidx b.ps t) 0∧(b.row c).getD (sidx b.ps t) 0≤4503599627370496:=hbd (sidx b.ps t)
 by_cases h5:a<0
 ·rw [if_pos h5] at e0
  rw [mv_err (by rw [e0];decide),e0]
  refine fc_of mixed T_ok Tryz.func191 rfl (by kernel_rfl) (by kernel_rfl) (by kernel_rfl) ?_
  repeat' ((conv=>whnf);first|refine vcall_o (l:= [0,2]) (c1) ?_|refine vcall_o (l:= [0,2]) (c2) ?_|refine vcallD_o (l:= [0,2]) (c1) ?_|refine vcallD_o (l:= [0,2]) (c2) ?_|(refine vcall_pure (c3) rfl rfl rfl ?_)|((first|apply br_dec|apply br_ndec)<;>intro h<;>try (exfalso;(try dsimp only at h);omega))|((first|apply br_seq|apply br_nseq|apply br_not|apply br_intro)<;>intro h)|refine cond_a ?_)
  all_goals (conv=>whnf)
  all_goals first
   |exact ret_out (l:= [0,1,2,3]) rfl rfl ⟨rfl,trivial⟩ (allRw_cons allRw_nil)
   |(exfalso;omega)
   |trace_state
 rw [if_neg h5] at e0
 have g1:IntKind.i64.wrap ((b.row c).getD (sidx b.ps f) 0-a)=(b.row c).getD (sidx b.ps f) 0-a:=w64_in (by omega) (by omega)
 have g2:((b.row c).set (sidx b.ps f) ((b.row c).getD (sidx b.ps f) 0-a)).getD (sidx b.ps t) 0=(b.row c).getD (sidx b.ps t) 0:=by
  rw [List.getD,List.getElem?_set_ne h3];rfl
 have g3:IntKind.i64.wrap ((b.row c).getD (sidx b.ps t) 0+a)=(b.row c).getD (sidx b.ps t) 0+a:=w64_in (by omega) (by omega)
 have g4:(mvRow (b.row c) (sidx b.ps f) (sidx b.ps t) a).getD (sidx b.ps f) 0=(b.row c).getD (sidx b.ps f) 0-a:=by
  unfold mvRow
  rw [List.getD,List.getElem?_set_ne (fun e=>h3 e.symm),List.getElem?_set_self (by rw [hlen];omega)];rfl
 have g5:(mvRow (b.row c) (sidx b.ps f) (sidx b.ps t) a).getD (sidx b.ps t) 0=(b.row c).getD (sidx b.ps t) 0+a:=by
  unfold mvRow
  rw [List.getD,List.getElem?_set_self (by rw [List.length_set,hlen];omega)];rfl
 by_cases h6:fitB ((b.row c).getD (sidx b.ps f) 0-a)=true∧fitB ((b.row c).getD (sidx b.ps t) 0+a)=true
 case neg=>
  rw [if_neg h6] at e0
  rw [mv_err (by rw [e0];decide),e0]
  refine fc_of mixed T_ok Tryz.func191 rfl (by kernel_rfl) (by kernel_rfl) (by kernel_rfl) ?_
  repeat' ((conv=>whnf);first|refine vcall_o (l:= [0,2]) (c1) ?_|refine vcall_o (l:= [0,2]) (c2) ?_|refine vcallD_o (l:= [0,2]) (c1) ?_|refine vcallD_o (l:= [0,2]) (c2) ?_|(refine vcall_pure (c3) rfl rfl rfl ?_)|(refine vcall_pure (pos_within _) rfl rfl rfl ?_)|(refine vcallD_pure (pos_within _) rfl rfl rfl ?_)|((first|apply br_dec|apply br_ndec)<;>intro h<;>try (exfalso;(try dsimp only at h);omega))|((first|apply br_seq|apply br_nseq|apply br_not|apply br_intro)<;>intro h)|refine cond_a ?_)
  all_goals (conv=>whnf)
  all_goals (try simp only [toNat0,Int.toNat_natCast,g1,g2,g3,g4,g5] at*)
  all_goals first
   |exact ret_out (l:= [0,1,2,3]) rfl rfl ⟨rfl,trivial⟩ (allRw_cons allRw_nil)
   |(exfalso;omega)
   |(exfalso;exact h6 ⟨by assumption,by assumption⟩)
   |trace_state
 rw [if_pos h6] at e0
 have e1:b.mv f t c a=b.mv1 c (mvRow (b.row c) (sidx b.ps f) (sidx b.ps t) a):=by unfold Bk.mv;rw [if_pos e0]
 rw [e1,e0]
 have h61:=h6.1
 have h62:=h6.2
 by_cases h7:mvRow (b.row c) (sidx b.ps f) (sidx b.ps t) a=z16
 ·unfold Bk.mv1
  rw [if_pos h7]
  refine fc_of mixed T_ok Tryz.func191 rfl (by kernel_rfl) (by kernel_rfl) (by kernel_rfl) ?_
  repeat' ((conv=>whnf);first|refine vcall_o (l:= [0,2]) (c1) ?_|refine vcall_o (l:= [0,2]) (c2) ?_|refine vcallD_o (l:= [0,2]) (c1) ?_|refine vcallD_o (l:= [0,2]) (c2) ?_|(refine vcall_pure (c3) rfl rfl rfl ?_)|(refine vcall_pure (pos_within _) rfl rfl rfl ?_)|(refine vcallD_pure (pos_within _) rfl rfl rfl ?_)|((first|apply br_dec|apply br_ndec)<;>intro h<;>try (exfalso;(try dsimp only at h);omega))|((first|apply br_seq|apply br_nseq|apply br_not|apply br_intro)<;>intro h)|refine cond_a ?_)
  all_goals (conv=>whnf)
  all_goals (try simp only [toNat0,Int.toNat_natCast,g1,g2,g3,g4,g5] at*)
  all_goals first
   |exact ret_out (l:= [0,1,2,3]) rfl rfl ⟨rfl,trivial⟩ (allRw_cons allRw_nil)
   |(exfalso;omega)
   |(exfalso;exact bnf h61 (by assumption))
   |(exfalso;exact bnf h62 (by assumption))
   |contradiction
   |trace_state
 ·unfold Bk.mv1
  rw [if_neg h7]
  refine fc_of mixed T_ok Tryz.func191 rfl (by kernel_rfl) (by kernel_rfl) (by kernel_rfl) ?_
  repeat' ((conv=>whnf);first|refine vcall_o (l:= [0,2]) (c1) ?_|refine vcall_o (l:= [0,2]) (c2) ?_|refine vcallD_o (l:= [0,2]) (c1) ?_|refine vcallD_o (l:= [0,2]) (c2) ?_|(refine vcall_pure (c3) rfl rfl rfl ?_)|(refine vcall_pure (pos_within _) rfl rfl rfl ?_)|(refine vcallD_pure (pos_within _) rfl rfl rfl ?_)|((first|apply br_dec|apply br_ndec)<;>intro h<;>try (exfalso;(try dsimp only at h);omega))|((first|apply br_seq|apply br_nseq|apply br_not|apply br_intro)<;>intro h)|refine cond_a ?_)
  all_goals (conv=>whnf)
  all_goals (try simp only [toNat0,Int.toNat_natCast,g1,g2,g3,g4,g5] at*)
  all_goals first
   |exact ret_out (l:= [0,1,2,3]) rfl rfl ⟨rfl,trivial⟩ (allRw_cons allRw_nil)
   |(exfalso;omega)
   |(exfalso;exact bnf h61 (by assumption))
   |(exfalso;exact bnf h62 (by assumption))
   |contradiction
   |trace_state
end Go.Proofs.YtlankgapiecloaaGreatDoor
namespace Go.Proofs.YtlankgapiecloaaGreatDoor
open Go.RowKit Go.Sy
attribute [local irreducible] vcall vloop vcallD retP
set_option maxRecDepth 100000
set_option linter.unusedVariables false
set_option linter.unusedSimpArgs false
def isD (d:Int):Bool:=decide (0≤d)&&decide (d≤99999)
theorem isD_yes {d:Int}:isD d=true↔0≤d∧d≤99999:=by unfold isD;simp
theorem isD_no {d:Int}:isD d=false↔d<0∨99999<d:=by
 unfold isD
 rw [Bool.and_eq_false_iff,decide_eq_false_iff_not,decide_eq_false_iff_not]
 omega
theorem cal_isDate (d:Int):Pure Tryz.prog 33 [.int .i64 d] (.bool (isD d)):=by
 unfold isD
 by_cases h1:0≤d<;>by_cases h2:d≤99999
 all_goals simp only [h1,h2,decide_true,decide_false,Bool.and_true,Bool.and_false,Bool.true_and,Bool.false_and]
 all_goals refine fc_of mixed T_ok Tryz.func33 rfl (by kernel_rfl) (by kernel_rfl) (by kernel_rfl) ?_
 all_goals repeat' ((conv=>whnf);first|((first|apply br_dec|apply br_ndec)<;>intro h<;>try (exfalso;(try dsimp only at h);omega))|((first|apply br_seq|apply br_nseq|apply br_not|apply br_intro)<;>intro h)|refine cond_a ?_)
 all_goals (conv=>whnf)
 all_goals first
  |exact ret_pure rfl
  |exact ret_pure (congrArg SV.bool (by simp;omega))
  |(exfalso;omega)
  |trace_state
def wkI (d:Int):Int:=if isD d=true then (d+3)%7 else-1
theorem tmod_pos {a b:Int} (h:0≤a):a.tmod b=a%b:=by rw [Int.tmod_eq_emod_of_nonneg h]
theorem tdiv_pos {a b:Int} (h:0≤a):a.tdiv b=a/b:=by rw [Int.tdiv_eq_ediv_of_nonneg h]
theorem cal_Weekday (d:Int):Pure Tryz.prog 161 [.int .i64 d] (.int .i64 (wkI d)):=by
 have c:=cal_isDate d
 unfold wkI
 cases h:isD d with
 |true=>
  have hd:=isD_yes.1 h
  rw [h] at c
  rw [if_pos rfl]
  refine fc_of mixed T_ok Tryz.func161 rfl (by kernel_rfl) (by kernel_rfl) (by kernel_rfl) ?_
  repeat' ((conv=>whnf);first|(refine vcall_pure (c) rfl rfl rfl ?_)|(refine vcallD_pure (c) rfl rfl rfl ?_)|((first|apply br_dec|apply br_ndec)<;>intro h<;>try (exfalso;(try dsimp only at h);omega))|((first|apply br_seq|apply br_nseq|apply br_not|apply br_intro)<;>intro h)|refine cond_a ?_)
  all_goals (conv=>whnf)
  all_goals first
   |exact ret_pure (congrArg (SV.int .i64) (by rw [w64_in (n:=d+3) (by omega) (by omega),tmod_pos (by omega)]))
   |(exfalso;omega)
   |trace_state
 |false=>
  rw [h] at c
  rw [if_neg (by simp)]
  refine fc_of mixed T_ok Tryz.func161 rfl (by kernel_rfl) (by kernel_rfl) (by kernel_rfl) ?_
  repeat' ((conv=>whnf);first|(refine vcall_pure (c) rfl rfl rfl ?_)|(refine vcallD_pure (c) rfl rfl rfl ?_)|((first|apply br_dec|apply br_ndec)<;>intro h<;>try (exfalso;(try dsimp only at h);omega))|((first|apply br_seq|apply br_nseq|apply br_not|apply br_intro)<;>intro h)|refine cond_a ?_)
  all_goals (conv=>whnf)
  all_goals first
   |exact ret_pure rfl
   |(exfalso;omega)
   |trace_state
def okT (t:Int):Bool:=decide (0≤t)&&(decide (t≤1099511627776)&&isD (t/86400))
def dayI (t:Int):Int:=if okT t=true then t/86400 else-1
def secI (t:Int):Int:=if okT t=true then t%86400 else-1
theorem okT_yes {t:Int}:okT t=true↔0≤t∧t≤1099511627776∧isD (t/86400)=true:=by unfold okT;simp
theorem cal_Day (t:Int):Pure Tryz.prog 185 [.int .i64 t] (.tup [.int .i64 (dayI t),.int .i64 (secI t)]):=by
 have c:=cal_isDate (t/86400)
 unfold dayI secI
 by_cases h1:0≤t
 ·by_cases h2:t≤1099511627776
  ·have e1:IntKind.i64.wrap (t.tdiv 86400)=t/86400:=by rw [tdiv_pos h1,w64_in (by omega) (by omega)]
   have e2:t.tmod 86400=t%86400:=tmod_pos h1
   cases h3:isD (t/86400) with
   |true=>
    have hk:okT t=true:=okT_yes.2 ⟨h1,h2,h3⟩
    rw [h3] at c
    rw [if_pos hk,if_pos hk]
    refine fc_of mixed T_ok Tryz.func185 rfl (by kernel_rfl) (by kernel_rfl) (by kernel_rfl) ?_
    repeat' ((conv=>whnf);first|(simp only [e1])|(refine vcall_pure (c) rfl rfl rfl ?_)|(refine vcallD_pure (c) rfl rfl rfl ?_)|((first|apply br_dec|apply br_ndec)<;>intro h<;>try (exfalso;(try dsimp only at h);omega))|((first|apply br_seq|apply br_nseq|apply br_not|apply br_intro)<;>intro h)|refine cond_a ?_)
    all_goals (conv=>whnf)
    all_goals (try simp only [e2])
    all_goals first
     |exact ret_pure rfl
     |(exfalso;omega)
     |trace_state
   |false=>
    have hk:¬okT t=true:=fun q=>by have:=(okT_yes.1 q).2.2;rw [h3] at this;cases this
    rw [h3] at c
    rw [if_neg hk,if_neg hk]
    refine fc_of mixed T_ok Tryz.func185 rfl (by kernel_rfl) (by kernel_rfl) (by kernel_rfl) ?_
    repeat' ((conv=>whnf);first|(simp only [e1])|(refine vcall_pure (c) rfl rfl rfl ?_)|(refine vcallD_pure (c) rfl rfl rfl ?_)|((first|apply br_dec|apply br_ndec)<;>intro h<;>try (exfalso;(try dsimp only at h);omega))|((first|apply br_seq|apply br_nseq|apply br_not|apply br_intro)<;>intro h)|refine cond_a ?_)
    all_goals (conv=>whnf)
    all_goals first
     |exact ret_pure rfl
     |(exfalso;omega)
     |trace_state
  ·have hk:¬okT t=true:=fun q=>h2 (okT_yes.1 q).2.1
   rw [if_neg hk,if_neg hk]
   refine fc_of mixed T_ok Tryz.func185 rfl (by kernel_rfl) (by kernel_rfl) (by kernel_rfl) ?_
   repeat' ((conv=>whnf);first|((first|apply br_dec|apply br_ndec)<;>intro h<;>try (exfalso;(try dsimp only at h);omega))|((first|apply br_seq|apply br_nseq|apply br_not|apply br_intro)<;>intro h)|refine cond_a ?_)
   all_goals (conv=>whnf)
   all_goals first
    |exact ret_pure rfl
    |(exfalso;omega)
    |trace_state
 ·have hk:¬okT t=true:=fun q=>h1 (okT_yes.1 q).1
  rw [if_neg hk,if_neg hk]
  refine fc_of mixed T_ok Tryz.func185 rfl (by kernel_rfl) (by kernel_rfl) (by kernel_rfl) ?_
  repeat' ((conv=>whnf);first|((first|apply br_dec|apply br_ndec)<;>intro h<;>try (exfalso;(try dsimp only at h);omega))|((first|apply br_seq|apply br_nseq|apply br_not|apply br_intro)<;>intro h)|refine cond_a ?_)
  all_goals (conv=>whnf)
  all_goals first
   |exact ret_pure rfl
   |(exfalso;omega)
   |trace_state
abbrev tmM (ro:Bool) (n:Nat) (ks:List Int):Option HB:=some (.one ro (.obj (.map false false n [.ints .i64 ks] [.sc (.bools (List.replicate n true))] (List.range n) n)))
abbrev calC (ro:Bool) (h:Nat):Option HB:=some (.one ro (.cells [.map h 0]))
theorem tm_get {n:Nat} {ks:List Int} (hn:ks.length=n) (d:Int):(List.replicate n true).getD (iidx ks d) false=decide (d∈ks):=by
 by_cases h:d∈ks
 ·rw [decide_eq_true h,List.getD,List.getElem?_replicate,if_pos (by have:=iidx_lt.2 h;omega)];rfl
 ·rw [decide_eq_false h,List.getD,List.getElem?_replicate,if_neg (fun q=>h (iidx_lt.1 (by omega)))];rfl
def busB (hs:List Int) (d:Int):Bool:=isD d&&(decide ((d+3)%7<5)&& !decide (d∈hs))
theorem cal_Business (n:Nat) (ks:List Int) (hn:ks.length=n) (d:Int):FC Tryz.prog 3 147 [.ptr 1 0 0 0,.int .i64 d] [(1,calC true 2),(2,tmM true n ks)] (isOut (.bool (busB ks d)) [] 3):=by
 have c1:=cal_isDate d
 have c2:=cal_Weekday d
 have hg:=tm_get hn d
 unfold busB
 cases h:isD d with
 |false=>
  rw [h] at c1
  rw [Bool.false_and]
  refine fc_of mixed T_ok Tryz.func147 rfl (by kernel_rfl) (by kernel_rfl) (by kernel_rfl) ?_
  repeat' ((conv=>whnf);first|(refine vcall_pure (c1) rfl rfl rfl ?_)|(refine vcallD_pure (c1) rfl rfl rfl ?_)|(refine vcall_pure (c2) rfl rfl rfl ?_)|(refine vcallD_pure (c2) rfl rfl rfl ?_)|((first|apply br_dec|apply br_ndec)<;>intro h<;>try (exfalso;(try dsimp only at h);omega))|((first|apply br_seq|apply br_nseq|apply br_not|apply br_intro)<;>intro h)|refine cond_a ?_)
  all_goals (conv=>whnf)
  all_goals first
   |exact ret_out (l:= [0,1,2]) rfl rfl trivial allRw_nil
   |(exfalso;omega)
   |trace_state
 |true=>
  have hd:=isD_yes.1 h
  unfold wkI at c2
  rw [if_pos h] at c2
  rw [h] at c1
  rw [Bool.true_and]
  by_cases q:(d+3)%7<5
  ·rw [decide_eq_true q,Bool.true_and]
   refine fc_of mixed T_ok Tryz.func147 rfl (by kernel_rfl) (by kernel_rfl) (by kernel_rfl) ?_
   repeat' ((conv=>whnf);first|(refine vcall_pure (c1) rfl rfl rfl ?_)|(refine vcallD_pure (c1) rfl rfl rfl ?_)|(refine vcall_pure (c2) rfl rfl rfl ?_)|(refine vcallD_pure (c2) rfl rfl rfl ?_)|((first|apply br_dec|apply br_ndec)<;>intro h<;>try (exfalso;(try dsimp only at h);omega))|((first|apply br_seq|apply br_nseq|apply br_not|apply br_intro)<;>intro h)|refine cond_a ?_)
   all_goals (conv=>whnf)
   all_goals (try simp only [hg] at*)
   all_goals first
    |exact ret_out (l:= [0,1,2]) rfl rfl trivial allRw_nil
    |(exfalso;omega)
    |trace_state
  ·rw [decide_eq_false q,Bool.false_and]
   refine fc_of mixed T_ok Tryz.func147 rfl (by kernel_rfl) (by kernel_rfl) (by kernel_rfl) ?_
   repeat' ((conv=>whnf);first|(refine vcall_pure (c1) rfl rfl rfl ?_)|(refine vcallD_pure (c1) rfl rfl rfl ?_)|(refine vcall_pure (c2) rfl rfl rfl ?_)|(refine vcallD_pure (c2) rfl rfl rfl ?_)|((first|apply br_dec|apply br_ndec)<;>intro h<;>try (exfalso;(try dsimp only at h);omega))|((first|apply br_seq|apply br_nseq|apply br_not|apply br_intro)<;>intro h)|refine cond_a ?_)
   all_goals (conv=>whnf)
   all_goals first
    |exact ret_out (l:= [0,1,2]) rfl rfl trivial allRw_nil
    |(exfalso;omega)
    |trace_state
def nxK (p:Int→Bool):Nat→Int→Int
 |0,_=> -1
 |k+1,d=>if p d=true then d else nxK p k (d+1)
def nxI (hs:List Int) (d:Int):Int:=nxK (busB hs) (100000-d).toNat d
def nxV (x:Int):SV:=if x<0 then .tup [.int .i64 0,.int .i64 4] else .tup [.int .i64 x,.int .i64 0]
theorem nxI_yes {hs:List Int} {d:Int} (h:busB hs d=true) (hd:d≤99999):nxI hs d=d:=by
 unfold nxI
 obtain ⟨k,hk⟩:∃k,(100000-d).toNat=k+1:=⟨(99999-d).toNat,by omega⟩
 rw [hk];exact if_pos h
theorem nxI_no {hs:List Int} {d:Int} (h:busB hs d=false) (hd:d≤99999):nxI hs d=nxI hs (d+1):=by
 unfold nxI
 obtain ⟨k,hk⟩:∃k,(100000-d).toNat=k+1:=⟨(99999-d).toNat,by omega⟩
 rw [hk,show (100000-(d+1)).toNat=k by omega]
 simp only [nxK,h,Bool.false_eq_true,if_false]
theorem nxI_end {hs:List Int} {d:Int} (hd:99999<d):nxI hs d= -1:=by
 unfold nxI
 rw [show (100000-d).toNat=0 by omega];rfl
theorem cal_Next (n:Nat) (ks:List Int) (hn:ks.length=n) (d:Int):FC Tryz.prog 3 195 [.ptr 1 0 0 0,.int .i64 d] [(1,calC true 2),(2,tmM true n ks)] (isOut (if isD d=true then nxV (nxI ks d) else nxV (-1)) [] 3):=by
 have c1:=cal_isDate d
 cases h:isD d with
 |false=>
  rw [h] at c1
  rw [if_neg (by simp)]
  refine fc_of mixed T_ok Tryz.func195 rfl (by kernel_rfl) (by kernel_rfl) (by kernel_rfl) ?_
  repeat' ((conv=>whnf);first|(refine vcall_pure (c1) rfl rfl rfl ?_)|(refine vcallD_pure (c1) rfl rfl rfl ?_)|((first|apply br_dec|apply br_ndec)<;>intro h<;>try (exfalso;(try dsimp only at h);omega))|((first|apply br_seq|apply br_nseq|apply br_not|apply br_intro)<;>intro h)|refine cond_a ?_)
  all_goals (conv=>whnf)
  all_goals first
   |exact ret_out (l:= [0,1,2]) rfl rfl trivial allRw_nil
   |(exfalso;omega)
   |trace_state
 |true=>
  have hd:=isD_yes.1 h
  rw [h] at c1
  rw [if_pos rfl]
  obtain ⟨a,ea⟩:=Int.eq_ofNat_of_zero_le hd.1
  subst ea
  generalize hX:nxI ks (a:Int)=X
  refine fc_of mixed T_ok Tryz.func195 rfl (by kernel_rfl) (by kernel_rfl) (by kernel_rfl) ?_
  repeat' ((conv=>whnf);first|(refine vcall_pure (c1) rfl rfl rfl ?_)|(refine vcallD_pure (c1) rfl rfl rfl ?_)|((first|apply br_dec|apply br_ndec)<;>intro h<;>try (exfalso;(try dsimp only at h);omega))|((first|apply br_seq|apply br_nseq|apply br_not|apply br_intro)<;>intro h)|refine cond_a ?_)
  all_goals (conv=>whnf)
  refine vloop_lp (fun k:Nat=>⟨[(0,.ptr 1 0 0 0),(1,.int .i64 k)],[(1,calC true 2),(2,tmM true n ks)],3⟩) (fun k=>k≤100000∧nxI ks (k:Int)=X) (fun k=>100000-k) a [0,1,2] [] ⟨rfl,⟨rfl,rfl,trivial⟩,⟨rfl,rfl,trivial⟩⟩ ⟨by omega,hX⟩ ?_
  rintro k ⟨hk,hx⟩
  have c:=cal_Business n ks hn k
  by_cases hk2:k≤99999
  ·cases hb:busB ks k with
   |true=>
    rw [nxI_yes hb (by omega)] at hx
    subst hx
    rw [hb] at c
    unfold nxV
    rw [if_neg (by omega)]
    repeat' ((conv=>whnf);first|refine vcall_o (l:= [0,1,2]) (c) ?_|((first|apply br_dec|apply br_ndec)<;>intro h<;>try (exfalso;(try dsimp only at h);omega))|((first|apply br_seq|apply br_nseq|apply br_not|apply br_intro)<;>intro h)|refine cond_a ?_)
    all_goals (conv=>whnf)
    all_goals first
     |exact ret_out (l:= [0,1,2]) rfl rfl trivial allRw_nil
     |(exfalso;omega)
     |trace_state
   |false=>
    rw [nxI_no hb (by omega)] at hx
    rw [hb] at c
    repeat' ((conv=>whnf);first|refine vcall_o (l:= [0,1,2]) (c) ?_|((first|apply br_dec|apply br_ndec)<;>intro h<;>try (exfalso;(try dsimp only at h);omega))|((first|apply br_seq|apply br_nseq|apply br_not|apply br_intro)<;>intro h)|refine cond_a ?_)
    all_goals (conv=>whnf)
    all_goals first
     |exact ⟨k+1,[0,1,2],[],⟨by omega,hx⟩,(show 100000-(k+1)<100000-k by omega),⟨rfl,⟨rfl,congrArg (fun z=>some (SV.int .i64 z)) (i64_succ (by omega)),trivial⟩,⟨rfl,rfl,trivial⟩⟩⟩
     |(exfalso;omega)
     |trace_state
  ·rw [nxI_end (by omega)] at hx
   subst hx
   repeat' ((conv=>whnf);first|((first|apply br_dec|apply br_ndec)<;>intro h<;>try (exfalso;(try dsimp only at h);omega))|((first|apply br_seq|apply br_nseq|apply br_not|apply br_intro)<;>intro h)|refine cond_a ?_)
   all_goals (conv=>whnf)
   all_goals first
    |exact ret_out (l:= [0,1,2]) rfl rfl trivial allRw_nil
    |(exfalso;omega)
    |trace_state
def ddL (l:List Int) (k:Nat):List Int:=(l.take k).foldl (fun s d=>if d∈s then s else s++ [d]) []
theorem ddL_succ {l:List Int} {k:Nat} (h:k<l.length):ddL l (k+1)=if l.getD k 0∈ddL l k then ddL l k else ddL l k++ [l.getD k 0]:=by
 unfold ddL
 rw [List.take_add_one,List.getElem?_eq_getElem h,List.foldl_append]
 simp only [Option.toList_some,List.foldl_cons,List.foldl_nil,List.getD,List.getElem?_eq_getElem h,Option.getD_some]
def ddS (l:List Int):List Int:=ddL l l.length
def holK (l:List Int):Nat→Bool
 |0=>true
 |k+1=>holK l k&&isD (l.getD k 0)
theorem holK_stop {l:List Int} {k:Nat} (h:isD (l.getD k 0)=false):∀n,k<n→holK l n=false
 |0,q=>by omega
 |n+1,q=>by
  simp only [holK]
  by_cases e:k=n
  ·subst e;rw [h,Bool.and_false]
  ·rw [holK_stop h n (by omega),Bool.false_and]
def holE (l:List Int) (n:Nat):Int:=if 400<n then 3 else if holK l n=true then 0 else 4
def holO (l:List Int) (n:Nat):SV→Heap→Nat→Prop:=if holE l n=0 then isOut (.tup [.ptr 2 0 0 0,.int .i64 0]) [(2,calC false 3),(3,tmM false (ddS l).length (ddS l))] 4 else isOut (.tup [.nptr,.int .i64 (holE l n)]) [] 2
theorem tmPut {m:Nat} {s:List Int} (hm:s.length=m) (x:Int):(some (HB.one false (.obj (.map false false (if iidx s x<m then m else m+1) [.ints .i64 (putL (iidx s x) x s)] [.sc (.bools (putL (iidx s x) true (List.replicate m true)))] (if iidx s x<m then List.range m else List.range m++ [m]) (if iidx s x<m then m else m+1)))):Option HB)=tmM false (if x∈s then s else s++ [x]).length (if x∈s then s else s++ [x]):=by
 rw [iput_key]
 by_cases h:x∈s
 ·have hi:=iidx_lt.2 h
  rw [if_pos h,if_pos hi,if_pos (by omega),if_pos (by omega),hm]
  unfold putL
  rw [List.length_replicate,if_pos (by omega),List.set_replicate_self]
 ·have hi:¬iidx s x<s.length:=fun q=>h (iidx_lt.1 q)
  rw [if_neg h,if_neg hi,if_neg (by omega),if_neg (by omega)]
  unfold putL
  have e:List.replicate m true++ [true]=List.replicate (m+1) true:=List.replicate_succ'.symm
  rw [List.length_replicate,if_neg (by omega),List.length_append,hm,List.length_singleton,←List.range_succ,e]
theorem cal_New (l:List Int) (n:Nat) (hl:l.length=n):FC Tryz.prog 2 15 [.sl 1 0 0 n] [(1,some (.one true (.cols n [.sc (.ints .i64 l)])))] (holO l n):=by
 unfold holO holE
 by_cases h4:400<n
 ·rw [if_pos h4,if_neg (by decide)]
  refine fc_of mixed T_ok Tryz.func15 rfl (by kernel_rfl) (by kernel_rfl) (by kernel_rfl) ?_
  repeat' ((conv=>whnf);first|((first|apply br_dec|apply br_ndec)<;>intro h<;>try (exfalso;(try dsimp only at h);omega))|((first|apply br_seq|apply br_nseq|apply br_not|apply br_intro)<;>intro h)|refine cond_a ?_)
  all_goals (conv=>whnf)
  all_goals first
   |exact ret_out (l:= [0,1]) rfl rfl trivial allRw_nil
   |(exfalso;omega)
   |trace_state
 rw [if_neg h4]
 refine fc_of mixed T_ok Tryz.func15 rfl (by kernel_rfl) (by kernel_rfl) (by kernel_rfl) ?_
 repeat' ((conv=>whnf);first|((first|apply br_dec|apply br_ndec)<;>intro h<;>try (exfalso;(try dsimp only at h);omega))|((first|apply br_seq|apply br_nseq|apply br_not|apply br_intro)<;>intro h)|refine cond_a ?_)
 all_goals (conv=>whnf)
 all_goals first
  |(exfalso;omega)
  |skip
 refine vloop_lp (fun k:Nat=>⟨[(4,.ptr 3 0 0 0),(13,.sl 1 0 0 n),(14,.int .i64 n),(15,.int .i64 k)],[(1,some (.one true (.cols n [.sc (.ints .i64 l)]))),(2,tmM false (ddL l k).length (ddL l k)),(3,calC false 2)],4⟩) (fun k=>k≤n∧holK l k=true) (fun k=>n-k) 0 [0,1,2,3] [] ⟨rfl,⟨rfl,rfl,rfl,rfl,trivial⟩,⟨rfl,rfl,rfl,trivial⟩⟩ ⟨Nat.zero_le _,rfl⟩ ?_
 rintro k ⟨hk,hh⟩
 by_cases hk2:k<n
 ·have c:=cal_isDate (l.getD k 0)
  have hs:=ddL_succ (l:=l) (k:=k) (by omega)
  cases hb:isD (l.getD k 0) with
  |false=>
   rw [hb] at c
   rw [if_neg (by rw [if_neg (by rw [holK_stop hb n hk2];simp)];decide),if_neg (by rw [holK_stop hb n hk2];simp)]
   repeat' ((conv=>whnf);first|(refine vcall_pure (c) rfl rfl rfl ?_)|(refine vcallD_pure (c) rfl rfl rfl ?_)|((first|apply br_dec|apply br_ndec)<;>intro h<;>try (exfalso;(try dsimp only at h);omega))|((first|apply br_seq|apply br_nseq|apply br_not|apply br_intro)<;>intro h)|refine cond_a ?_)
   all_goals (conv=>whnf)
   all_goals first
    |exact ret_out (l:= [0,1]) rfl rfl trivial allRw_nil
    |(exfalso;omega)
    |trace_state
  |true=>
   rw [hb] at c
   have ht:=tmPut (s:=ddL l k) rfl (l.getD k 0)
   rw [←hs] at ht
   have hh2:holK l (k+1)=true:=by simp only [holK,hh,hb,Bool.and_true]
   repeat' ((conv=>whnf);first|(refine vcall_pure (c) rfl rfl rfl ?_)|(refine vcallD_pure (c) rfl rfl rfl ?_)|((first|apply br_dec|apply br_ndec)<;>intro h<;>try (exfalso;(try dsimp only at h);omega))|((first|apply br_seq|apply br_nseq|apply br_not|apply br_intro)<;>intro h)|refine cond_a ?_)
   all_goals (conv=>whnf)
   all_goals (try simp only [toNat0,Int.toNat_natCast,Nat.add_zero] at*)
   all_goals first
    |exact ⟨k+1,[0,1,2,3],[],⟨hk2,hh2⟩,(show n-(k+1)<n-k by omega),⟨rfl,⟨rfl,rfl,rfl,congrArg (fun z=>some (SV.int .i64 z)) (i64_succ (by omega)),trivial⟩,⟨rfl,ht,rfl,trivial⟩⟩⟩
    |(exfalso;omega)
    |trace_state
 ·have e:k=n:=by omega
  subst e
  rw [if_pos (by rw [if_pos hh])]
  unfold ddS
  rw [hl]
  repeat' ((conv=>whnf);first|((first|apply br_dec|apply br_ndec)<;>intro h<;>try (exfalso;(try dsimp only at h);omega))|((first|apply br_seq|apply br_nseq|apply br_not|apply br_intro)<;>intro h)|refine cond_a ?_)
  all_goals (conv=>whnf)
  all_goals first
   |exact ret_out (l:= [0,1,3,2]) rfl rfl ⟨rfl,rfl,trivial⟩ (allRw_cons (allRw_cons allRw_nil))
   |(exfalso;omega)
   |trace_state
end Go.Proofs.YtlankgapiecloaaGreatDoor
namespace Go.Proofs.YtlankgapiecloaaGreatDoor
open Go.RowKit Go.Sy
attribute [local irreducible] vcall vloop vcallD retP
set_option maxRecDepth 100000
set_option linter.unusedVariables false
set_option linter.unusedSimpArgs false
theorem bk_keys (n:Nat) (ks:List ByteArray) (vs:List (List Int)) (bs:List Nat) (ck:Nat):FC Tryz.prog 2 86 [.map 1 0] [] (isOut (.fn 110 [.ptr 2 0 0 0]) [(2,some (.one false (.cells [.map 1 0])))] 3):=by
 refine fc_of mixed T_ok Tryz.func86 rfl (by kernel_rfl) (by kernel_rfl) (by kernel_rfl) ?_
 repeat' ((conv=>whnf);first|((first|apply br_dec|apply br_ndec)<;>intro h<;>try (exfalso;(try dsimp only at h);omega))|((first|apply br_seq|apply br_nseq|apply br_not|apply br_intro)<;>intro h)|refine cond_a ?_)
 all_goals (conv=>whnf)
 all_goals exact ret_out (l:= [0,1,2]) rfl rfl ⟨rfl,trivial⟩ (allRw_cons allRw_nil)
theorem bk_sorted {n:Nat} {ks:List ByteArray} (vs:List (List Int)) (bs:List Nat) (ck:Nat) (hn:n≤100000) (hz:∀s∈ks,s.size≤9223372036854775807) (hnd:ks.Nodup):
  FC Tryz.prog 3 85 [.fn 110 [.ptr 2 0 0 0]] [(1,some (.one true (.obj (.map false false n [.strs ks] [.arrs 16 .i64 vs] bs ck)))),(2,some (.one true (.cells [.map 1 0])))] (isOut (.sl 3 0 0 n) [(3,some (.one false (.cols n [.sc (.strs (sortS ks))])))] 4):=
 fc_sorted (ρ:=Tryz.keys86_ren) (ρ':=Tryz.sorted_ren) rfl rfl rfl { Tryz.keys86 with} Tryz.sorted
  (fun m=>⟨fun blk off cap ss W hH hblk hsz=>callsIn_wide.2 (AnyM.slices_Sort_string Tryz.sortS blk off cap ss W hH hblk hsz),fun p cap W=>callsIn_wide.2 (AnyM.slices_Sort_string_none Tryz.sortS p cap W)⟩)
  (bodied_of Tryz.func85 (by kernel_rfl) (by kernel_rfl)) (enters_of Tryz.func52 (by kernel_rfl) rfl) (enters_of Tryz.func110 (by kernel_rfl) rfl) Tryz.underlying9 hn hz hnd
structure Bk.Cok (b:Bk):Prop where
 m:b.m≤100000
 sz:∀s∈b.cs,s.size≤9223372036854775807
 nd:b.cs.Nodup
theorem pos_Currencies (b:Bk) (hc:b.Cok):FC Tryz.prog 4 68 [.ptr 1 0 0 0] (bkR b) (isOut (.sl 4 0 0 b.m) [(4,some (.one false (.cols b.m [.sc (.strs (sortS b.cs))])))] 5):=by
 have c1:=bk_keys b.m b.cs b.vs b.bs b.ck
 have c2:=bk_sorted (n:=b.m) (ks:=b.cs) b.vs b.bs b.ck hc.m hc.sz hc.nd
 refine fc_of mixed T_ok Tryz.func68 rfl (by kernel_rfl) (by kernel_rfl) (by kernel_rfl) ?_
 repeat' ((conv=>whnf);first|refine vcall_o (l:= [0,3]) (c1) ?_|refine vcall_o (l:= [0,3,4]) (c2) ?_|((first|apply br_dec|apply br_ndec)<;>intro h<;>try (exfalso;(try dsimp only at h);omega))|((first|apply br_seq|apply br_nseq|apply br_not|apply br_intro)<;>intro h)|refine cond_a ?_)
 all_goals (conv=>whnf)
 all_goals exact ret_out (l:= [0,1,2,3,5]) rfl rfl ⟨rfl,trivial⟩ (allRw_cons allRw_nil)
end Go.Proofs.YtlankgapiecloaaGreatDoor
namespace Go.Proofs.YtlankgapiecloaaGreatDoor
open Go.RowKit Go.Sy
attribute [local irreducible] vcall vloop vcallD retP
set_option maxRecDepth 100000
set_option linter.unusedVariables false
set_option linter.unusedSimpArgs false
structure Px where
 p:ByteArray
 a:Int
 c:ByteArray
structure PxC where
 p:List ByteArray
 a:List Int
 c:List ByteArray
def pxOf (L:List Px):PxC:=⟨L.map Px.p,L.map Px.a,L.map Px.c⟩
theorem pxOf_snoc (L:List Px) (x:Px):pxOf (L++ [x])=⟨(pxOf L).p++ [x.p],(pxOf L).a++ [x.a],(pxOf L).c++ [x.c]⟩:=by simp [pxOf]
abbrev pxB (n:Nat) (q:PxC):Blk:= .cols n [.sc (.strs q.p),.sc (.ints .i64 q.a),.sc (.strs q.c)]
def liR (r:List Int) (ps:List ByteArray) (c:ByteArray):Nat→List Px
 |0=> []
 |i+1=>if r.getD i 0=0 then liR r ps c i else liR r ps c i++ [⟨ps.getD i ⟨#[]⟩,r.getD i 0,c⟩]
def liA (b:Bk) (cs:List ByteArray):Nat→List Px
 |0=> []
 |k+1=>liA b cs k++liR (b.row (cs.getD k ⟨#[]⟩)) b.ps (cs.getD k ⟨#[]⟩) b.n
def Bk.list (b:Bk):List Px:=liA b (sortS b.cs) b.m
theorem liR_len (r:List Int) (ps:List ByteArray) (c:ByteArray):∀i,(liR r ps c i).length≤i
 |0=>Nat.le_refl _
 |i+1=>by
  have:=liR_len r ps c i
  simp only [liR]
  split<;>simp<;>omega
theorem liA_len (b:Bk) (cs:List ByteArray):∀k,(liA b cs k).length≤k*b.n
 |0=>by simp [liA]
 |k+1=>by
  have:=liA_len b cs k
  have h2:=liR_len (b.row (cs.getD k ⟨#[]⟩)) b.ps (cs.getD k ⟨#[]⟩) b.n
  simp only [liA,List.length_append]
  rw [Nat.succ_mul];omega
theorem pos_List (b:Bk) (hb:b.Ok) (hc:b.Cok):FC Tryz.prog 4 50 [.ptr 1 0 0 0] (bkR b) (isOut (.sl 4 0 0 b.list.length) [(4,some (.one false (pxB b.list.length (pxOf b.list))))] 5):=by
 have hn:=hb.n
 have hm:=hc.m
 have c1:=pos_Currencies b hc
 refine fc_of mixed T_ok Tryz.func50 rfl (by kernel_rfl) (by kernel_rfl) (by kernel_rfl) ?_
 repeat' ((conv=>whnf);first|refine vcall_o (l:= [0,1,2,3]) (c1) ?_|((first|apply br_dec|apply br_ndec)<;>intro h<;>try (exfalso;(try dsimp only at h);omega))|((first|apply br_seq|apply br_nseq|apply br_not|apply br_intro)<;>intro h)|refine cond_a ?_)
 all_goals (conv=>whnf)
 refine vloop_lp (fun x:Nat×Nat×List Px=>⟨[(0,.ptr 1 0 0 0),(12,.sl 4 0 0 b.m),(13,.int .i64 b.m),(14,.int .i64 x.1),(3,.sl 5 0 0 x.2.1)],(4,some (.one false (.cols b.m [.sc (.strs (sortS b.cs))])))::(5,some (.one false (pxB x.2.1 (pxOf x.2.2))))::bkR b,6⟩) (fun x=>x.1≤b.m∧x.2.2=liA b (sortS b.cs) x.1∧x.2.2.length=x.2.1) (fun x=>b.m-x.1) (0,0,[]) [0,1,2,3,4,5] [.slot 3 [.sc (.strs []),.sc (.ints .i64 []),.sc (.strs [])]] ⟨rfl,⟨rfl,rfl,rfl,rfl,rfl,trivial⟩,⟨rfl,rfl,rfl,rfl,rfl,trivial⟩⟩ ⟨Nat.zero_le _,rfl,rfl⟩ ?_
 rintro ⟨k,m,L⟩ ⟨hk,hL,hl⟩
 dsimp only at hk hL hl
 by_cases hk2:k<b.m
 ·have hstep:liA b (sortS b.cs) (k+1)=L++liR (b.row ((sortS b.cs).getD k ⟨#[]⟩)) b.ps ((sortS b.cs).getD k ⟨#[]⟩) b.n:=by rw [hL];rfl
  repeat' ((conv=>whnf);first|((first|apply br_dec|apply br_ndec)<;>intro h<;>try (exfalso;(try dsimp only at h);omega))|((first|apply br_seq|apply br_nseq|apply br_not|apply br_intro)<;>intro h)|refine cond_a ?_)
  all_goals (conv=>whnf)
  all_goals (try simp only [toNat0] at*)
  all_goals first
   |(exfalso;omega)
   |skip
  refine vloop_lp (fun x:Nat×Nat×List Px=>⟨[(0,.ptr 1 0 0 0),(12,.sl 4 0 0 b.m),(13,.int .i64 b.m),(14,.int .i64 k),(3,.sl 5 0 0 x.2.1),(5,.str ((sortS b.cs).getD k ⟨#[]⟩)),(6,.ptr 6 0 0 0),(27,.sl 2 0 0 b.n),(28,.int .i64 b.n),(29,.int .i64 x.1)],(4,some (.one false (.cols b.m [.sc (.strs (sortS b.cs))])))::(5,some (.one false (pxB x.2.1 (pxOf x.2.2))))::(6,some (.one false (.cols 16 [.sc (.ints .i64 (b.row ((sortS b.cs).getD k ⟨#[]⟩)))])))::bkR b,7⟩) (fun x=>x.1≤b.n∧x.2.2=L++liR (b.row ((sortS b.cs).getD k ⟨#[]⟩)) b.ps ((sortS b.cs).getD k ⟨#[]⟩) x.1∧x.2.2.length=x.2.1) (fun x=>b.n-x.1) (0,m,L) [0,1,2,3,4,5,6] [] ⟨rfl,⟨rfl,rfl,rfl,rfl,rfl,rfl,rfl,rfl,rfl,rfl,trivial⟩,⟨rfl,rfl,rfl,rfl,rfl,rfl,trivial⟩⟩ ⟨Nat.zero_le _,(List.append_nil L).symm,hl⟩ ?_
  rintro ⟨i,m2,L2⟩ ⟨hi,hL2,hl2⟩
  dsimp only at hi hL2 hl2
  have hmb:m2≤1600016:=by
   have b1:=liA_len b (sortS b.cs) k
   have b2:=liR_len (b.row ((sortS b.cs).getD k ⟨#[]⟩)) b.ps ((sortS b.cs).getD k ⟨#[]⟩) i
   have b3:k*b.n≤100000*16:=Nat.mul_le_mul (by omega) hn
   rw [←hl2,hL2,List.length_append,hL];omega
  by_cases hi2:i<b.n
  ·by_cases hz:(b.row ((sortS b.cs).getD k ⟨#[]⟩)).getD i 0=0
   ·have h3:L2=L++liR (b.row ((sortS b.cs).getD k ⟨#[]⟩)) b.ps ((sortS b.cs).getD k ⟨#[]⟩) (i+1):=by simp only [liR];rw [if_pos hz];exact hL2
    repeat' ((conv=>whnf);first|((first|apply br_dec|apply br_ndec)<;>intro h<;>try (exfalso;(try dsimp only at h);omega))|((first|apply br_seq|apply br_nseq|apply br_not|apply br_intro)<;>intro h)|refine cond_a ?_)
    all_goals (conv=>whnf)
    all_goals (try simp only [toNat0,Int.toNat_natCast] at*)
    all_goals first
     |exact ⟨(i+1,m2,L2),[0,1,2,3,4,5,6],[],⟨hi2,h3,hl2⟩,(show b.n-(i+1)<b.n-i by omega),⟨rfl,⟨rfl,rfl,rfl,rfl,rfl,rfl,rfl,rfl,rfl,congrArg (fun z=>some (SV.int .i64 z)) (i64_succ (by omega)),trivial⟩,⟨rfl,rfl,rfl,rfl,rfl,rfl,trivial⟩⟩⟩
     |(exfalso;omega)
     |contradiction
     |trace_state
   ·have h3:L2++ [⟨b.ps.getD i ⟨#[]⟩,(b.row ((sortS b.cs).getD k ⟨#[]⟩)).getD i 0,(sortS b.cs).getD k ⟨#[]⟩⟩]=L++liR (b.row ((sortS b.cs).getD k ⟨#[]⟩)) b.ps ((sortS b.cs).getD k ⟨#[]⟩) (i+1):=by simp only [liR];rw [if_neg hz,hL2,List.append_assoc]
    have h4:(L2++ [(⟨b.ps.getD i ⟨#[]⟩,(b.row ((sortS b.cs).getD k ⟨#[]⟩)).getD i 0,(sortS b.cs).getD k ⟨#[]⟩⟩:Px)]).length=m2+1:=by rw [List.length_append,hl2];rfl
    have h5:=pxOf_snoc L2 ⟨b.ps.getD i ⟨#[]⟩,(b.row ((sortS b.cs).getD k ⟨#[]⟩)).getD i 0,(sortS b.cs).getD k ⟨#[]⟩⟩
    have h6:(some (HB.one false (pxB (m2+1) ⟨(pxOf L2).p++ [b.ps.getD i ⟨#[]⟩],(pxOf L2).a++ [(b.row ((sortS b.cs).getD k ⟨#[]⟩)).getD i 0],(pxOf L2).c++ [(sortS b.cs).getD k ⟨#[]⟩]⟩)):Option HB)=some (.one false (pxB (m2+1) (pxOf (L2++ [⟨b.ps.getD i ⟨#[]⟩,(b.row ((sortS b.cs).getD k ⟨#[]⟩)).getD i 0,(sortS b.cs).getD k ⟨#[]⟩⟩])))):=by rw [h5]
    repeat' ((conv=>whnf);first|((first|apply br_dec|apply br_ndec)<;>intro h<;>try (exfalso;(try dsimp only at h);omega))|((first|apply br_seq|apply br_nseq|apply br_not|apply br_intro)<;>intro h)|refine cond_a ?_)
    all_goals (conv=>whnf)
    all_goals (try simp only [toNat0,Int.toNat_natCast] at*)
    all_goals first
     |exact ⟨(i+1,m2+1,_),[0,1,2,3,4,8,6],[],⟨hi2,h3,h4⟩,(show b.n-(i+1)<b.n-i by omega),⟨rfl,⟨rfl,rfl,rfl,rfl,rfl,rfl,rfl,rfl,rfl,congrArg (fun z=>some (SV.int .i64 z)) (i64_succ (by omega)),trivial⟩,⟨rfl,h6,rfl,rfl,rfl,rfl,trivial⟩⟩⟩
     |(exfalso;omega)
     |contradiction
     |trace_state
  ·have ei:i=b.n:=by omega
   subst ei
   repeat' ((conv=>whnf);first|((first|apply br_dec|apply br_ndec)<;>intro h<;>try (exfalso;(try dsimp only at h);omega))|((first|apply br_seq|apply br_nseq|apply br_not|apply br_intro)<;>intro h)|refine cond_a ?_)
   all_goals (conv=>whnf)
   all_goals (try simp only [toNat0] at*)
   all_goals first
    |exact ⟨(k+1,m2,L2),[0,1,2,3,4,5],[],⟨hk2,hL2.trans hstep.symm,hl2⟩,(show b.m-(k+1)<b.m-k by omega),⟨rfl,⟨rfl,rfl,rfl,congrArg (fun z=>some (SV.int .i64 z)) (i64_succ (by omega)),rfl,trivial⟩,⟨rfl,rfl,rfl,rfl,rfl,trivial⟩⟩⟩
    |(exfalso;omega)
    |trace_state
 ·have e:k=b.m:=by omega
  subst e
  have e2:L=b.list:=hL
  subst e2
  rw [hl]
  repeat' ((conv=>whnf);first|((first|apply br_dec|apply br_ndec)<;>intro h<;>try (exfalso;(try dsimp only at h);omega))|((first|apply br_seq|apply br_nseq|apply br_not|apply br_intro)<;>intro h)|refine cond_a ?_)
  all_goals (conv=>whnf)
  all_goals first
   |exact ret_out (l:= [0,1,2,3,5]) rfl rfl ⟨rfl,trivial⟩ (allRw_cons allRw_nil)
   |(exfalso;omega)
   |trace_state
end Go.Proofs.YtlankgapiecloaaGreatDoor
namespace Go.Proofs.YtlankgapiecloaaGreatDoor
open Go.RowKit Go.Sy
attribute [local irreducible] vcall vloop vcallD retP
set_option maxRecDepth 100000
set_option linter.unusedVariables false
set_option linter.unusedSimpArgs false
theorem set_getD2 (l:List Int) (i k:Nat) (x:Int) (h:i<l.length):(l.set i x).getD k 0=if k=i then x else l.getD k 0:=by
 by_cases e:k=i
 ·subst e;rw [if_pos rfl,List.getD,List.getElem?_set_self h];rfl
 ·rw [if_neg e,List.getD,List.getElem?_set_ne (fun q=>e q.symm)];rfl
end Go.Proofs.YtlankgapiecloaaGreatDoor
namespace Go.Proofs.YtlankgapiecloaaGreatDoor
open Go.RowKit Go.Sy
attribute [local irreducible] vcall vloop vcallD retP
set_option maxRecDepth 100000
set_option linter.unusedVariables false
set_option linter.unusedSimpArgs false
end Go.Proofs.YtlankgapiecloaaGreatDoor
namespace Go.Proofs.YtlankgapiecloaaGreatDoor
open Go.RowKit Go.Sy
attribute [local irreducible] vcall vloop vcallD retP
set_option maxRecDepth 100000
set_option linter.unusedVariables false
set_option linter.unusedSimpArgs false
end Go.Proofs.YtlankgapiecloaaGreatDoor
namespace Go.Proofs.YtlankgapiecloaaGreatDoor
open Go.RowKit Go.Sy
attribute [local irreducible] vcall vloop vcallD retP
set_option maxRecDepth 100000
set_option linter.unusedVariables false
set_option linter.unusedSimpArgs false
end Go.Proofs.YtlankgapiecloaaGreatDoor
namespace Go.Proofs.YtlankgapiecloaaGreatDoor
open Go.RowKit Go.Sy
attribute [local irreducible] vcall vloop vcallD retP
set_option maxRecDepth 100000
set_option linter.unusedVariables false
end Go.Proofs.YtlankgapiecloaaGreatDoor
namespace Go.Proofs.YtlankgapiecloaaGreatDoor
open Go.RowKit Go.Sy
attribute [local irreducible] vcall vloop vcallD retP
set_option maxRecDepth 100000
set_option linter.unusedVariables false
def rchk (f t:ByteArray) (n d:Int):Int:=
 if curB f=false∨curB t=false∨f=t then 11 else if n<1∨1099511627776<n∨d<1∨1099511627776<d then 4 else 0
attribute [irreducible] rchk
end Go.Proofs.YtlankgapiecloaaGreatDoor
namespace Go.Proofs.YtlankgapiecloaaGreatDoor
open Go.RowKit Go.Sy
attribute [local irreducible] vcall vloop vcallD retP
set_option maxRecDepth 100000
set_option linter.unusedVariables false
set_option linter.unusedSimpArgs false
def pow10L:List Int:= [1,10,100,1000,10000,100000,1000000,10000000,100000000,1000000000,10000000000,100000000000,1000000000000,10000000000000,100000000000000,1000000000000000,10000000000000000,100000000000000000,1000000000000000000,10000000000000000000]
theorem pow10_at:∀k,k<20→pow10L.getD k 0=((10^k:Nat):Int):=by decide+kernel
theorem conv_numDigits (u:Nat) (h1:1≤u) (hu:u<18446744073709551616):Glob Tryz.prog glT 59 [.int .u64 u] (.int .i64 (ndig u)):=by
 have c1:=bits_Len64 u hu
 have hb:=blen_le64 (u:=u) hu
 have c2:=conv_log10Pow2 (blen u) hb
 have hk:blen u*78913/262144<20:=by omega
 have hn:=ndig_lib h1 hu
 have hp:=pow10_at _ hk
 refine fc_of mixed T_ok Tryz.func59 rfl (by kernel_rfl) (by kernel_rfl) (by kernel_rfl) ?_
 generalize blen u*78913/262144=k at*
 repeat' ((conv=>whnf);first|(refine vcall_pure (c1) rfl rfl rfl ?_)|(refine vcall_pure (c2) rfl rfl rfl ?_)|(refine vcall_pure (conv_bool2 _) rfl rfl rfl ?_)|((first|apply br_dec|apply br_ndec)<;>intro h<;>try (exfalso;(try dsimp only at h);omega))|((first|apply br_seq|apply br_nseq|apply br_not|apply br_intro)<;>intro h)|refine cond_a ?_)
 all_goals (conv=>whnf)
 all_goals refine ret_pure ?_
 all_goals simp only [oneOr]
 all_goals refine congrArg (SV.int .i64) ?_
 have e:∀b:Bool,b=decide ((pow10L.getD k 0)≤(u:Int))→IntKind.i64.wrap ((k:Int)+if b=true then 1 else 0)=(ndig u:Int):=by
  intro b hb
  subst hb
  rw [hn,hp]
  by_cases h:10^k≤u
  ·have h':((10^k:Nat):Int)≤(u:Int):=Int.ofNat_le.2 h
   rw [if_pos h,decide_eq_true h',if_pos rfl,w64_in (by omega) (by omega)];rfl
  ·have h':¬((10^k:Nat):Int)≤(u:Int):=fun x=>h (Int.ofNat_le.1 x)
   rw [if_neg h,decide_eq_false h',if_neg (by simp),w64_in (by omega) (by omega)];rfl
 exact e _ rfl
theorem dec_small:∀n,n<100→(n<10→digs (ndig n) n= [((48+n:Nat):Int)])∧(¬n<10→digs (ndig n) n= [((48+n/10:Nat):Int),((48+n%10:Nat):Int)]):=by
 intro n hn
 constructor
 ·intro h
  rw [ndig,if_pos h];simp [digs];omega
 ·intro h
  rw [ndig,if_neg h,ndig,if_pos (by omega)];simp [digs];omega
theorem extract_bytes {s:ByteArray} {a n:Nat} (h:a+n≤s.size) (l:List Int) (hl:l.length=n) (hg:∀i,i<n→byteAt s ((a+i:Nat):Int)=l.getD i 0):s.extract a (a+n)=bytesOf l:=by
 have h1:s.data.toList.length=s.size:=by simp
 have:(s.extract a (a+n)).data.toList=(bytesOf l).data.toList:=by
  unfold bytesOf
  simp only [ByteArray.data_extract,Array.toList_extract,List.extract_eq_take_drop]
  apply List.ext_getElem?
  intro i
  by_cases hi:i<n
  ·rw [List.getElem?_take,if_pos (by omega),List.getElem?_drop,List.getElem?_eq_getElem (by omega)]
   rw [List.getElem?_map,List.getElem?_eq_getElem (by omega)]
   simp only [Option.map_some,Option.some.injEq]
   have hh:=hg i hi
   unfold byteAt at hh
   rw [Int.toNat_natCast,List.getD,List.getElem?_eq_getElem (by omega),List.getD,List.getElem?_eq_getElem (by omega)] at hh
   simp only [Option.getD_some] at hh
   rw [←hh,Int.toNat_natCast]
   exact (UInt8.ofNat_toNat).symm
  ·rw [List.getElem?_take,if_neg (by omega),List.getElem?_eq_none (by simp;omega)]
 have e2:∀x y:ByteArray,x.data.toList=y.data.toList→x=y:=by
  intro x y h;cases x;cases y;simp at h;congr
 exact e2 _ _ this
theorem conv_small (n:Nat) (hn:n<100):Pure Tryz.prog 58 [.int .i64 n] (.str (dec n)):=by
 obtain ⟨d1,d2⟩:=dec_small n hn
 refine fc_of mixed T_ok Tryz.func58 rfl (by kernel_rfl) (by kernel_rfl) (by kernel_rfl) ?_
 repeat' ((conv=>whnf);first|(refine cond_intro ⟨by (try simp (disch:=omega) only [w64_in,u32_in',u64_in',u8_in',ishr_lit8,ishr_lit16,ishr_lit32,ishr_lit18,Int.tmod_eq_emod_of_nonneg,Int.tdiv_eq_ediv_of_nonneg,Int.toNat_natCast,Nat.add_zero]);omega,by (try simp (disch:=omega) only [w64_in,u32_in',u64_in',u8_in',ishr_lit8,ishr_lit16,ishr_lit32,ishr_lit18,Int.tmod_eq_emod_of_nonneg,Int.tdiv_eq_ediv_of_nonneg,Int.toNat_natCast,Nat.add_zero]);omega,sz_le (n:=36) (by kernel_rfl) (by (try simp (disch:=omega) only [w64_in,u32_in',u64_in',u8_in',ishr_lit8,ishr_lit16,ishr_lit32,ishr_lit18,Int.tmod_eq_emod_of_nonneg,Int.tdiv_eq_ediv_of_nonneg,Int.toNat_natCast,Nat.add_zero]);omega)⟩ ?_)|(refine cond_intro ⟨by (try simp (disch:=omega) only [w64_in,u32_in',u64_in',u8_in',ishr_lit8,ishr_lit16,ishr_lit32,ishr_lit18,Int.tmod_eq_emod_of_nonneg,Int.tdiv_eq_ediv_of_nonneg,Int.toNat_natCast,Nat.add_zero]);omega,by (try simp (disch:=omega) only [w64_in,u32_in',u64_in',u8_in',ishr_lit8,ishr_lit16,ishr_lit32,ishr_lit18,Int.tmod_eq_emod_of_nonneg,Int.tdiv_eq_ediv_of_nonneg,Int.toNat_natCast,Nat.add_zero]);omega,sz_le (n:=200) (by kernel_rfl) (by (try simp (disch:=omega) only [w64_in,u32_in',u64_in',u8_in',ishr_lit8,ishr_lit16,ishr_lit32,ishr_lit18,Int.tmod_eq_emod_of_nonneg,Int.tdiv_eq_ediv_of_nonneg,Int.toNat_natCast,Nat.add_zero]);omega)⟩ ?_)|((first|apply br_dec|apply br_ndec)<;>intro h<;>try (exfalso;(try dsimp only at h);omega))|((first|apply br_seq|apply br_nseq|apply br_not|apply br_intro)<;>intro h)|refine cond_a ?_)
 all_goals (conv=>whnf)
 all_goals refine ret_pure ?_
 all_goals simp only [oneOr]
 all_goals refine congrArg SV.str ?_
 all_goals unfold dec
 ·rw [d1 (by omega),show (IntKind.i64.wrap ((n:Int)+1)).toNat=n+1 from by (try simp (disch:=omega) only [w64_in,u32_in',u64_in',u8_in',ishr_lit8,ishr_lit16,ishr_lit32,ishr_lit18,Int.tmod_eq_emod_of_nonneg,Int.tdiv_eq_ediv_of_nonneg,Int.toNat_natCast,Nat.add_zero]);omega]
  refine extract_bytes (n:=1) (by show n+1≤36;omega) _ rfl ?_
  intro i hi
  have e:i=0:=by omega
  subst e
  refine Eq.trans (tabB_at (n:=36) (f:=fun i=>if i<10 then 48+i else 87+i) (by kernel_rfl) (i:=n+0) (by omega)) ?_
  rw [if_pos (by omega)];rfl
 ·rw [d2 (by omega),show (IntKind.i64.wrap ((n:Int)*2)).toNat=n*2 from by (try simp (disch:=omega) only [w64_in,u32_in',u64_in',u8_in',ishr_lit8,ishr_lit16,ishr_lit32,ishr_lit18,Int.tmod_eq_emod_of_nonneg,Int.tdiv_eq_ediv_of_nonneg,Int.toNat_natCast,Nat.add_zero]);omega,show (IntKind.i64.wrap (IntKind.i64.wrap ((n:Int)*2)+2)).toNat=n*2+2 from by (try simp (disch:=omega) only [w64_in,u32_in',u64_in',u8_in',ishr_lit8,ishr_lit16,ishr_lit32,ishr_lit18,Int.tmod_eq_emod_of_nonneg,Int.tdiv_eq_ediv_of_nonneg,Int.toNat_natCast,Nat.add_zero]);omega]
  refine extract_bytes (n:=2) (by show n*2+2≤200;omega) _ rfl ?_
  intro i hi
  rcases (show i=0∨i=1 by omega) with rfl|rfl
  ·rw [show ((n*2+0:Nat):Int)=(n:Int)*2 by omega,sm_even (by kernel_rfl) (by omega) (by omega)];rfl
  ·rw [show ((n*2+1:Nat):Int)=(n:Int)*2+1 by omega,sm_odd (by kernel_rfl) (by omega) (by omega)];rfl
set_option maxHeartbeats 2000000 in
theorem conv_formatBase10 (l:List Int) (N o n U:Nat) (hl:l.length=N) (hN:o+n≤N) (hN2:N≤1000) (hU:U<10^n) (hU2:U<18446744073709551616):
  FC Tryz.prog 2 60 [.sl 1 0 o n,.int .u64 U] [(1,some (.one false (.cols N [.sc (.ints .u8 l)])))] (isOut (.tup []) [(1,some (.one false (.cols N [.sc (.ints .u8 (dtab l N o n U n))])))] 2):=by
 refine fc_of mixed T_ok Tryz.func60 rfl (by kernel_rfl) (by kernel_rfl) (by kernel_rfl) ?_
 (conv=>whnf)
 refine vloop_of (fun m:Nat=>⟨[(0,.sl 1 0 o n),(1,.int .u64 (U/10^m:Nat)),(4,.int .i64 (n-m:Nat))],[(1,some (.one false (.cols N [.sc (.ints .u8 (dtab l N o n U m))])))],2⟩) (fun m=>m≤n) (fun m=>n-m) 0 [0,1] [] ⟨rfl,⟨rfl,?_,rfl,trivial⟩,⟨?_,trivial⟩⟩ (by omega) ?_
 ·simp only [Nat.pow_zero,Nat.div_one];rfl
 ·rw [dtab_zero hl];rfl
 intro m hm
 have hu:U/10^m≤U:=Nat.div_le_self _ _
 have hdm:U/10^m<10^(n-m):=by
  rw [Nat.div_lt_iff_lt_mul (Nat.pow_pos (by omega)),←Nat.pow_add,show n-m+m=n from by omega];exact hU
 generalize hq:U/10^m=q at*
 by_cases h8:8≤n-m
 ·repeat' ((conv=>whnf);first|(refine cond_intro ⟨by (try simp (disch:=omega) only [w64_in,u32_in',u64_in',u8_in',ishr_lit8,ishr_lit16,ishr_lit32,ishr_lit18,Int.tmod_eq_emod_of_nonneg,Int.tdiv_eq_ediv_of_nonneg,Int.toNat_natCast,Nat.add_zero]);omega,sz_lt (n:=200) (by kernel_rfl) (by (try simp (disch:=omega) only [w64_in,u32_in',u64_in',u8_in',ishr_lit8,ishr_lit16,ishr_lit32,ishr_lit18,Int.tmod_eq_emod_of_nonneg,Int.tdiv_eq_ediv_of_nonneg,Int.toNat_natCast,Nat.add_zero]);omega)⟩ ?_)|(refine cond_intro ⟨by (try simp (disch:=omega) only [w64_in,u32_in',u64_in',u8_in',ishr_lit8,ishr_lit16,ishr_lit32,ishr_lit18,Int.tmod_eq_emod_of_nonneg,Int.tdiv_eq_ediv_of_nonneg,Int.toNat_natCast,Nat.add_zero]);omega,by (try simp (disch:=omega) only [w64_in,u32_in',u64_in',u8_in',ishr_lit8,ishr_lit16,ishr_lit32,ishr_lit18,Int.tmod_eq_emod_of_nonneg,Int.tdiv_eq_ediv_of_nonneg,Int.toNat_natCast,Nat.add_zero]);omega⟩ ?_)|(refine cond_intro (by (try simp (disch:=omega) only [w64_in,u32_in',u64_in',u8_in',ishr_lit8,ishr_lit16,ishr_lit32,ishr_lit18,Int.tmod_eq_emod_of_nonneg,Int.tdiv_eq_ediv_of_nonneg,Int.toNat_natCast,Nat.add_zero]);omega) ?_)|((first|apply br_dec|apply br_ndec)<;>intro h<;>try (exfalso;(try dsimp only at h);omega))|((first|apply br_seq|apply br_nseq|apply br_not|apply br_intro)<;>intro h)|refine cond_a ?_)
  all_goals (conv=>whnf)
  refine ⟨m+8,[0,1],[],by omega,by omega,⟨rfl,⟨rfl,?_,?_,trivial⟩,⟨?_,trivial⟩⟩⟩
  ·refine congrArg (fun z=>some (SV.int .u64 z)) ?_
   (try simp (disch:=omega) only [w64_in,u32_in',u64_in',u8_in',ishr_lit8,ishr_lit16,ishr_lit32,ishr_lit18,Int.tmod_eq_emod_of_nonneg,Int.tdiv_eq_ediv_of_nonneg,Int.toNat_natCast,Nat.add_zero])
   simp only [pow_step,hq,Nat.reducePow];omega
  ·refine congrArg (fun z=>some (SV.int .i64 z)) ?_
   (try simp (disch:=omega) only [w64_in,u32_in',u64_in',u8_in',ishr_lit8,ishr_lit16,ishr_lit32,ishr_lit18,Int.tmod_eq_emod_of_nonneg,Int.tdiv_eq_ediv_of_nonneg,Int.toNat_natCast,Nat.add_zero])
   omega
  ·refine congrArg (fun z=>some (HB.one false (.cols N [.sc (.ints .u8 z)]))) ?_
   rw [dtab_set (m:=m),dtab_set (m:=m+1),dtab_set (m:=m+2),dtab_set (m:=m+3),dtab_set (m:=m+4),dtab_set (m:=m+5),dtab_set (m:=m+6),dtab_set (m:=m+7)]
   all_goals first|omega|((try simp (disch:=omega) only [w64_in,u32_in',u64_in',u8_in',ishr_lit8,ishr_lit16,ishr_lit32,ishr_lit18,Int.tmod_eq_emod_of_nonneg,Int.tdiv_eq_ediv_of_nonneg,Int.toNat_natCast,Nat.add_zero]);omega)|((try simp (disch:=omega) only [w64_in,u32_in',u64_in',u8_in',ishr_lit8,ishr_lit16,ishr_lit32,ishr_lit18,Int.tmod_eq_emod_of_nonneg,Int.tdiv_eq_ediv_of_nonneg,Int.toNat_natCast,Nat.add_zero]);rw [sm_odd (by kernel_rfl) (by omega) (by omega)];simp only [pow_step,hq,Nat.reducePow];omega)|((try simp (disch:=omega) only [w64_in,u32_in',u64_in',u8_in',ishr_lit8,ishr_lit16,ishr_lit32,ishr_lit18,Int.tmod_eq_emod_of_nonneg,Int.tdiv_eq_ediv_of_nonneg,Int.toNat_natCast,Nat.add_zero]);rw [sm_even (by kernel_rfl) (by omega) (by omega)];simp only [pow_step,hq,Nat.reducePow];omega)
 ·have hk:n-m=0∨n-m=1∨n-m=2∨n-m=3∨n-m=4∨n-m=5∨n-m=6∨n-m=7:=by omega
  rcases hk with hk|hk|hk|hk|hk|hk|hk|hk
  ·obtain rfl:n=m+0:=by omega
   have hk':q<10^0:=by simpa [hk] using hdm
   repeat' ((conv=>whnf);first|(refine cond_intro ⟨by (try simp (disch:=omega) only [w64_in,u32_in',u64_in',u8_in',ishr_lit8,ishr_lit16,ishr_lit32,ishr_lit18,Int.tmod_eq_emod_of_nonneg,Int.tdiv_eq_ediv_of_nonneg,Int.toNat_natCast,Nat.add_zero]);omega,sz_lt (n:=200) (by kernel_rfl) (by (try simp (disch:=omega) only [w64_in,u32_in',u64_in',u8_in',ishr_lit8,ishr_lit16,ishr_lit32,ishr_lit18,Int.tmod_eq_emod_of_nonneg,Int.tdiv_eq_ediv_of_nonneg,Int.toNat_natCast,Nat.add_zero]);omega)⟩ ?_)|(refine cond_intro ⟨by (try simp (disch:=omega) only [w64_in,u32_in',u64_in',u8_in',ishr_lit8,ishr_lit16,ishr_lit32,ishr_lit18,Int.tmod_eq_emod_of_nonneg,Int.tdiv_eq_ediv_of_nonneg,Int.toNat_natCast,Nat.add_zero]);omega,by (try simp (disch:=omega) only [w64_in,u32_in',u64_in',u8_in',ishr_lit8,ishr_lit16,ishr_lit32,ishr_lit18,Int.tmod_eq_emod_of_nonneg,Int.tdiv_eq_ediv_of_nonneg,Int.toNat_natCast,Nat.add_zero]);omega⟩ ?_)|(refine cond_intro (by (try simp (disch:=omega) only [w64_in,u32_in',u64_in',u8_in',ishr_lit8,ishr_lit16,ishr_lit32,ishr_lit18,Int.tmod_eq_emod_of_nonneg,Int.tdiv_eq_ediv_of_nonneg,Int.toNat_natCast,Nat.add_zero]);omega) ?_)|((refine br_dec (fun h=> ?_) (fun h=> ?_))<;>try (exfalso;revert h;(try simp (disch:=omega) only [w64_in,u32_in',u64_in',u8_in',ishr_lit8,ishr_lit16,ishr_lit32,ishr_lit18,Int.tmod_eq_emod_of_nonneg,Int.tdiv_eq_ediv_of_nonneg,Int.toNat_natCast,Nat.add_zero]);omega))|((first|apply br_dec|apply br_ndec)<;>intro h<;>try (exfalso;(try dsimp only at h);omega))|((first|apply br_seq|apply br_nseq|apply br_not|apply br_intro)<;>intro h)|refine cond_a ?_)
   all_goals (conv=>whnf)
   refine ret_out (l:= [0,1]) rfl rfl ⟨?_,trivial⟩ (allRw_cons allRw_nil)
   refine congrArg (fun z=>some (HB.one false (.cols N [.sc (.ints .u8 z)]))) ?_
   rfl
  ·obtain rfl:n=m+1:=by omega
   have hk':q<10^1:=by simpa [hk] using hdm
   repeat' ((conv=>whnf);first|(refine cond_intro ⟨by (try simp (disch:=omega) only [w64_in,u32_in',u64_in',u8_in',ishr_lit8,ishr_lit16,ishr_lit32,ishr_lit18,Int.tmod_eq_emod_of_nonneg,Int.tdiv_eq_ediv_of_nonneg,Int.toNat_natCast,Nat.add_zero]);omega,sz_lt (n:=200) (by kernel_rfl) (by (try simp (disch:=omega) only [w64_in,u32_in',u64_in',u8_in',ishr_lit8,ishr_lit16,ishr_lit32,ishr_lit18,Int.tmod_eq_emod_of_nonneg,Int.tdiv_eq_ediv_of_nonneg,Int.toNat_natCast,Nat.add_zero]);omega)⟩ ?_)|(refine cond_intro ⟨by (try simp (disch:=omega) only [w64_in,u32_in',u64_in',u8_in',ishr_lit8,ishr_lit16,ishr_lit32,ishr_lit18,Int.tmod_eq_emod_of_nonneg,Int.tdiv_eq_ediv_of_nonneg,Int.toNat_natCast,Nat.add_zero]);omega,by (try simp (disch:=omega) only [w64_in,u32_in',u64_in',u8_in',ishr_lit8,ishr_lit16,ishr_lit32,ishr_lit18,Int.tmod_eq_emod_of_nonneg,Int.tdiv_eq_ediv_of_nonneg,Int.toNat_natCast,Nat.add_zero]);omega⟩ ?_)|(refine cond_intro (by (try simp (disch:=omega) only [w64_in,u32_in',u64_in',u8_in',ishr_lit8,ishr_lit16,ishr_lit32,ishr_lit18,Int.tmod_eq_emod_of_nonneg,Int.tdiv_eq_ediv_of_nonneg,Int.toNat_natCast,Nat.add_zero]);omega) ?_)|((refine br_dec (fun h=> ?_) (fun h=> ?_))<;>try (exfalso;revert h;(try simp (disch:=omega) only [w64_in,u32_in',u64_in',u8_in',ishr_lit8,ishr_lit16,ishr_lit32,ishr_lit18,Int.tmod_eq_emod_of_nonneg,Int.tdiv_eq_ediv_of_nonneg,Int.toNat_natCast,Nat.add_zero]);omega))|((first|apply br_dec|apply br_ndec)<;>intro h<;>try (exfalso;(try dsimp only at h);omega))|((first|apply br_seq|apply br_nseq|apply br_not|apply br_intro)<;>intro h)|refine cond_a ?_)
   all_goals (conv=>whnf)
   refine ret_out (l:= [0,1]) rfl rfl ⟨?_,trivial⟩ (allRw_cons allRw_nil)
   refine congrArg (fun z=>some (HB.one false (.cols N [.sc (.ints .u8 z)]))) ?_
   rw [dtab_set (m:=m)]
   all_goals first|omega|((try simp (disch:=omega) only [w64_in,u32_in',u64_in',u8_in',ishr_lit8,ishr_lit16,ishr_lit32,ishr_lit18,Int.tmod_eq_emod_of_nonneg,Int.tdiv_eq_ediv_of_nonneg,Int.toNat_natCast,Nat.add_zero]);omega)|((try simp (disch:=omega) only [w64_in,u32_in',u64_in',u8_in',ishr_lit8,ishr_lit16,ishr_lit32,ishr_lit18,Int.tmod_eq_emod_of_nonneg,Int.tdiv_eq_ediv_of_nonneg,Int.toNat_natCast,Nat.add_zero]);rw [sm_odd (by kernel_rfl) (by omega) (by omega)];simp only [pow_step,hq,Nat.reducePow];omega)|((try simp (disch:=omega) only [w64_in,u32_in',u64_in',u8_in',ishr_lit8,ishr_lit16,ishr_lit32,ishr_lit18,Int.tmod_eq_emod_of_nonneg,Int.tdiv_eq_ediv_of_nonneg,Int.toNat_natCast,Nat.add_zero]);rw [sm_even (by kernel_rfl) (by omega) (by omega)];simp only [pow_step,hq,Nat.reducePow];omega)|((try simp (disch:=omega) only [w64_in,u32_in',u64_in',u8_in',ishr_lit8,ishr_lit16,ishr_lit32,ishr_lit18,Int.tmod_eq_emod_of_nonneg,Int.tdiv_eq_ediv_of_nonneg,Int.toNat_natCast,Nat.add_zero]);simp only [pow_step,hq,Nat.reducePow];omega)
  ·obtain rfl:n=m+2:=by omega
   have hk':q<10^2:=by simpa [hk] using hdm
   repeat' ((conv=>whnf);first|(refine cond_intro ⟨by (try simp (disch:=omega) only [w64_in,u32_in',u64_in',u8_in',ishr_lit8,ishr_lit16,ishr_lit32,ishr_lit18,Int.tmod_eq_emod_of_nonneg,Int.tdiv_eq_ediv_of_nonneg,Int.toNat_natCast,Nat.add_zero]);omega,sz_lt (n:=200) (by kernel_rfl) (by (try simp (disch:=omega) only [w64_in,u32_in',u64_in',u8_in',ishr_lit8,ishr_lit16,ishr_lit32,ishr_lit18,Int.tmod_eq_emod_of_nonneg,Int.tdiv_eq_ediv_of_nonneg,Int.toNat_natCast,Nat.add_zero]);omega)⟩ ?_)|(refine cond_intro ⟨by (try simp (disch:=omega) only [w64_in,u32_in',u64_in',u8_in',ishr_lit8,ishr_lit16,ishr_lit32,ishr_lit18,Int.tmod_eq_emod_of_nonneg,Int.tdiv_eq_ediv_of_nonneg,Int.toNat_natCast,Nat.add_zero]);omega,by (try simp (disch:=omega) only [w64_in,u32_in',u64_in',u8_in',ishr_lit8,ishr_lit16,ishr_lit32,ishr_lit18,Int.tmod_eq_emod_of_nonneg,Int.tdiv_eq_ediv_of_nonneg,Int.toNat_natCast,Nat.add_zero]);omega⟩ ?_)|(refine cond_intro (by (try simp (disch:=omega) only [w64_in,u32_in',u64_in',u8_in',ishr_lit8,ishr_lit16,ishr_lit32,ishr_lit18,Int.tmod_eq_emod_of_nonneg,Int.tdiv_eq_ediv_of_nonneg,Int.toNat_natCast,Nat.add_zero]);omega) ?_)|((refine br_dec (fun h=> ?_) (fun h=> ?_))<;>try (exfalso;revert h;(try simp (disch:=omega) only [w64_in,u32_in',u64_in',u8_in',ishr_lit8,ishr_lit16,ishr_lit32,ishr_lit18,Int.tmod_eq_emod_of_nonneg,Int.tdiv_eq_ediv_of_nonneg,Int.toNat_natCast,Nat.add_zero]);omega))|((first|apply br_dec|apply br_ndec)<;>intro h<;>try (exfalso;(try dsimp only at h);omega))|((first|apply br_seq|apply br_nseq|apply br_not|apply br_intro)<;>intro h)|refine cond_a ?_)
   all_goals (conv=>whnf)
   refine ret_out (l:= [0,1]) rfl rfl ⟨?_,trivial⟩ (allRw_cons allRw_nil)
   refine congrArg (fun z=>some (HB.one false (.cols N [.sc (.ints .u8 z)]))) ?_
   rw [dtab_set (m:=m),dtab_set (m:=m+1)]
   all_goals first|omega|((try simp (disch:=omega) only [w64_in,u32_in',u64_in',u8_in',ishr_lit8,ishr_lit16,ishr_lit32,ishr_lit18,Int.tmod_eq_emod_of_nonneg,Int.tdiv_eq_ediv_of_nonneg,Int.toNat_natCast,Nat.add_zero]);omega)|((try simp (disch:=omega) only [w64_in,u32_in',u64_in',u8_in',ishr_lit8,ishr_lit16,ishr_lit32,ishr_lit18,Int.tmod_eq_emod_of_nonneg,Int.tdiv_eq_ediv_of_nonneg,Int.toNat_natCast,Nat.add_zero]);rw [sm_odd (by kernel_rfl) (by omega) (by omega)];simp only [pow_step,hq,Nat.reducePow];omega)|((try simp (disch:=omega) only [w64_in,u32_in',u64_in',u8_in',ishr_lit8,ishr_lit16,ishr_lit32,ishr_lit18,Int.tmod_eq_emod_of_nonneg,Int.tdiv_eq_ediv_of_nonneg,Int.toNat_natCast,Nat.add_zero]);rw [sm_even (by kernel_rfl) (by omega) (by omega)];simp only [pow_step,hq,Nat.reducePow];omega)|((try simp (disch:=omega) only [w64_in,u32_in',u64_in',u8_in',ishr_lit8,ishr_lit16,ishr_lit32,ishr_lit18,Int.tmod_eq_emod_of_nonneg,Int.tdiv_eq_ediv_of_nonneg,Int.toNat_natCast,Nat.add_zero]);simp only [pow_step,hq,Nat.reducePow];omega)
  ·obtain rfl:n=m+3:=by omega
   have hk':q<10^3:=by simpa [hk] using hdm
   repeat' ((conv=>whnf);first|(refine cond_intro ⟨by (try simp (disch:=omega) only [w64_in,u32_in',u64_in',u8_in',ishr_lit8,ishr_lit16,ishr_lit32,ishr_lit18,Int.tmod_eq_emod_of_nonneg,Int.tdiv_eq_ediv_of_nonneg,Int.toNat_natCast,Nat.add_zero]);omega,sz_lt (n:=200) (by kernel_rfl) (by (try simp (disch:=omega) only [w64_in,u32_in',u64_in',u8_in',ishr_lit8,ishr_lit16,ishr_lit32,ishr_lit18,Int.tmod_eq_emod_of_nonneg,Int.tdiv_eq_ediv_of_nonneg,Int.toNat_natCast,Nat.add_zero]);omega)⟩ ?_)|(refine cond_intro ⟨by (try simp (disch:=omega) only [w64_in,u32_in',u64_in',u8_in',ishr_lit8,ishr_lit16,ishr_lit32,ishr_lit18,Int.tmod_eq_emod_of_nonneg,Int.tdiv_eq_ediv_of_nonneg,Int.toNat_natCast,Nat.add_zero]);omega,by (try simp (disch:=omega) only [w64_in,u32_in',u64_in',u8_in',ishr_lit8,ishr_lit16,ishr_lit32,ishr_lit18,Int.tmod_eq_emod_of_nonneg,Int.tdiv_eq_ediv_of_nonneg,Int.toNat_natCast,Nat.add_zero]);omega⟩ ?_)|(refine cond_intro (by (try simp (disch:=omega) only [w64_in,u32_in',u64_in',u8_in',ishr_lit8,ishr_lit16,ishr_lit32,ishr_lit18,Int.tmod_eq_emod_of_nonneg,Int.tdiv_eq_ediv_of_nonneg,Int.toNat_natCast,Nat.add_zero]);omega) ?_)|((refine br_dec (fun h=> ?_) (fun h=> ?_))<;>try (exfalso;revert h;(try simp (disch:=omega) only [w64_in,u32_in',u64_in',u8_in',ishr_lit8,ishr_lit16,ishr_lit32,ishr_lit18,Int.tmod_eq_emod_of_nonneg,Int.tdiv_eq_ediv_of_nonneg,Int.toNat_natCast,Nat.add_zero]);omega))|((first|apply br_dec|apply br_ndec)<;>intro h<;>try (exfalso;(try dsimp only at h);omega))|((first|apply br_seq|apply br_nseq|apply br_not|apply br_intro)<;>intro h)|refine cond_a ?_)
   all_goals (conv=>whnf)
   refine ret_out (l:= [0,1]) rfl rfl ⟨?_,trivial⟩ (allRw_cons allRw_nil)
   refine congrArg (fun z=>some (HB.one false (.cols N [.sc (.ints .u8 z)]))) ?_
   rw [dtab_set (m:=m),dtab_set (m:=m+1),dtab_set (m:=m+2)]
   all_goals first|omega|((try simp (disch:=omega) only [w64_in,u32_in',u64_in',u8_in',ishr_lit8,ishr_lit16,ishr_lit32,ishr_lit18,Int.tmod_eq_emod_of_nonneg,Int.tdiv_eq_ediv_of_nonneg,Int.toNat_natCast,Nat.add_zero]);omega)|((try simp (disch:=omega) only [w64_in,u32_in',u64_in',u8_in',ishr_lit8,ishr_lit16,ishr_lit32,ishr_lit18,Int.tmod_eq_emod_of_nonneg,Int.tdiv_eq_ediv_of_nonneg,Int.toNat_natCast,Nat.add_zero]);rw [sm_odd (by kernel_rfl) (by omega) (by omega)];simp only [pow_step,hq,Nat.reducePow];omega)|((try simp (disch:=omega) only [w64_in,u32_in',u64_in',u8_in',ishr_lit8,ishr_lit16,ishr_lit32,ishr_lit18,Int.tmod_eq_emod_of_nonneg,Int.tdiv_eq_ediv_of_nonneg,Int.toNat_natCast,Nat.add_zero]);rw [sm_even (by kernel_rfl) (by omega) (by omega)];simp only [pow_step,hq,Nat.reducePow];omega)|((try simp (disch:=omega) only [w64_in,u32_in',u64_in',u8_in',ishr_lit8,ishr_lit16,ishr_lit32,ishr_lit18,Int.tmod_eq_emod_of_nonneg,Int.tdiv_eq_ediv_of_nonneg,Int.toNat_natCast,Nat.add_zero]);simp only [pow_step,hq,Nat.reducePow];omega)
  ·obtain rfl:n=m+4:=by omega
   have hk':q<10^4:=by simpa [hk] using hdm
   repeat' ((conv=>whnf);first|(refine cond_intro ⟨by (try simp (disch:=omega) only [w64_in,u32_in',u64_in',u8_in',ishr_lit8,ishr_lit16,ishr_lit32,ishr_lit18,Int.tmod_eq_emod_of_nonneg,Int.tdiv_eq_ediv_of_nonneg,Int.toNat_natCast,Nat.add_zero]);omega,sz_lt (n:=200) (by kernel_rfl) (by (try simp (disch:=omega) only [w64_in,u32_in',u64_in',u8_in',ishr_lit8,ishr_lit16,ishr_lit32,ishr_lit18,Int.tmod_eq_emod_of_nonneg,Int.tdiv_eq_ediv_of_nonneg,Int.toNat_natCast,Nat.add_zero]);omega)⟩ ?_)|(refine cond_intro ⟨by (try simp (disch:=omega) only [w64_in,u32_in',u64_in',u8_in',ishr_lit8,ishr_lit16,ishr_lit32,ishr_lit18,Int.tmod_eq_emod_of_nonneg,Int.tdiv_eq_ediv_of_nonneg,Int.toNat_natCast,Nat.add_zero]);omega,by (try simp (disch:=omega) only [w64_in,u32_in',u64_in',u8_in',ishr_lit8,ishr_lit16,ishr_lit32,ishr_lit18,Int.tmod_eq_emod_of_nonneg,Int.tdiv_eq_ediv_of_nonneg,Int.toNat_natCast,Nat.add_zero]);omega⟩ ?_)|(refine cond_intro (by (try simp (disch:=omega) only [w64_in,u32_in',u64_in',u8_in',ishr_lit8,ishr_lit16,ishr_lit32,ishr_lit18,Int.tmod_eq_emod_of_nonneg,Int.tdiv_eq_ediv_of_nonneg,Int.toNat_natCast,Nat.add_zero]);omega) ?_)|((refine br_dec (fun h=> ?_) (fun h=> ?_))<;>try (exfalso;revert h;(try simp (disch:=omega) only [w64_in,u32_in',u64_in',u8_in',ishr_lit8,ishr_lit16,ishr_lit32,ishr_lit18,Int.tmod_eq_emod_of_nonneg,Int.tdiv_eq_ediv_of_nonneg,Int.toNat_natCast,Nat.add_zero]);omega))|((first|apply br_dec|apply br_ndec)<;>intro h<;>try (exfalso;(try dsimp only at h);omega))|((first|apply br_seq|apply br_nseq|apply br_not|apply br_intro)<;>intro h)|refine cond_a ?_)
   all_goals (conv=>whnf)
   refine ret_out (l:= [0,1]) rfl rfl ⟨?_,trivial⟩ (allRw_cons allRw_nil)
   refine congrArg (fun z=>some (HB.one false (.cols N [.sc (.ints .u8 z)]))) ?_
   rw [dtab_set (m:=m),dtab_set (m:=m+1),dtab_set (m:=m+2),dtab_set (m:=m+3)]
   all_goals first|omega|((try simp (disch:=omega) only [w64_in,u32_in',u64_in',u8_in',ishr_lit8,ishr_lit16,ishr_lit32,ishr_lit18,Int.tmod_eq_emod_of_nonneg,Int.tdiv_eq_ediv_of_nonneg,Int.toNat_natCast,Nat.add_zero]);omega)|((try simp (disch:=omega) only [w64_in,u32_in',u64_in',u8_in',ishr_lit8,ishr_lit16,ishr_lit32,ishr_lit18,Int.tmod_eq_emod_of_nonneg,Int.tdiv_eq_ediv_of_nonneg,Int.toNat_natCast,Nat.add_zero]);rw [sm_odd (by kernel_rfl) (by omega) (by omega)];simp only [pow_step,hq,Nat.reducePow];omega)|((try simp (disch:=omega) only [w64_in,u32_in',u64_in',u8_in',ishr_lit8,ishr_lit16,ishr_lit32,ishr_lit18,Int.tmod_eq_emod_of_nonneg,Int.tdiv_eq_ediv_of_nonneg,Int.toNat_natCast,Nat.add_zero]);rw [sm_even (by kernel_rfl) (by omega) (by omega)];simp only [pow_step,hq,Nat.reducePow];omega)|((try simp (disch:=omega) only [w64_in,u32_in',u64_in',u8_in',ishr_lit8,ishr_lit16,ishr_lit32,ishr_lit18,Int.tmod_eq_emod_of_nonneg,Int.tdiv_eq_ediv_of_nonneg,Int.toNat_natCast,Nat.add_zero]);simp only [pow_step,hq,Nat.reducePow];omega)
  ·obtain rfl:n=m+5:=by omega
   have hk':q<10^5:=by simpa [hk] using hdm
   repeat' ((conv=>whnf);first|(refine cond_intro ⟨by (try simp (disch:=omega) only [w64_in,u32_in',u64_in',u8_in',ishr_lit8,ishr_lit16,ishr_lit32,ishr_lit18,Int.tmod_eq_emod_of_nonneg,Int.tdiv_eq_ediv_of_nonneg,Int.toNat_natCast,Nat.add_zero]);omega,sz_lt (n:=200) (by kernel_rfl) (by (try simp (disch:=omega) only [w64_in,u32_in',u64_in',u8_in',ishr_lit8,ishr_lit16,ishr_lit32,ishr_lit18,Int.tmod_eq_emod_of_nonneg,Int.tdiv_eq_ediv_of_nonneg,Int.toNat_natCast,Nat.add_zero]);omega)⟩ ?_)|(refine cond_intro ⟨by (try simp (disch:=omega) only [w64_in,u32_in',u64_in',u8_in',ishr_lit8,ishr_lit16,ishr_lit32,ishr_lit18,Int.tmod_eq_emod_of_nonneg,Int.tdiv_eq_ediv_of_nonneg,Int.toNat_natCast,Nat.add_zero]);omega,by (try simp (disch:=omega) only [w64_in,u32_in',u64_in',u8_in',ishr_lit8,ishr_lit16,ishr_lit32,ishr_lit18,Int.tmod_eq_emod_of_nonneg,Int.tdiv_eq_ediv_of_nonneg,Int.toNat_natCast,Nat.add_zero]);omega⟩ ?_)|(refine cond_intro (by (try simp (disch:=omega) only [w64_in,u32_in',u64_in',u8_in',ishr_lit8,ishr_lit16,ishr_lit32,ishr_lit18,Int.tmod_eq_emod_of_nonneg,Int.tdiv_eq_ediv_of_nonneg,Int.toNat_natCast,Nat.add_zero]);omega) ?_)|((refine br_dec (fun h=> ?_) (fun h=> ?_))<;>try (exfalso;revert h;(try simp (disch:=omega) only [w64_in,u32_in',u64_in',u8_in',ishr_lit8,ishr_lit16,ishr_lit32,ishr_lit18,Int.tmod_eq_emod_of_nonneg,Int.tdiv_eq_ediv_of_nonneg,Int.toNat_natCast,Nat.add_zero]);omega))|((first|apply br_dec|apply br_ndec)<;>intro h<;>try (exfalso;(try dsimp only at h);omega))|((first|apply br_seq|apply br_nseq|apply br_not|apply br_intro)<;>intro h)|refine cond_a ?_)
   all_goals (conv=>whnf)
   refine ret_out (l:= [0,1]) rfl rfl ⟨?_,trivial⟩ (allRw_cons allRw_nil)
   refine congrArg (fun z=>some (HB.one false (.cols N [.sc (.ints .u8 z)]))) ?_
   rw [dtab_set (m:=m),dtab_set (m:=m+1),dtab_set (m:=m+2),dtab_set (m:=m+3),dtab_set (m:=m+4)]
   all_goals first|omega|((try simp (disch:=omega) only [w64_in,u32_in',u64_in',u8_in',ishr_lit8,ishr_lit16,ishr_lit32,ishr_lit18,Int.tmod_eq_emod_of_nonneg,Int.tdiv_eq_ediv_of_nonneg,Int.toNat_natCast,Nat.add_zero]);omega)|((try simp (disch:=omega) only [w64_in,u32_in',u64_in',u8_in',ishr_lit8,ishr_lit16,ishr_lit32,ishr_lit18,Int.tmod_eq_emod_of_nonneg,Int.tdiv_eq_ediv_of_nonneg,Int.toNat_natCast,Nat.add_zero]);rw [sm_odd (by kernel_rfl) (by omega) (by omega)];simp only [pow_step,hq,Nat.reducePow];omega)|((try simp (disch:=omega) only [w64_in,u32_in',u64_in',u8_in',ishr_lit8,ishr_lit16,ishr_lit32,ishr_lit18,Int.tmod_eq_emod_of_nonneg,Int.tdiv_eq_ediv_of_nonneg,Int.toNat_natCast,Nat.add_zero]);rw [sm_even (by kernel_rfl) (by omega) (by omega)];simp only [pow_step,hq,Nat.reducePow];omega)|((try simp (disch:=omega) only [w64_in,u32_in',u64_in',u8_in',ishr_lit8,ishr_lit16,ishr_lit32,ishr_lit18,Int.tmod_eq_emod_of_nonneg,Int.tdiv_eq_ediv_of_nonneg,Int.toNat_natCast,Nat.add_zero]);simp only [pow_step,hq,Nat.reducePow];omega)
  ·obtain rfl:n=m+6:=by omega
   have hk':q<10^6:=by simpa [hk] using hdm
   repeat' ((conv=>whnf);first|(refine cond_intro ⟨by (try simp (disch:=omega) only [w64_in,u32_in',u64_in',u8_in',ishr_lit8,ishr_lit16,ishr_lit32,ishr_lit18,Int.tmod_eq_emod_of_nonneg,Int.tdiv_eq_ediv_of_nonneg,Int.toNat_natCast,Nat.add_zero]);omega,sz_lt (n:=200) (by kernel_rfl) (by (try simp (disch:=omega) only [w64_in,u32_in',u64_in',u8_in',ishr_lit8,ishr_lit16,ishr_lit32,ishr_lit18,Int.tmod_eq_emod_of_nonneg,Int.tdiv_eq_ediv_of_nonneg,Int.toNat_natCast,Nat.add_zero]);omega)⟩ ?_)|(refine cond_intro ⟨by (try simp (disch:=omega) only [w64_in,u32_in',u64_in',u8_in',ishr_lit8,ishr_lit16,ishr_lit32,ishr_lit18,Int.tmod_eq_emod_of_nonneg,Int.tdiv_eq_ediv_of_nonneg,Int.toNat_natCast,Nat.add_zero]);omega,by (try simp (disch:=omega) only [w64_in,u32_in',u64_in',u8_in',ishr_lit8,ishr_lit16,ishr_lit32,ishr_lit18,Int.tmod_eq_emod_of_nonneg,Int.tdiv_eq_ediv_of_nonneg,Int.toNat_natCast,Nat.add_zero]);omega⟩ ?_)|(refine cond_intro (by (try simp (disch:=omega) only [w64_in,u32_in',u64_in',u8_in',ishr_lit8,ishr_lit16,ishr_lit32,ishr_lit18,Int.tmod_eq_emod_of_nonneg,Int.tdiv_eq_ediv_of_nonneg,Int.toNat_natCast,Nat.add_zero]);omega) ?_)|((refine br_dec (fun h=> ?_) (fun h=> ?_))<;>try (exfalso;revert h;(try simp (disch:=omega) only [w64_in,u32_in',u64_in',u8_in',ishr_lit8,ishr_lit16,ishr_lit32,ishr_lit18,Int.tmod_eq_emod_of_nonneg,Int.tdiv_eq_ediv_of_nonneg,Int.toNat_natCast,Nat.add_zero]);omega))|((first|apply br_dec|apply br_ndec)<;>intro h<;>try (exfalso;(try dsimp only at h);omega))|((first|apply br_seq|apply br_nseq|apply br_not|apply br_intro)<;>intro h)|refine cond_a ?_)
   all_goals (conv=>whnf)
   refine ret_out (l:= [0,1]) rfl rfl ⟨?_,trivial⟩ (allRw_cons allRw_nil)
   refine congrArg (fun z=>some (HB.one false (.cols N [.sc (.ints .u8 z)]))) ?_
   rw [dtab_set (m:=m),dtab_set (m:=m+1),dtab_set (m:=m+2),dtab_set (m:=m+3),dtab_set (m:=m+4),dtab_set (m:=m+5)]
   all_goals first|omega|((try simp (disch:=omega) only [w64_in,u32_in',u64_in',u8_in',ishr_lit8,ishr_lit16,ishr_lit32,ishr_lit18,Int.tmod_eq_emod_of_nonneg,Int.tdiv_eq_ediv_of_nonneg,Int.toNat_natCast,Nat.add_zero]);omega)|((try simp (disch:=omega) only [w64_in,u32_in',u64_in',u8_in',ishr_lit8,ishr_lit16,ishr_lit32,ishr_lit18,Int.tmod_eq_emod_of_nonneg,Int.tdiv_eq_ediv_of_nonneg,Int.toNat_natCast,Nat.add_zero]);rw [sm_odd (by kernel_rfl) (by omega) (by omega)];simp only [pow_step,hq,Nat.reducePow];omega)|((try simp (disch:=omega) only [w64_in,u32_in',u64_in',u8_in',ishr_lit8,ishr_lit16,ishr_lit32,ishr_lit18,Int.tmod_eq_emod_of_nonneg,Int.tdiv_eq_ediv_of_nonneg,Int.toNat_natCast,Nat.add_zero]);rw [sm_even (by kernel_rfl) (by omega) (by omega)];simp only [pow_step,hq,Nat.reducePow];omega)|((try simp (disch:=omega) only [w64_in,u32_in',u64_in',u8_in',ishr_lit8,ishr_lit16,ishr_lit32,ishr_lit18,Int.tmod_eq_emod_of_nonneg,Int.tdiv_eq_ediv_of_nonneg,Int.toNat_natCast,Nat.add_zero]);simp only [pow_step,hq,Nat.reducePow];omega)
  ·obtain rfl:n=m+7:=by omega
   have hk':q<10^7:=by simpa [hk] using hdm
   repeat' ((conv=>whnf);first|(refine cond_intro ⟨by (try simp (disch:=omega) only [w64_in,u32_in',u64_in',u8_in',ishr_lit8,ishr_lit16,ishr_lit32,ishr_lit18,Int.tmod_eq_emod_of_nonneg,Int.tdiv_eq_ediv_of_nonneg,Int.toNat_natCast,Nat.add_zero]);omega,sz_lt (n:=200) (by kernel_rfl) (by (try simp (disch:=omega) only [w64_in,u32_in',u64_in',u8_in',ishr_lit8,ishr_lit16,ishr_lit32,ishr_lit18,Int.tmod_eq_emod_of_nonneg,Int.tdiv_eq_ediv_of_nonneg,Int.toNat_natCast,Nat.add_zero]);omega)⟩ ?_)|(refine cond_intro ⟨by (try simp (disch:=omega) only [w64_in,u32_in',u64_in',u8_in',ishr_lit8,ishr_lit16,ishr_lit32,ishr_lit18,Int.tmod_eq_emod_of_nonneg,Int.tdiv_eq_ediv_of_nonneg,Int.toNat_natCast,Nat.add_zero]);omega,by (try simp (disch:=omega) only [w64_in,u32_in',u64_in',u8_in',ishr_lit8,ishr_lit16,ishr_lit32,ishr_lit18,Int.tmod_eq_emod_of_nonneg,Int.tdiv_eq_ediv_of_nonneg,Int.toNat_natCast,Nat.add_zero]);omega⟩ ?_)|(refine cond_intro (by (try simp (disch:=omega) only [w64_in,u32_in',u64_in',u8_in',ishr_lit8,ishr_lit16,ishr_lit32,ishr_lit18,Int.tmod_eq_emod_of_nonneg,Int.tdiv_eq_ediv_of_nonneg,Int.toNat_natCast,Nat.add_zero]);omega) ?_)|((refine br_dec (fun h=> ?_) (fun h=> ?_))<;>try (exfalso;revert h;(try simp (disch:=omega) only [w64_in,u32_in',u64_in',u8_in',ishr_lit8,ishr_lit16,ishr_lit32,ishr_lit18,Int.tmod_eq_emod_of_nonneg,Int.tdiv_eq_ediv_of_nonneg,Int.toNat_natCast,Nat.add_zero]);omega))|((first|apply br_dec|apply br_ndec)<;>intro h<;>try (exfalso;(try dsimp only at h);omega))|((first|apply br_seq|apply br_nseq|apply br_not|apply br_intro)<;>intro h)|refine cond_a ?_)
   all_goals (conv=>whnf)
   refine ret_out (l:= [0,1]) rfl rfl ⟨?_,trivial⟩ (allRw_cons allRw_nil)
   refine congrArg (fun z=>some (HB.one false (.cols N [.sc (.ints .u8 z)]))) ?_
   rw [dtab_set (m:=m),dtab_set (m:=m+1),dtab_set (m:=m+2),dtab_set (m:=m+3),dtab_set (m:=m+4),dtab_set (m:=m+5),dtab_set (m:=m+6)]
   all_goals first|omega|((try simp (disch:=omega) only [w64_in,u32_in',u64_in',u8_in',ishr_lit8,ishr_lit16,ishr_lit32,ishr_lit18,Int.tmod_eq_emod_of_nonneg,Int.tdiv_eq_ediv_of_nonneg,Int.toNat_natCast,Nat.add_zero]);omega)|((try simp (disch:=omega) only [w64_in,u32_in',u64_in',u8_in',ishr_lit8,ishr_lit16,ishr_lit32,ishr_lit18,Int.tmod_eq_emod_of_nonneg,Int.tdiv_eq_ediv_of_nonneg,Int.toNat_natCast,Nat.add_zero]);rw [sm_odd (by kernel_rfl) (by omega) (by omega)];simp only [pow_step,hq,Nat.reducePow];omega)|((try simp (disch:=omega) only [w64_in,u32_in',u64_in',u8_in',ishr_lit8,ishr_lit16,ishr_lit32,ishr_lit18,Int.tmod_eq_emod_of_nonneg,Int.tdiv_eq_ediv_of_nonneg,Int.toNat_natCast,Nat.add_zero]);rw [sm_even (by kernel_rfl) (by omega) (by omega)];simp only [pow_step,hq,Nat.reducePow];omega)|((try simp (disch:=omega) only [w64_in,u32_in',u64_in',u8_in',ishr_lit8,ishr_lit16,ishr_lit32,ishr_lit18,Int.tmod_eq_emod_of_nonneg,Int.tdiv_eq_ediv_of_nonneg,Int.toNat_natCast,Nat.add_zero]);simp only [pow_step,hq,Nat.reducePow];omega)
end Go.Proofs.YtlankgapiecloaaGreatDoor
namespace Go.Proofs.YtlankgapiecloaaGreatDoor
open Go.RowKit Go.Sy
attribute [local irreducible] vcall vloop vcallD retP
set_option maxRecDepth 100000
set_option linter.unusedVariables false
set_option linter.unusedSimpArgs false
theorem ndig_le {u:Nat} (h:u<18446744073709551616):ndig u≤20:=by
 rcases Nat.lt_or_ge 20 (ndig u) with h1|h1
 ·have hu:1≤u:=by
   rcases Nat.eq_zero_or_pos u with e|e
   ·subst e;rw [ndig,if_pos (by omega)] at h1;omega
   ·exact e
  have a:=ndig_ge u hu
  have:10^20≤10^(ndig u-1):=Nat.pow_le_pow_right (by omega) (by omega)
  omega
 ·exact h1
theorem iconv_FormatInt (i:Int) (h1: -9223372036854775808≤i) (h2:i≤9223372036854775807):Glob Tryz.prog glT 45 [.int .i64 i,.int .i64 10] (.str (decI i)):=by
 refine fc_of mixed T_ok Tryz.func45 rfl (by kernel_rfl) (by kernel_rfl) (by kernel_rfl) ?_
 by_cases hs:0≤i∧i<100
 ·have c:=conv_small i.toNat (by omega)
  rw [Int.toNat_of_nonneg hs.1] at c
  repeat' ((conv=>whnf);first|(refine vcall_pure (c) rfl rfl rfl ?_)|((first|apply br_dec|apply br_ndec)<;>intro h<;>try (exfalso;(try dsimp only at h);omega))|((first|apply br_seq|apply br_nseq|apply br_not|apply br_intro)<;>intro h)|refine cond_a ?_)
  all_goals (conv=>whnf)
  all_goals refine ret_pure ?_
  unfold decI
  rw [if_neg (by omega)];rfl
 ·by_cases hi:i<0
  ·have e:IntKind.u64.wrap (0-IntKind.u64.wrap i)=(i.natAbs:Int):=by
    simp only [IntKind.wrap,IntKind.bits,IntKind.signed];simp;omega
   have hb:i.natAbs<18446744073709551616:=by omega
   have hn:=ndig_le hb
   have hp:=ndig_pos i.natAbs
   have c2:=conv_numDigits i.natAbs (by omega) hb
   rw [←e] at c2
   have en:(IntKind.i64.wrap (1+(ndig i.natAbs:Int))).toNat=1+ndig i.natAbs:=by (try simp (disch:=omega) only [w64_in,u32_in',u64_in',u8_in',ishr_lit8,ishr_lit16,ishr_lit32,ishr_lit18,Int.tmod_eq_emod_of_nonneg,Int.tdiv_eq_ediv_of_nonneg,Int.toNat_natCast,Nat.add_zero]);omega
   have en':(IntKind.i64.wrap (1+(ndig i.natAbs:Int))).toNat-Int.toNat 1=ndig i.natAbs:=by rw [en];simp
   have c3:=conv_formatBase10 (List.replicate 24 0) 24 (Int.toNat 1) ((IntKind.i64.wrap (1+(ndig i.natAbs:Int))).toNat-Int.toNat 1) i.natAbs rfl (by rw [en'];show 1+_≤24;omega) (by omega) (by rw [en'];exact ndig_lt _) hb
   rw [←e] at c3
   repeat' ((conv=>whnf);first|(refine vcall_glob (c2) rfl rfl rfl rfl ?_)|refine vcall_o (l:= [0,1]) (c3) ?_|(refine cond_intro ⟨by (try simp (disch:=omega) only [w64_in,u32_in',u64_in',u8_in',ishr_lit8,ishr_lit16,ishr_lit32,ishr_lit18,Int.tmod_eq_emod_of_nonneg,Int.tdiv_eq_ediv_of_nonneg,Int.toNat_natCast,Nat.add_zero]);omega,by (try simp (disch:=omega) only [w64_in,u32_in',u64_in',u8_in',ishr_lit8,ishr_lit16,ishr_lit32,ishr_lit18,Int.tmod_eq_emod_of_nonneg,Int.tdiv_eq_ediv_of_nonneg,Int.toNat_natCast,Nat.add_zero]);omega,by (try simp (disch:=omega) only [w64_in,u32_in',u64_in',u8_in',ishr_lit8,ishr_lit16,ishr_lit32,ishr_lit18,Int.tmod_eq_emod_of_nonneg,Int.tdiv_eq_ediv_of_nonneg,Int.toNat_natCast,Nat.add_zero]);omega⟩ ?_)|(refine cond_intro (by (try simp (disch:=omega) only [w64_in,u32_in',u64_in',u8_in',ishr_lit8,ishr_lit16,ishr_lit32,ishr_lit18,Int.tmod_eq_emod_of_nonneg,Int.tdiv_eq_ediv_of_nonneg,Int.toNat_natCast,Nat.add_zero]);omega) ?_)|((first|apply br_dec|apply br_ndec)<;>intro h<;>try (exfalso;(try dsimp only at h);omega))|((first|apply br_seq|apply br_nseq|apply br_not|apply br_intro)<;>intro h)|refine cond_a ?_)
   all_goals (conv=>whnf)
   all_goals refine ret_pure ?_
   unfold decI
   rw [if_pos hi]
   refine congrArg SV.str (congrArg bytesOf ?_)
   rw [en',en]
   refine Eq.trans (seg_head (n:=ndig i.natAbs) (by rw [dtab_length];omega)) ?_
   rw [show Int.toNat 1=1 from rfl,dtab_seg (by omega)]
  ·have e:IntKind.u64.wrap i=(i.toNat:Int):=by (try simp (disch:=omega) only [w64_in,u32_in',u64_in',u8_in',ishr_lit8,ishr_lit16,ishr_lit32,ishr_lit18,Int.tmod_eq_emod_of_nonneg,Int.tdiv_eq_ediv_of_nonneg,Int.toNat_natCast,Nat.add_zero]);omega
   have hb:i.toNat<18446744073709551616:=by omega
   have hn:=ndig_le hb
   have hp:=ndig_pos i.toNat
   have c2:=conv_numDigits i.toNat (by omega) hb
   rw [←e] at c2
   have en:(IntKind.i64.wrap (1+(ndig i.toNat:Int))).toNat=1+ndig i.toNat:=by (try simp (disch:=omega) only [w64_in,u32_in',u64_in',u8_in',ishr_lit8,ishr_lit16,ishr_lit32,ishr_lit18,Int.tmod_eq_emod_of_nonneg,Int.tdiv_eq_ediv_of_nonneg,Int.toNat_natCast,Nat.add_zero]);omega
   have en':(IntKind.i64.wrap (1+(ndig i.toNat:Int))).toNat-Int.toNat 1=ndig i.toNat:=by rw [en];simp
   have c3:=conv_formatBase10 (List.replicate 24 0) 24 (Int.toNat 1) ((IntKind.i64.wrap (1+(ndig i.toNat:Int))).toNat-Int.toNat 1) i.toNat rfl (by rw [en'];show 1+_≤24;omega) (by omega) (by rw [en'];exact ndig_lt _) hb
   rw [←e] at c3
   repeat' ((conv=>whnf);first|(refine vcall_glob (c2) rfl rfl rfl rfl ?_)|refine vcall_o (l:= [0,1]) (c3) ?_|(refine cond_intro ⟨by (try simp (disch:=omega) only [w64_in,u32_in',u64_in',u8_in',ishr_lit8,ishr_lit16,ishr_lit32,ishr_lit18,Int.tmod_eq_emod_of_nonneg,Int.tdiv_eq_ediv_of_nonneg,Int.toNat_natCast,Nat.add_zero]);omega,by (try simp (disch:=omega) only [w64_in,u32_in',u64_in',u8_in',ishr_lit8,ishr_lit16,ishr_lit32,ishr_lit18,Int.tmod_eq_emod_of_nonneg,Int.tdiv_eq_ediv_of_nonneg,Int.toNat_natCast,Nat.add_zero]);omega,by (try simp (disch:=omega) only [w64_in,u32_in',u64_in',u8_in',ishr_lit8,ishr_lit16,ishr_lit32,ishr_lit18,Int.tmod_eq_emod_of_nonneg,Int.tdiv_eq_ediv_of_nonneg,Int.toNat_natCast,Nat.add_zero]);omega⟩ ?_)|(refine cond_intro (by (try simp (disch:=omega) only [w64_in,u32_in',u64_in',u8_in',ishr_lit8,ishr_lit16,ishr_lit32,ishr_lit18,Int.tmod_eq_emod_of_nonneg,Int.tdiv_eq_ediv_of_nonneg,Int.toNat_natCast,Nat.add_zero]);omega) ?_)|((first|apply br_dec|apply br_ndec)<;>intro h<;>try (exfalso;(try dsimp only at h);omega))|((first|apply br_seq|apply br_nseq|apply br_not|apply br_intro)<;>intro h)|refine cond_a ?_)
   all_goals (conv=>whnf)
   all_goals refine ret_pure ?_
   unfold decI dec
   rw [if_neg hi]
   refine congrArg SV.str (congrArg bytesOf ?_)
   rw [en',show Int.toNat 1=1 from rfl,dtab_seg (by omega)]
theorem conv_FormatInt (i:Int) (h1: -9223372036854775808≤i) (h2:i≤9223372036854775807):Glob Tryz.prog glT 25 [.int .i64 i,.int .i64 10] (.str (decI i)):=by
 have c:=iconv_FormatInt i h1 h2
 refine fc_of mixed T_ok Tryz.func25 rfl (by kernel_rfl) (by kernel_rfl) (by kernel_rfl) ?_
 repeat' ((conv=>whnf);first|(refine vcall_glob (c) rfl rfl rfl rfl ?_)|((first|apply br_dec|apply br_ndec)<;>intro h<;>try (exfalso;(try dsimp only at h);omega))|((first|apply br_seq|apply br_nseq|apply br_not|apply br_intro)<;>intro h)|refine cond_a ?_)
 all_goals (conv=>whnf)
 all_goals exact ret_pure rfl
theorem decI_size (i:Int) (h1: -9223372036854775808≤i) (h2:i≤9223372036854775807):(decI i).size≤21:=by
 have h3:=ndig_le (u:=i.natAbs) (by omega)
 have h4:=ndig_le (u:=i.toNat) (by omega)
 unfold decI dec
 split
 ·simp [bytesOf,ByteArray.size,digs_length];omega
 ·simp [bytesOf,ByteArray.size,digs_length];omega
end Go.Proofs.YtlankgapiecloaaGreatDoor
namespace Go.Proofs.YtlankgapiecloaaGreatDoor
open Go.RowKit Go.Sy
attribute [local irreducible] vcall vloop vcallD retP
set_option maxRecDepth 100000
set_option linter.unusedVariables false
set_option linter.unusedSimpArgs false
end Go.Proofs.YtlankgapiecloaaGreatDoor
namespace Go.Proofs.YtlankgapiecloaaGreatDoor
open Go.RowKit Go.Sy
attribute [local irreducible] vcall vloop vcallD retP
set_option maxRecDepth 100000
set_option linter.unusedVariables false
set_option linter.unusedSimpArgs false
end Go.Proofs.YtlankgapiecloaaGreatDoor
namespace Go.Proofs.YtlankgapiecloaaGreatDoor
open Go.RowKit Go.Sy
attribute [local irreducible] vcall vloop vcallD retP
set_option maxRecDepth 100000
set_option linter.unusedVariables false
set_option linter.unusedSimpArgs false
end Go.Proofs.YtlankgapiecloaaGreatDoor
namespace Go.Proofs.YtlankgapiecloaaGreatDoor
open Go.RowKit Go.Sy
attribute [local irreducible] vcall vloop vcallD retP
set_option maxRecDepth 100000
set_option linter.unusedVariables false
set_option linter.unusedSimpArgs false
end Go.Proofs.YtlankgapiecloaaGreatDoor
namespace Go.Proofs.YtlankgapiecloaaGreatDoor
open Go.RowKit Go.Sy
attribute [local irreducible] vcall vloop vcallD retP
set_option maxRecDepth 100000
set_option linter.unusedVariables false
set_option linter.unusedSimpArgs false
end Go.Proofs.YtlankgapiecloaaGreatDoor
namespace Go.Proofs.YtlankgapiecloaaGreatDoor
open Go.RowKit Go.Sy
attribute [local irreducible] vcall vloop vcallD retP
set_option maxRecDepth 100000
set_option linter.unusedVariables false
set_option linter.unusedSimpArgs false
structure Rt where
 f:ByteArray
 t:ByteArray
 n:Int
 d:Int
def Rt.z:Rt:=⟨⟨#[]⟩,⟨#[]⟩,0,0⟩
def Rt.sv (r:Rt):SV:= .agg [.str r.f,.str r.t,.int .i64 r.n,.int .i64 r.d]
structure RL where
 f:List ByteArray
 t:List ByteArray
 n:List Int
 d:List Int
 l:Nat
def RL.at (q:RL) (i:Nat):Rt:=⟨q.f.getD i ⟨#[]⟩,q.t.getD i ⟨#[]⟩,q.n.getD i 0,q.d.getD i 0⟩
def RL.H (q:RL):Heap:= [(0,some (GB glT)),(1,some (.one true (.cols q.l [.sc (.strs q.f),.sc (.strs q.t),.sc (.ints .i64 q.n),.sc (.ints .i64 q.d)])))]
def RL.fits (q:RL) (f t:ByteArray) (i:Nat):Prop:=(q.at i).f=f∧(q.at i).t=t∧rchk (q.at i).f (q.at i).t (q.at i).n (q.at i).d=0
instance (q:RL) (f t:ByteArray) (i:Nat):Decidable (q.fits f t i):=by unfold RL.fits;infer_instance
end Go.Proofs.YtlankgapiecloaaGreatDoor
namespace Go.Proofs.YtlankgapiecloaaGreatDoor
open Go.RowKit Go.Sy
attribute [local irreducible] vcall vloop vcallD retP
set_option maxRecDepth 100000
set_option linter.unusedVariables false
set_option linter.unusedSimpArgs false
end Go.Proofs.YtlankgapiecloaaGreatDoor
namespace Go.Proofs.YtlankgapiecloaaGreatDoor
open Go.RowKit Go.Sy
attribute [local irreducible] vcall vloop vcallD retP
set_option maxRecDepth 100000
set_option linter.unusedVariables false
set_option linter.unusedSimpArgs false
end Go.Proofs.YtlankgapiecloaaGreatDoor
namespace Go.Proofs.YtlankgapiecloaaGreatDoor
open Go.RowKit Go.Sy
attribute [local irreducible] vcall vloop vcallD retP
set_option maxRecDepth 100000
set_option linter.unusedVariables false
set_option linter.unusedSimpArgs false
theorem z16_get (j:Nat):z16.getD j 0=0:=by
 rw [List.getD,List.getElem?_replicate];split<;>rfl
end Go.Proofs.YtlankgapiecloaaGreatDoor
namespace Go.Proofs.YtlankgapiecloaaGreatDoor
open Go.RowKit Go.Sy
attribute [local irreducible] vcall vloop vcallD retP
set_option maxRecDepth 100000
set_option linter.unusedVariables false
set_option linter.unusedSimpArgs false
def sEur:ByteArray:=⟨#[69,85,82]⟩
def sUsd:ByteArray:=⟨#[85,83,68]⟩
def p3:List ByteArray:= [⟨#[97]⟩,⟨#[98]⟩,⟨#[99]⟩]
def k1:Bk:=⟨3,p3,1,[sEur],[[-100,100,0,0,0,0,0,0,0,0,0,0,0,0,0,0]],[0],1⟩
def k2:Bk:=⟨3,p3,1,[sEur],[[-100,70,30,0,0,0,0,0,0,0,0,0,0,0,0,0]],[0],1⟩
def q0:RL:=⟨[sEur],[sUsd],[11],[10],1⟩
theorem one_sort (s:ByteArray):sortS [s]= [s]:=sortS_of (List.Perm.refl _) (List.pairwise_singleton _ _)
end Go.Proofs.YtlankgapiecloaaGreatDoor
namespace Go.Sy
open Go.RowKit
theorem sidx_le (l:List ByteArray) (s:ByteArray):sidx l s≤l.length:=by
 induction l with
 |nil=>simp [sidx]
 |cons x l ih=>
  simp only [sidx,seq]
  by_cases h:x=s
  ·rw [decide_eq_true h];simp
  ·rw [decide_eq_false h];simp;exact ih
theorem sidx_lt {l:List ByteArray} {s:ByteArray}:sidx l s<l.length↔s∈l:=by
 induction l with
 |nil=>simp [sidx]
 |cons x l ih=>
  simp only [sidx,seq]
  by_cases h:x=s
  ·rw [decide_eq_true h];simp [h]
  ·rw [decide_eq_false h]
   have:¬s=x:=fun e=>h e.symm
   simp [this,ih]
theorem sidx_get {l:List ByteArray} {s:ByteArray} (h:sidx l s<l.length):l[sidx l s]?=some s:=by
 induction l with
 |nil=>simp [sidx] at h
 |cons x l ih=>
  simp only [sidx,seq] at h⊢
  by_cases e:x=s
  ·rw [decide_eq_true e];simp [e]
  ·rw [decide_eq_false e] at h⊢
   simp only [cond_false,List.length_cons,List.getElem?_cons_succ] at h⊢
   exact ih (by omega)
theorem sidx_of_get {l:List ByteArray} (hd:l.Nodup) {i:Nat} {s:ByteArray} (h:l[i]?=some s):sidx l s=i:=by
 have hi:i<l.length:=(List.getElem?_eq_some_iff.1 h).1
 have hm:s∈l:=List.mem_iff_getElem?.2 ⟨i,h⟩
 have h2:=sidx_get (sidx_lt.2 hm)
 have h3:=sidx_lt.2 hm
 obtain ⟨_,e1⟩:=List.getElem?_eq_some_iff.1 h
 obtain ⟨_,e2⟩:=List.getElem?_eq_some_iff.1 h2
 exact (List.getElem_inj hd).1 (e2.trans e1.symm)
theorem put_key {l:List ByteArray} {s:ByteArray}:putL (sidx l s) s l=if sidx l s<l.length then l else l++ [s]:=by
 unfold putL
 split
 ·rename_i h
  have:=sidx_get h
  refine List.ext_getElem? fun i=> ?_
  rw [List.getElem?_set]
  by_cases e:sidx l s=i
  ·subst e;rw [if_pos rfl,if_pos h,this]
  ·rw [if_neg e]
 ·rfl
end Go.Sy
namespace Go.Proofs.YtlankgapiecloaaGreatDoor
open Go.RowKit Go.Sy
set_option linter.unusedVariables false
set_option linter.unusedSimpArgs false
structure BkC (b:Bk):Prop where
 cl:b.cs.length=b.m
 vl:b.vs.length=b.m
 nd:b.cs.Nodup
theorem row_at {b:Bk} (h:BkC b) {c:ByteArray} {j:Nat} (hj:b.cs[j]?=some c):b.row c=b.vs.getD j z16:=by
 unfold Bk.row
 rw [Go.Sy.sidx_of_get h.nd hj]
theorem row_no {b:Bk} (h:BkC b) {c:ByteArray} (hc:¬c∈b.cs):b.row c=z16:=by
 unfold Bk.row
 have:¬sidx b.cs c<b.cs.length:=fun q=>hc (Go.Sy.sidx_lt.1 q)
 rw [List.getD,List.getElem?_eq_none (by rw [h.vl,←h.cl];omega)];rfl
theorem vs_of {b:Bk} (h:BkC b) {P:List Int→Prop} (hz:P z16) (hr:∀c,P (b.row c)) (i:Nat):P (b.vs.getD i z16):=by
 by_cases e:i<b.m
 ·have hj:b.cs[i]?=some (b.cs[i]'(by rw [h.cl];exact e)):=List.getElem?_eq_getElem _
  have:=hr (b.cs[i]'(by rw [h.cl];exact e))
  rw [row_at h hj] at this
  exact this
 ·rw [List.getD,List.getElem?_eq_none (by rw [h.vl];omega)];exact hz
theorem put_C {b:Bk} (h:BkC b) (c:ByteArray) (r:List Int):BkC (b.put c r):=by
 have hle:=Go.Sy.sidx_le b.cs c
 by_cases e:sidx b.cs c<b.m
 ·have e2:sidx b.cs c<b.cs.length:=by rw [h.cl];exact e
  refine ⟨?_,?_,?_⟩
  ·show (putL _ _ _).length=if _ then _ else _
   rw [if_pos e,put_key,if_pos e2];exact h.cl
  ·show (putL _ _ _).length=if _ then _ else _
   rw [if_pos e]
   unfold putL
   rw [if_pos (by rw [h.vl];exact e),List.length_set];exact h.vl
  ·show (putL _ _ _).Nodup
   rw [put_key,if_pos e2];exact h.nd
 ·have e2:¬sidx b.cs c<b.cs.length:=by rw [h.cl];exact e
  refine ⟨?_,?_,?_⟩
  ·show (putL _ _ _).length=if _ then _ else _
   rw [if_neg e,put_key,if_neg e2,List.length_append,h.cl];rfl
  ·show (putL _ _ _).length=if _ then _ else _
   rw [if_neg e]
   unfold putL
   rw [if_neg (by rw [h.vl];exact e),List.length_append,h.vl];rfl
  ·show (putL _ _ _).Nodup
   rw [put_key,if_neg e2]
   refine List.nodup_append.2 ⟨h.nd,by simp,fun x hx y hy=> ?_⟩
   simp only [List.mem_singleton] at hy
   subst hy
   intro q;subst q
   exact e2 (Go.Sy.sidx_lt.2 hx)
theorem put_row {b:Bk} (h:BkC b) (c:ByteArray) (r:List Int) (c':ByteArray):(b.put c r).row c'=if c'=c then r else b.row c':=by
 have hC:=put_C h c r
 have hle:=Go.Sy.sidx_le b.cs c
 by_cases e:sidx b.cs c<b.m
 ·have e2:sidx b.cs c<b.cs.length:=by rw [h.cl];exact e
  have ecs:(b.put c r).cs=b.cs:=by show putL _ _ _=_;rw [put_key,if_pos e2]
  have evs:(b.put c r).vs=b.vs.set (sidx b.cs c) r:=by show putL _ _ _=_;unfold putL;rw [if_pos (by rw [h.vl];exact e)]
  show (b.put c r).vs.getD (sidx (b.put c r).cs c') z16=_
  rw [ecs,evs]
  by_cases q:c'=c
  ·subst q
   rw [if_pos rfl,List.getD,List.getElem?_set_self (by rw [h.vl];exact e)];rfl
  ·rw [if_neg q]
   have:sidx b.cs c≠sidx b.cs c':=fun w=>by
    have g1:=Go.Sy.sidx_get e2
    have g2:=Go.Sy.sidx_get (l:=b.cs) (s:=c') (by rw [←w];exact e2)
    rw [←w,g1] at g2
    exact q (Option.some.inj g2).symm
   rw [List.getD,List.getElem?_set_ne this];rfl
 ·have e2:¬sidx b.cs c<b.cs.length:=by rw [h.cl];exact e
  have ecs:(b.put c r).cs=b.cs++ [c]:=by show putL _ _ _=_;rw [put_key,if_neg e2]
  have evs:(b.put c r).vs=b.vs++ [r]:=by show putL _ _ _=_;unfold putL;rw [if_neg (by rw [h.vl];exact e)]
  by_cases q:c'=c
  ·subst q
   rw [if_pos rfl,row_at hC (j:=b.m) (by rw [ecs,List.getElem?_append_right (by rw [h.cl];omega),h.cl,Nat.sub_self];rfl),evs,List.getD,List.getElem?_append_right (by rw [h.vl];omega),h.vl,Nat.sub_self];rfl
  ·rw [if_neg q]
   by_cases hm:c'∈b.cs
   ·obtain ⟨j,hj⟩:=List.mem_iff_getElem?.1 hm
    have hjl:j<b.m:=by rw [←h.cl];exact (List.getElem?_eq_some_iff.1 hj).1
    rw [row_at h hj,row_at hC (j:=j) (by rw [ecs,List.getElem?_append_left (by rw [h.cl];exact hjl)];exact hj),evs,List.getD,List.getElem?_append_left (by rw [h.vl];exact hjl)];rfl
   ·rw [row_no h hm,row_no hC (by rw [ecs];simp [hm,q])]
theorem put_mem {b:Bk} (h:BkC b) (c:ByteArray) (r:List Int) (s:ByteArray):s∈(b.put c r).cs↔s∈b.cs∨s=c:=by
 show s∈putL _ _ _↔_
 rw [put_key]
 split
 ·rename_i e
  exact ⟨.inl,fun q=>q.elim id (fun q=>by subst q;exact Go.Sy.sidx_lt.1 e)⟩
 ·simp
theorem del_C {b:Bk} (h:BkC b) (c:ByteArray):BkC (b.del c):=by
 by_cases e:sidx b.cs c<b.m
 ·refine ⟨?_,?_,?_⟩
  ·show (b.cs.eraseIdx _).length=if _ then _ else _
   rw [if_pos e,List.length_eraseIdx_of_lt (by rw [h.cl];exact e),h.cl]
  ·show (b.vs.eraseIdx _).length=if _ then _ else _
   rw [if_pos e,List.length_eraseIdx_of_lt (by rw [h.vl];exact e),h.vl]
  ·exact h.nd.sublist (List.eraseIdx_sublist _ _)
 ·refine ⟨?_,?_,?_⟩
  ·show (b.cs.eraseIdx _).length=if _ then _ else _
   rw [if_neg e,List.eraseIdx_of_length_le (by rw [h.cl];omega),h.cl]
  ·show (b.vs.eraseIdx _).length=if _ then _ else _
   rw [if_neg e,List.eraseIdx_of_length_le (by rw [h.vl];omega),h.vl]
  ·exact h.nd.sublist (List.eraseIdx_sublist _ _)
theorem del_mem {b:Bk} (h:BkC b) (c s:ByteArray):s∈(b.del c).cs↔s∈b.cs∧s≠c:=by
 show s∈b.cs.eraseIdx _↔_
 constructor
 ·intro q
  refine ⟨(List.eraseIdx_sublist _ _).subset q,fun w=> ?_⟩
  subst w
  obtain ⟨j,hj⟩:=List.mem_iff_getElem?.1 q
  rw [List.getElem?_eraseIdx] at hj
  by_cases e:j<sidx b.cs s
  ·rw [if_pos e] at hj
   have:=Go.Sy.sidx_of_get h.nd hj;omega
  ·rw [if_neg e] at hj
   have:=Go.Sy.sidx_of_get h.nd hj;omega
 ·rintro ⟨q,w⟩
  obtain ⟨j,hj⟩:=List.mem_iff_getElem?.1 q
  have hne:j≠sidx b.cs c:=fun e=>by
   have hl:sidx b.cs c<b.cs.length:=by rw [←e];exact (List.getElem?_eq_some_iff.1 hj).1
   have g:=Go.Sy.sidx_get hl
   rw [←e,hj] at g
   exact w (Option.some.inj g)
  refine List.mem_iff_getElem?.2 ?_
  by_cases e:j<sidx b.cs c
  ·exact ⟨j,by rw [List.getElem?_eraseIdx,if_pos e];exact hj⟩
  ·exact ⟨j-1,by rw [List.getElem?_eraseIdx,if_neg (by omega),show j-1+1=j by omega];exact hj⟩
theorem del_row {b:Bk} (h:BkC b) (c c':ByteArray):(b.del c).row c'=if c'=c then z16 else b.row c':=by
 have hC:=del_C h c
 by_cases q:c'=c
 ·subst q
  rw [if_pos rfl,row_no hC (fun w=>((del_mem h c' c').1 w).2 rfl)]
 ·rw [if_neg q]
  by_cases hm:c'∈b.cs
  ·obtain ⟨j,hj⟩:=List.mem_iff_getElem?.1 hm
   have hne:j≠sidx b.cs c:=fun e=>by
    have hl:sidx b.cs c<b.cs.length:=by rw [←e];exact (List.getElem?_eq_some_iff.1 hj).1
    have g:=Go.Sy.sidx_get hl
    rw [←e,hj] at g
    exact q (Option.some.inj g)
   rw [row_at h hj]
   have ecs:(b.del c).cs=b.cs.eraseIdx (sidx b.cs c):=rfl
   have evs:(b.del c).vs=b.vs.eraseIdx (sidx b.cs c):=rfl
   by_cases e:j<sidx b.cs c
   ·rw [row_at hC (j:=j) (by rw [ecs,List.getElem?_eraseIdx,if_pos e];exact hj),evs,List.getD,List.getElem?_eraseIdx,if_pos e];rfl
   ·rw [row_at hC (j:=j-1) (by rw [ecs,List.getElem?_eraseIdx,if_neg (by omega),show j-1+1=j by omega];exact hj),evs,List.getD,List.getElem?_eraseIdx,if_neg (by omega),show j-1+1=j by omega];rfl
  ·rw [row_no h hm,row_no hC (fun w=>hm ((del_mem h c c').1 w).1)]
theorem mv1_C {b:Bk} (h:BkC b) (c:ByteArray) (r:List Int):BkC (b.mv1 c r):=by
 unfold Bk.mv1
 split
 ·exact del_C (put_C h c r) c
 ·exact put_C h c r
theorem mv1_row {b:Bk} (h:BkC b) (c:ByteArray) (r:List Int) (c':ByteArray):(b.mv1 c r).row c'=if c'=c then r else b.row c':=by
 unfold Bk.mv1
 by_cases e:r=z16
 ·rw [if_pos e,del_row (put_C h c r),put_row h]
  by_cases q:c'=c
  ·rw [if_pos q,if_pos q,e]
  ·rw [if_neg q,if_neg q]
 ·rw [if_neg e,put_row h]
theorem mv1_mem {b:Bk} (h:BkC b) (c:ByteArray) (r:List Int) (s:ByteArray):s∈(b.mv1 c r).cs↔(s∈b.cs∧s≠c)∨(s=c∧r≠z16):=by
 unfold Bk.mv1
 by_cases e:r=z16
 ·rw [if_pos e,del_mem (put_C h c r),put_mem h]
  constructor
  ·rintro ⟨q|q,w⟩
   ·exact .inl ⟨q,w⟩
   ·exact absurd q w
  ·rintro (q|q)
   ·exact ⟨.inl q.1,q.2⟩
   ·exact absurd e q.2
 ·rw [if_neg e,put_mem h]
  constructor
  ·rintro (q|q)
   ·by_cases w:s=c
    ·exact .inr ⟨w,e⟩
    ·exact .inl ⟨q,w⟩
   ·exact .inr ⟨q,e⟩
  ·rintro (q|q)
   ·exact .inl q.1
   ·exact .inr q.1
structure BkI (b:Bk) (B:Int):Prop where
 C:BkC b
 n16:b.n≤16
 psl:b.ps.length=b.n
 nz:∀c,c∈b.cs→b.row c≠z16
 c3:∀c,c∈b.cs→curB c=true
 rl:∀c,(b.row c).length=16
 rb:∀c j,-B≤(b.row c).getD j 0∧(b.row c).getD j 0≤B
 rs:∀c,(b.row c).sum=0
 rt:∀c j,b.n≤j→(b.row c).getD j 0=0
theorem BkI.ok {b:Bk} {B:Int} (h:BkI b B) (hB:B≤4503599627370496):b.Ok:=by
 have h0:=h.rb ⟨#[]⟩ 0
 refine ⟨h.n16,h.psl,vs_of h.C (P:=fun r=>r.length=16) rfl h.rl,fun i j=> ?_⟩
 refine vs_of h.C (P:=fun r=> -4503599627370496≤r.getD j 0∧r.getD j 0≤4503599627370496) ?_ (fun c=> ?_) i
 ·show _≤z16.getD j 0∧z16.getD j 0≤_
  rw [z16_get];decide
 ·show-4503599627370496≤(b.row c).getD j 0∧(b.row c).getD j 0≤4503599627370496
  have:=h.rb c j;omega
theorem BkI.cok {b:Bk} {B:Int} (h:BkI b B) (hm:b.m≤100000):b.Cok:=by
 refine ⟨hm,fun s hs=> ?_,h.C.nd⟩
 have:=h.c3 s hs
 unfold curB at this
 simp only [Bool.and_eq_true,decide_eq_true_eq] at this
 omega
theorem sum_set (l:List Int) (i:Nat) (x:Int) (h:i<l.length):(l.set i x).sum=l.sum-l.getD i 0+x:=by
 induction l generalizing i with
 |nil=>simp at h
 |cons y l ih=>
  cases i with
  |zero=>simp only [List.set_cons_zero,List.sum_cons,List.getD_cons_zero];omega
  |succ i=>
   simp only [List.length_cons] at h
   simp only [List.set_cons_succ,List.sum_cons,List.getD_cons_succ]
   rw [ih i (by omega)];omega
theorem mvRow_get {r:List Int} {F T:Nat} {a:Int} (hl:r.length=16) (hF:F<16) (hT:T<16) (hne:F≠T) (j:Nat):(mvRow r F T a).getD j 0=r.getD j 0+((if j=F then-a else 0)+(if j=T then a else 0)):=by
 unfold mvRow
 rw [set_getD2 _ _ _ _ (by rw [List.length_set,hl];exact hT),set_getD2 _ _ _ _ (by rw [hl];exact hF)]
 by_cases e:j=T
 ·subst e
  rw [if_pos rfl,if_neg (fun q=>hne q.symm),if_pos rfl];omega
 ·rw [if_neg e,if_neg e]
  by_cases e2:j=F
  ·subst e2;rw [if_pos rfl,if_pos rfl];omega
  ·rw [if_neg e2,if_neg e2];omega
theorem mvRow_sum {r:List Int} {F T:Nat} {a:Int} (hl:r.length=16) (hF:F<16) (hT:T<16) (hne:F≠T):(mvRow r F T a).sum=r.sum:=by
 unfold mvRow
 rw [sum_set _ _ _ (by rw [List.length_set,hl];exact hT),sum_set _ _ _ (by rw [hl];exact hF),set_getD2 _ _ _ _ (by rw [hl];exact hF),if_neg (fun q=>hne q.symm)]
 omega
end Go.Proofs.YtlankgapiecloaaGreatDoor
namespace Go.Proofs.YtlankgapiecloaaGreatDoor
open Go.RowKit Go.Sy
set_option linter.unusedVariables false
set_option linter.unusedSimpArgs false
def stE (b:Bk) (f t c:ByteArray) (a:Int):Int:=
 if idI b.ps f b.n<0∨idI b.ps t b.n<0 then 6
 else if idI b.ps f b.n=idI b.ps t b.n then 4
 else if mchk a c≠0 then mchk a c
 else if a<0 then 4 else 0
theorem stE_ok {b:Bk} {f t c:ByteArray} {a:Int} (h:stE b f t c a=0):sidx b.ps f<b.n∧sidx b.ps t<b.n∧sidx b.ps f≠sidx b.ps t∧curB c=true∧0≤a∧a≤4503599627370496∧mchk a c=0:=by
 unfold stE at h
 split at h
 ·cases h
 ·rename_i h1
  split at h
  ·cases h
  ·rename_i h2
   split at h
   ·rename_i h3;exact absurd h h3
   ·rename_i h3
    split at h
    ·cases h
    ·rename_i h4
     have h3':mchk a c=0:=by simpa using h3
     have hm:=mchk_or a c
     rw [h3'] at hm
     have g1:sidx b.ps f<b.n:=by
      rcases Nat.lt_or_ge (sidx b.ps f) b.n with q|q
      ·exact q
      ·exact absurd (Or.inl (by rw [idI_no (by omega)];decide)) h1
     have g2:sidx b.ps t<b.n:=by
      rcases Nat.lt_or_ge (sidx b.ps t) b.n with q|q
      ·exact q
      ·exact absurd (Or.inr (by rw [idI_no (by omega)];decide)) h1
     rw [idI_lt g1,idI_lt g2] at h2
     rcases hm with hm|hm
     ·omega
     ·exact ⟨g1,g2,by omega,hm.2.1,by omega,hm.2.2.2,h3'⟩
theorem mvE_st (b:Bk) (f t c:ByteArray) (a:Int):mvE b f t c a=if stE b f t c a≠0 then stE b f t c a else if fitB ((b.row c).getD (sidx b.ps f) 0-a)=true∧fitB ((b.row c).getD (sidx b.ps t) 0+a)=true then 0 else 4:=by
 unfold mvE stE
 split
 ·rfl
 ·split
  ·rfl
  ·split
   ·rfl
   ·split
    ·rfl
    ·rfl
theorem mv1_I {b:Bk} {B B':Int} (h:BkI b B) {f t c:ByteArray} {a:Int} (hs:stE b f t c a=0) (hB:B≤B') (h1: -B'≤(b.row c).getD (sidx b.ps f) 0-a∧(b.row c).getD (sidx b.ps f) 0-a≤B') (h2: -B'≤(b.row c).getD (sidx b.ps t) 0+a∧(b.row c).getD (sidx b.ps t) 0+a≤B'):BkI (b.mv1 c (mvRow (b.row c) (sidx b.ps f) (sidx b.ps t) a)) B':=by
 obtain ⟨hF,hT,hne,hc,ha,_⟩:=stE_ok hs
 have hn:=h.n16
 have hps:(b.mv1 c (mvRow (b.row c) (sidx b.ps f) (sidx b.ps t) a)).ps=b.ps:=by unfold Bk.mv1;split<;>rfl
 have hnn:(b.mv1 c (mvRow (b.row c) (sidx b.ps f) (sidx b.ps t) a)).n=b.n:=by unfold Bk.mv1;split<;>rfl
 have hg:=mvRow_get (a:=a) (h.rl c) (show sidx b.ps f<16 by omega) (show sidx b.ps t<16 by omega) hne
 refine ⟨mv1_C h.C _ _,by rw [hnn];exact hn,by rw [hps,hnn];exact h.psl,fun s q=> ?_,fun s q=> ?_,fun s=> ?_,fun s j=> ?_,fun s=> ?_,fun s j q=> ?_⟩
 ·rw [mv1_mem h.C] at q
  rw [mv1_row h.C]
  rcases q with q|q
  ·rw [if_neg q.2];exact h.nz s q.1
  ·rw [if_pos q.1];exact q.2
 ·rw [mv1_mem h.C] at q
  rcases q with q|q
  ·exact h.c3 s q.1
  ·rw [q.1];exact hc
 ·rw [mv1_row h.C]
  split
  ·rw [List.length_set,List.length_set];exact h.rl c
  ·exact h.rl s
 ·rw [mv1_row h.C]
  split
  ·rw [hg j]
   have:=h.rb c j
   by_cases e1:j=sidx b.ps f
   ·rw [if_pos e1,if_neg (by omega),e1];omega
   ·by_cases e2:j=sidx b.ps t
    ·rw [if_neg e1,if_pos e2,e2];omega
    ·rw [if_neg e1,if_neg e2];omega
  ·have:=h.rb s j;omega
 ·rw [mv1_row h.C]
  split
  ·rw [mvRow_sum (h.rl c) (by omega) (by omega) hne];exact h.rs c
  ·exact h.rs s
 ·rw [hnn] at q
  rw [mv1_row h.C]
  split
  ·rw [hg j,if_neg (by omega),if_neg (by omega),h.rt c j q];rfl
  ·exact h.rt s j q
theorem mv_ps (b:Bk) (f t c:ByteArray) (a:Int):(b.mv f t c a).ps=b.ps∧(b.mv f t c a).n=b.n:=by
 unfold Bk.mv Bk.mv1
 split
 ·split<;>exact ⟨rfl,rfl⟩
 ·exact ⟨rfl,rfl⟩
theorem mv_m (b:Bk) (f t c:ByteArray) (a:Int):(b.mv f t c a).m≤b.m+1:=by
 have hp:∀r,(b.put c r).m≤b.m+1:=fun r=>by
  unfold Bk.put;dsimp only
  split<;>omega
 have hd:∀b':Bk,(b'.del c).m≤b'.m:=fun b'=>by
  unfold Bk.del;dsimp only
  split<;>omega
 unfold Bk.mv Bk.mv1
 split
 ·split
  ·exact Nat.le_trans (hd _) (hp _)
  ·exact hp _
 ·omega
theorem mv_I {b:Bk} (h:BkI b 4503599627370496) (f t c:ByteArray) (a:Int):BkI (b.mv f t c a) 4503599627370496:=by
 by_cases e:mvE b f t c a=0
 ·have e2:=e
  rw [mvE_st] at e2
  by_cases s:stE b f t c a=0
  ·rw [if_neg (by simpa using s)] at e2
   split at e2
   ·rename_i g
    rw [fitB_t,fitB_t] at g
    unfold Bk.mv
    rw [if_pos e]
    exact mv1_I h s (Int.le_refl _) g.1 g.2
   ·cases e2
  ·rw [if_pos s] at e2;exact absurd e2 s
 ·rw [mv_err e];exact h
structure Mv where
 f:ByteArray
 t:ByteArray
 a:Int
 c:ByteArray
abbrev Bk.go (b:Bk) (m:Mv):Bk:=b.mv m.f m.t m.c m.a
def Bk.all (b:Bk) (M:List Mv):Bk:=M.foldl Bk.go b
end Go.Proofs.YtlankgapiecloaaGreatDoor
