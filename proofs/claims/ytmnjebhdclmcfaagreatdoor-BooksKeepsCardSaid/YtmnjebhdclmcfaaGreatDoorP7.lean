/- Several texts in one: Kk3. -/
import Derived.Test.YtmnjebhdclmcfaaGreatDoorP6
set_option linter.unusedVariables false
set_option linter.unusedSimpArgs false
set_option maxRecDepth 100000
open Go.Proofs.Tryz hiding sortI
open Go.IntKind (i64 u8 u64)
attribute [local irreducible] Go.Sy.a0n Go.Sy.a0o Go.Sy.a0i Go.Sy.a0E
namespace Go.Sy
abbrev t1O:=@ByteArray.append_assoc
abbrev u1N:=@Bool.false_or
end Go.Sy
namespace Go.Proofs.YtmnjebhdclmcfaaGreatDoor
open Go.RowKit Go.Sy
section
attribute [local irreducible] sortI
attribute [local irreducible] seq ByteArray.extract lgE
theorem x0n (s:Bks) (o:Bop) (h:BkOk s) (hc:CkOk o) (hk:o.k=4\/o.k=5\/o.k=6) (hi:¬inL o.id s.lg.ids) (hf:¬512<=s.lg.ne):
  FC prog 20 346 [.ptr 1 0 0 0,o.s,.str (mtF o),.str (mtG o),.i (mtN o)] (i0V s) (a0g (.i (owX s o.t (mtF o) (mtG o) (mtN o))) (i0W (if owX s o.t (mtF o) (mtG o) (mtN o)=0 then owS s o else s)) 26):=by
 by_cases hx:owX s o.t (mtF o) (mtG o) (mtN o)=0
 .rw [if_pos hx,hx];exact c1O s o h hc hk hi hf hx
 .rw [if_neg hx];exact c1N s o (mtF o) (mtG o) (mtN o) h hx
theorem x0o {n:Nat} (h:¬512<=n):(n:Int)<512:=oM
theorem l1m (s:Bks) (o:Bop) (h:BkOk s) (hc:CkOk o) (hk:o.k=5) (hi:¬inL o.id s.lg.ids) (hf:¬512<=s.lg.ne):FC prog 20 344 [.agg [],.ptr 1 0 0 0,o.s] (i0V s) (a0g (.i (mmE s o)) (i0W (if mmE s o=0 then mmS s o else s)) 26):=by
 have hb:=m0I hc oM;have eF:mtF o=o.ac:=by simp_all [mtF]
 have eG:mtG o=o.is:=by simp_all [mtG]
 have eN:mtN o=o.am-o.fe:=by simp_all [mtN]
 have hE:mmE s o=owX s o.t (mtF o) (mtG o) (mtN o):=by grind [mmE]
 have hS:mmS s o=owS s o:=by simp_all [mmS]
 have c2:=x0n s o h hc oM hi hf;have c1:=g0Y s.lg o.id h.lg;rw [if_neg hi] at c1;rw [hE,hS];rw [eF,eG,eN] at c2⊢;have hw:i64.wrap (o.am-o.fe)=o.am-o.fe:=by grind [a0l]
 let l2:=xAd;let l:=xAj;let R:=xBf;have q0:=hw;exact Wx func344
theorem g1K (s:Bks) (o:Bop) (h:BkOk s) (hc:CkOk o) (hk:o.k=6) (ha:o.am<0) (hi:¬inL o.id s.lg.ids) (hf:¬512<=s.lg.ne):FC prog 20 344 [.agg [],.ptr 1 0 0 0,o.s] (i0V s) (a0g (.i (mmE s o)) (i0W (if mmE s o=0 then mmS s o else s)) 26):=by
 have hb:=m0I hc oM;have eF:mtF o=o.is:=by simp_all [mtF]
 have eG:mtG o=o.ac:=by simp_all [mtG]
 have eN:mtN o= -o.am:=by simp_all [mtN]
 have hE:mmE s o=owX s o.t (mtF o) (mtG o) (mtN o):=by grind [mmE]
 have hS:mmS s o=owS s o:=by simp_all [mmS]
 have c2:=x0n s o h hc oM hi hf;have c1:=g0Y s.lg o.id h.lg;rw [if_neg hi] at c1;rw [hE,hS];rw [eF,eG,eN] at c2⊢;have hw:i64.wrap (0-o.am)= -o.am:=by grind [a0l]
 let l2:=xAd;let l:=xAj;let R:=xBf;have q0:=hw;exact Wx func344
theorem g1L (s:Bks) (o:Bop) (h:BkOk s) (hc:CkOk o) (hk:o.k=6) (ha:¬o.am<0) (hi:¬inL o.id s.lg.ids) (hf:¬512<=s.lg.ne):FC prog 20 344 [.agg [],.ptr 1 0 0 0,o.s] (i0V s) (a0g (.i (mmE s o)) (i0W (if mmE s o=0 then mmS s o else s)) 26):=by
 have hb:=m0I hc oM;have eF:mtF o=o.ac:=by simp_all [mtF]
 have eG:mtG o=o.is:=by simp_all [mtG]
 have eN:mtN o=o.am:=by grind [mtN]
 have hE:mmE s o=owX s o.t (mtF o) (mtG o) (mtN o):=by grind [mmE]
 have hS:mmS s o=owS s o:=by simp_all [mmS]
 have c2:=x0n s o h hc oM hi hf;have c1:=g0Y s.lg o.id h.lg;rw [if_neg hi] at c1;rw [hE,hS];rw [eF,eG,eN] at c2⊢;let l2:=xAd;let l:=xAj;let R:=xBf;exact Wx func344
theorem d1d (s:Bks) (o:Bop) (h:BkOk s) (hk:o.k=4\/o.k=5\/o.k=6) (hi:inL o.id s.lg.ids):FC prog 20 344 [.agg [],.ptr 1 0 0 0,o.s] (i0V s) (a0g (.i 15) (i0W s) 26):=by
 have c1:=g0Y s.lg o.id h.lg;rw [if_pos hi] at c1;let l:=xAj;let R:=xAe;exact Wx func344
theorem u0Y (s:Bks) (o:Bop) (h:BkOk s) (hk:o.k=4\/o.k=5\/o.k=6) (hi:¬inL o.id s.lg.ids) (hf:512<=s.lg.ne):FC prog 20 344 [.agg [],.ptr 1 0 0 0,o.s] (i0V s) (a0g (.i 12) (i0W s) 26):=by
 have c1:=g0Y s.lg o.id h.lg;rw [if_neg hi] at c1;let l:=xAj;let R:=xAe;exact Wx func344
set_option maxHeartbeats 2000000 in
theorem l1n (s:Bks) (o:Bop) (h:BkOk s) (hc:CkOk o) (hk:o.k=4) (hi:¬inL o.id s.lg.ids) (hf:¬512<=s.lg.ne):FC prog 20 344 [.agg [],.ptr 1 0 0 0,o.s] (i0V s) (a0g (.i (mmE s o)) (i0W (if mmE s o=0 then mmS s o else s)) 26):=by
 have hb':=m0I hc (by omega);have eF:mtF o=o.is:=by unfold mtF;rw [if_neg (by omega),if_neg (by omega)]
 have eG:mtG o=o.ac:=by unfold mtG;rw [if_neg (by omega),if_neg (by omega)]
 have eN:mtN o=o.am-o.fe:=by unfold mtN;rw [if_neg (by omega)]
 have c2:=x0n s o h hc (by omega) hi hf;have c1:=g0Y s.lg o.id h.lg;rw [if_neg hi] at c1;have c3:=y0Y (b0S s.au (s.pl o.au)) o.am o.fi;have hidk:=c1M (a:=b0S s.au (s.pl o.au)) (n:=o.am) (b:=o.fi);have hmS:mmS s o= { owS s o with au:=s.au.set (s.pl o.au) (clA s o).1}:=by unfold mmS;rw [if_pos hk]
 have hw:i64.wrap (o.am-o.fe)=o.am-o.fe:=by rw [a0l (by omega) (by omega)]
 have hfi:=x0o hf;unfold mmE;rw [if_neg hi,if_neg hf,if_pos hk];by_cases hp:s.pl o.au<s.na
 .have hb:decide (a0q s.aid o.au<s.na)=true:=decide_eq_true hp;have hpl:=z0f hp;have hcn:0<=((List.range s.na).map Int.ofNat).getD (s.pl o.au) 0/\((List.range s.na).map Int.ofNat).getD (s.pl o.au) 0<(s.na:Int):=by rw [hpl];omega
  rw [if_pos hp];unfold b0S at c3;try dsimp only at c3
  unfold clA at hmS⊢;generalize hN:g0d (b0S s.au (s.pl o.au)) o.am o.fi=N at*;unfold b0S at hN;rw [hN] at c3;obtain ⟨a,n1,n2,e⟩:=N;dsimp only at c3 hidk hmS⊢;by_cases he:e=0
  .subst he;rw [if_neg (fun e=>e rfl)];by_cases hx:owX s o.t (mtF o) (mtG o) (mtN o)=0
   .rw [if_pos hx];rw [if_pos hx] at c2;rw [hx] at c2⊢;have hap:=g0l s.na s.au (s.pl o.au) a;have r3:x0c s.na s.aid=x0c s.na ((s.au.set (s.pl o.au) a).map Au.id):=by rw [k0T _ _ _ (hidk rfl)]
    rw [hmS];rw [eF,eG,eN] at c2;unfold owS at c2⊢;dsimp only at c2⊢;generalize s0x s.ds s.B (bkD s o.t) ((c0H s.ds s.B s.pr (bkD s o.t)).mv (mtF o) (mtG o) s.cur (mtN o))=B' at*;generalize k0G s.ds (bkD s o.t)=D' at*;generalize lgP s.lg (enB s o)=L' at*;refine fEx func344 ?_;repeat' ((conv=>whnf);first|(rw [hb])|(rw [hw])|(simp only [hpl,h0T])|refine cOx (l:= xAj) c1 ?_|refine cPx c3 ?_|refine cOx (l:= xAd) c2 ?_|refine a0a ?_|(apply bRx<;>intro h<;>try exact aX)|exact aX|(exfalso;exact h rfl)|exact a0A (l:= xBj) rfl rfl ⟨rfl,congrArg (fun z=>some (HB.one false z)) hap,r3,rfl,rfl,rfl,rfl,rfl,rfl,rfl,rfl,rfl,rfl,rfl,rfl,rfl,rfl,rfl,rfl,trivial⟩ a0G)
   .rw [if_neg hx];rw [if_neg hx] at c2;rw [eF,eG,eN] at c2 hx⊢;generalize owX s o.t o.is o.ac (o.am-o.fe)=E at*;refine fEx func344 ?_;repeat' ((conv=>whnf);first|(rw [hb])|(rw [hw])|(simp only [hpl,h0T])|refine cOx (l:= xAj) c1 ?_|refine cPx c3 ?_|refine cOx (l:= xAd) c2 ?_|refine a0a ?_|(apply bRx<;>intro h<;>try exact aX)|exact aX|(exfalso;exact h rfl)|(exfalso;exact hx h)|exact rOx xBj a0G)
  .rw [if_pos he,if_neg he];refine fEx func344 ?_;repeat' ((conv=>whnf);first|(rw [hb])|(simp only [hpl,h0T])|refine cOx (l:= xAj) c1 ?_|refine cPx c3 ?_|refine a0a ?_|(apply bRx<;>intro h<;>try exact aX)|exact rOx xAe a0G|exact aX|(exfalso;exact he h))
 .have hb:decide (a0q s.aid o.au<s.na)=false:=decide_eq_false hp;rw [if_neg hp,if_neg (by decide)];let l:=xAj;let R:=xAe;have w:=@a0G;have q0:=hb;exact Wx func344
theorem l1o (s:Bks) (o:Bop) (h:BkOk s) (hc:CkOk o) (hk:o.k=4\/o.k=5\/o.k=6):FC prog 20 344 [.agg [],.ptr 1 0 0 0,o.s] (i0V s) (a0g (.i (mmE s o)) (i0W (if mmE s o=0 then mmS s o else s)) 26):=by
 by_cases hi:inL o.id s.lg.ids
 .have e:mmE s o=15:=by simp_all [mmE]
  rw [e,if_neg (by simp)];exact d1d s o h hk hi
 by_cases hf:512<=s.lg.ne
 .have e:mmE s o=12:=by simp_all [mmE]
  rw [e,if_neg (by simp)];exact u0Y s o h hk hi hf
 rcases hk with k|k|k
 .exact l1n s o h hc k hi hf
 .exact l1m s o h hc k hi hf
 .by_cases ha:o.am<0
  .exact g1K s o h hc k ha hi hf
  .exact g1L s o h hc k ha hi hf
theorem g1M (s:Bks) (o:Bop) (h:BkOk s) (hc:CkOk o) (hk:o.k=8):FC prog 20 324 [.agg [],.ptr 1 0 0 0,o.s] (i0V s) (a0g (.i (clE s.hs s.ds s.cd o.am)) (i0W (if clE s.hs s.ds s.cd o.am=0 then clS s o else s)) 26):=by
 have hml:=h.mle;have hn9:s.lg.ne<=100000:=by have:=h.lg.e512;omega
 have c1:=g1h h.bks h.hn h.nc oM s.cut o.am;unfold clO at c1;by_cases he:clE s.hs s.ds s.cd o.am=0
 .rw [if_pos he] at c1⊢;rw [he];have r16:tmM false (s.cd++ [o.am]).length (s.cd++ [o.am])=tmM false (s.nc+1) (s.cd++ [o.am]):=by rw [s0c,h.nc];rfl
  refine fEx func324 ?_;repeat' ((conv=>whnf);first|refine cOx (l:= xAo) c1 ?_|exact aX|exact a0A (l:= xAe) rfl rfl ⟨rfl,rfl,rfl,rfl,rfl,rfl,rfl,rfl,rfl,rfl,rfl,rfl,rfl,rfl,r16,rX⟩ a0G)
 .rw [if_neg he] at c1⊢;have r16:tmM false s.cd.length s.cd=tmM false s.nc s.cd:=by rw [h.nc]
  refine fEx func324 ?_;repeat' ((conv=>whnf);first|refine cOx (l:= xAo) c1 ?_|exact a0A (l:= xAe) rfl rfl ⟨rfl,rfl,rfl,rfl,rfl,rfl,rfl,rfl,rfl,rfl,rfl,rfl,rfl,rfl,r16,rX⟩ a0G)
theorem g1N (s:Bks) (o:Bop) (hc:ckE o≠0):FC prog 20 26 [.ptr 1 0 0 0,o.s] (i0V s) (a0g (.i (ckE o)) (i0W s) 26):=by
 have c1:=e0o o;let l:=xAe;exact Wx func26
theorem z0m (s:Bks) (o:Bop) (hc:ckE o=0) (ht:o.t<s.last):FC prog 20 26 [.ptr 1 0 0 0,o.s] (i0V s) (a0g (.i 14) (i0W s) 26):=by
 have c1:=e0o o;let l:=xAe;exact Wx func26
theorem g1O (s S':Bks) (o:Bop) (E:Int) (hc:ckE o=0) (hk:o.k=1) (ht:¬o.t<s.last)
  (c3:FC prog 20 316 [.agg [],.ptr 1 0 0 0,o.s] (i0V s) (a0g (.i E) (i0W S') 26)):
  FC prog 20 26 [.ptr 1 0 0 0,o.s] (i0V s) (a0g (.i E) (i0W (if E=0 then { S' with last:=o.t} else S')) 26):=by
 have c1:=e0o o;rw [hc] at c1;have c2:a0K prog 64 [.i o.k] (.iface 202 (.agg [])):=by
  have c:=f0p o.k oM;simp_all
 by_cases he:E=0
 .rw [if_pos he];subst he;refine fEx func26 ?_;repeat' ((conv=>whnf);first|(refine ⟨316,d0r (by rfl),?_⟩)|refine cPx c1 ?_|refine cPx c2 ?_|refine cOx (l:= xAd) c3 ?_|refine a0a ?_|(apply bRx<;>intro h<;>try exact aX)|exact aX|exact rOx xAk a0G)
 .rw [if_neg he];refine fEx func26 ?_;repeat' ((conv=>whnf);first|(refine ⟨316,d0r (by rfl),?_⟩)|refine cPx c1 ?_|refine cPx c2 ?_|refine cOx (l:= xAd) c3 ?_|refine a0a ?_|(apply bRx<;>intro h<;>try exact aX)|exact aX|exact rOx xAk a0G)
theorem g1P (s S':Bks) (o:Bop) (E:Int) (hc:ckE o=0) (hk:o.k=8) (ht:¬o.t<s.last)
  (c3:FC prog 20 324 [.agg [],.ptr 1 0 0 0,o.s] (i0V s) (a0g (.i E) (i0W S') 26)):
  FC prog 20 26 [.ptr 1 0 0 0,o.s] (i0V s) (a0g (.i E) (i0W (if E=0 then { S' with last:=o.t} else S')) 26):=by
 have c1:=e0o o;rw [hc] at c1;have c2:a0K prog 64 [.i o.k] (.iface 204 (.agg [])):=by
  have c:=f0p o.k oM;simp_all
 by_cases he:E=0
 .rw [if_pos he];subst he;refine fEx func26 ?_;repeat' ((conv=>whnf);first|(refine ⟨324,d0r (by rfl),?_⟩)|refine cPx c1 ?_|refine cPx c2 ?_|refine cOx (l:= xAd) c3 ?_|refine a0a ?_|(apply bRx<;>intro h<;>try exact aX)|exact aX|exact rOx xAk a0G)
 .rw [if_neg he];refine fEx func26 ?_;repeat' ((conv=>whnf);first|(refine ⟨324,d0r (by rfl),?_⟩)|refine cPx c1 ?_|refine cPx c2 ?_|refine cOx (l:= xAd) c3 ?_|refine a0a ?_|(apply bRx<;>intro h<;>try exact aX)|exact aX|exact rOx xAk a0G)
theorem g1Q (s S':Bks) (o:Bop) (E:Int) (hc:ckE o=0) (hk:o.k=4\/o.k=5\/o.k=6) (ht:¬o.t<s.last)
  (c3:FC prog 20 344 [.agg [],.ptr 1 0 0 0,o.s] (i0V s) (a0g (.i E) (i0W S') 26)):
  FC prog 20 26 [.ptr 1 0 0 0,o.s] (i0V s) (a0g (.i E) (i0W (if E=0 then { S' with last:=o.t} else S')) 26):=by
 have c1:=e0o o;rw [hc] at c1;have c2:a0K prog 64 [.i o.k] (.iface 205 (.agg [])):=by
  have c:=f0p o.k oM;grind
 by_cases he:E=0
 .rw [if_pos he];subst he;refine fEx func26 ?_;repeat' ((conv=>whnf);first|(refine ⟨344,d0r (by rfl),?_⟩)|refine cPx c1 ?_|refine cPx c2 ?_|refine cOx (l:= xAd) c3 ?_|refine a0a ?_|(apply bRx<;>intro h<;>try exact aX)|exact aX|exact rOx xAk a0G)
 .rw [if_neg he];refine fEx func26 ?_;repeat' ((conv=>whnf);first|(refine ⟨344,d0r (by rfl),?_⟩)|refine cPx c1 ?_|refine cPx c2 ?_|refine cOx (l:= xAd) c3 ?_|refine a0a ?_|(apply bRx<;>intro h<;>try exact aX)|exact aX|exact rOx xAk a0G)
theorem g1R (s S':Bks) (o:Bop) (E:Int) (hc:ckE o=0) (hk:o.k=2\/o.k=3\/o.k=7) (ht:¬o.t<s.last)
  (c3:FC prog 20 319 [.agg [],.ptr 1 0 0 0,o.s] (i0V s) (a0g (.i E) (i0W S') 26)):
  FC prog 20 26 [.ptr 1 0 0 0,o.s] (i0V s) (a0g (.i E) (i0W (if E=0 then { S' with last:=o.t} else S')) 26):=by
 have c1:=e0o o;rw [hc] at c1;have c2:a0K prog 64 [.i o.k] (.iface 203 (.agg [])):=by
  have c:=f0p o.k oM;grind
 by_cases he:E=0
 .rw [if_pos he];subst he;refine fEx func26 ?_;repeat' ((conv=>whnf);first|(refine ⟨319,d0r (by rfl),?_⟩)|refine cPx c1 ?_|refine cPx c2 ?_|refine cOx (l:= xAd) c3 ?_|refine a0a ?_|(apply bRx<;>intro h<;>try exact aX)|exact aX|exact rOx xAk a0G)
 .rw [if_neg he];refine fEx func26 ?_;repeat' ((conv=>whnf);first|(refine ⟨319,d0r (by rfl),?_⟩)|refine cPx c1 ?_|refine cPx c2 ?_|refine cOx (l:= xAd) c3 ?_|refine a0a ?_|(apply bRx<;>intro h<;>try exact aX)|exact aX|exact rOx xAk a0G)
theorem z0n (s:Bks) (o:Bop) (h:BkOk s):FC prog 20 26 [.ptr 1 0 0 0,o.s] (i0V s) (a0g (.i (doE s o)) (i0W (doS s o)) 26):=by
 by_cases hc:ckE o=0
 .by_cases ht:o.t<s.last
  .have e1:doE s o=14:=by simp_all [doE]
   have e2:doS s o=s:=by simp_all [doS]
   rw [e1,e2];exact z0m s o hc ht
  .have e1:doE s o=pfE s o:=by grind [doE]
   have key:∀S',S'=(if pfE s o=0 then pfS s o else s)->(if pfE s o=0 then { S' with last:=o.t} else S')=doS s o:=by
    simp_all [doS]
   have hO:=u0u hc;rw [e1,<-key _ rfl];have hk:=f0j (show¬(o.k<1\/8<o.k) by have:=hO.k;omega);by_cases k1:o.k=1
   .refine g1O s _ o _ hc k1 ht ?_;have e3:pfE s o=c1u s o:=by simp [pfE,k1]
    have e4:pfS s o=i1R s o:=by simp [pfS,k1]
    rw [e3,e4];exact z0h s o h hO
   by_cases k8:o.k=8
   .refine g1P s _ o _ hc k8 ht ?_;have e3:pfE s o=clE s.hs s.ds s.cd o.am:=by simp_all [pfE]
    have e4:pfS s o=clS s o:=by simp_all [pfS]
    rw [e3,e4];exact g1M s o h hO k8
   by_cases k4:o.k=4\/o.k=5\/o.k=6
   .refine g1Q s _ o _ hc k4 ht ?_;have e3:pfE s o=mmE s o:=by simp_all [pfE]
    have e4:pfS s o=mmS s o:=by simp_all [pfS]
    rw [e3,e4];exact l1o s o h hO k4
   .have k2:o.k=2\/o.k=3\/o.k=7:=oM
    refine g1R s _ o _ hc k2 ht ?_;have e3:pfE s o=e0d s o:=by simp_all [pfE]
    have e4:pfS s o=h0s s o:=by simp_all [pfS]
    rw [e3,e4];rcases k2 with k|k|k
    .exact z0i s o h hO k
    .exact z0j s o h hO k
    .exact z0k s o h hO k
 .have e1:doE s o=ckE o:=by simp_all [doE]
  have e2:doS s o=s:=by simp_all [doS]
  rw [e1,e2];exact g1N s o hc
end
section
attribute [local irreducible] sortI
def k5:Bk:=⟨3,p3,1,[r1i],[[-5,5,0,0,0,0,0,0,0,0,0,0,0,0,0,0]],[0],1⟩
attribute [local irreducible] seq ByteArray.extract
theorem o0U (s:Bks) (a:BA):FC prog 20 29 [.ptr 1 0 0 0,.str a] (i0V s) (a0g (.i (s.lg.bal a s.cur)) (i0W s) 26):=by
 have c1:=z0e s.lg a s.cur;let l:=[0,4,5,6,7,8,9];let R:=xAe;exact Wx func29
theorem s0L (s:Bks) (h:BkOk s) (d:Int):FC prog 20 30 [.ptr 1 0 0 0,.i d] (i0V s)
  (a0g (.sl 26 0 0 (w0I s.ds s.B d).length) ((26,some (.one false (pxB (w0I s.ds s.B d).length (b0C (w0I s.ds s.B d)))))::i0W s) 27):=by
 have c1:=k0w h.bks s.cut d;refine fEx func30 ?_;repeat' ((conv=>whnf);first|refine cOx (l:= xAo) c1 ?_|exact rOx [0,1,2,3,4,5,6,7,8,9,10,11,12,13,14,15,16,17,18,19,2,6,10,17,18,19,20] (a0b a0G))
theorem l1p (s:Bks) (h:BkOk s) (id:BA) (hp:s.pl id<s.na):FC prog 20 27 [.ptr 1 0 0 0,.str id] (i0V s) (a0g (.tup [(b0S s.au (s.pl id)).s,.bool true]) (i0W s) 26):=by
 have hb:decide (a0q s.aid id<s.na)=true:=decide_eq_true hp;have hpl:=z0f hp;refine fEx func27 ?_;repeat' ((conv=>whnf);first|(rw [hb])|(simp only [hpl])|refine a0a ?_|exact rOx xAe a0G)
end
section
attribute [local irreducible] sortI
attribute [local irreducible] seq ByteArray.extract
abbrev e1V (r:Nat->Nat) (s:Bks):a0k:=
 (r 1,some (.one false (.cells [.str s.cur,.i s.days,.sl (r 2) 0 0 s.na,.map (r 3) 0,.ptr (r 4) 0 0 0,.i s.lg.ne,.ptr (r 11) 0 0 0,.i s.last])))::(r 2,some (.one false (auB s.na s.au)))::(r 3,x0c s.na s.aid)::
 (r 9,i1V false s.lg)::(r 4,some (.one false (.cells (lgF (r 5) (r 6) (r 7) (r 8) (r 9) s.lg))))::(r 5,some (.one false (n0S s.lg)))::(r 6,some (.one false (n0T (r 10) s.lg)))::(r 7,some (.one false (z0c s.lg)))::(r 8,some (.one false (o1d s.lg)))::(r 10,d0b false s.lg)::
 (r 11,cyC false (r 12) (r 14) (r 15) (r 16) s.np s.cut)::(r 12,b1D false (r 13))::(r 13,tmM false s.hn s.hs)::(r 14,cyP false s.np s.pr)::(r 16,tmM false s.nc s.cd)::c1a (r 15) (r 17) (r 18) (r 19) s.np s.m s.ds s.B (sortS s.pr)
theorem m0Q {r:Nat->Nat} {s:Bks}:c0x (e1V r s):=
 a0b (a0b (a0b (a0b (a0b (a0b (a0b (a0b (a0b (a0r (a0b (a0b (a0b (a0b (a0b m0C))))))))))))))
theorem x0p {L:List BA} {k:Nat} (hk:k<L.length):(L.take k).map e0n++ [e0n (L.getD k ⟨#[]⟩)]=(L.take (k+1)).map e0n:=by
 rw [s0q hk,n1q];rfl
abbrev bnS (L:List BA) (n:Nat) (cur:BA) (m:Nat) (cut days:Int) (S:List Int) (k:Nat):VS:=
 ⟨[(1,.ptr 3 0 0 0),(6,.ptr 6 0 0 0),(7,.sl 13 0 0 k),(46,.sl 1 0 0 n),(47,.i n),(48,.i k)],
  (1,some (.one true (.cols n [.sc (.strs L)])))::(3,some (.one false (.cells [.sl 1 0 0 n,.str cur,.sl 2 0 0 m,.i cut,.i days])))::(4,b1D false 5)::(5,tmM false S.length S)::(6,cyC false 4 7 8 9 n cut)::(7,cyP false n L)::(9,tmM false 0 [])::
  (13,some (.one false (.cols k [.sc (.strs ((L.take k).map e0n))])))::c1a 8 10 11 12 n 0 [] [] (sortS L),14⟩
theorem d1e (cur:BA) (days cut:Int) (L:List BA) (n:Nat) (H:List Int) (m:Nat) (hL:L.length=n) (hH:H.length=m) (he:bkE cur days H m cut L≠0):
  FC prog 3 24 [.agg [.sl 1 0 0 n,.str cur,.sl 2 0 0 m,.i cut,.i days]] [(1,some (.one true (.cols n [.sc (.strs L)]))),(2,some (.one true (.cols m [.sc (.ints .i64 H)])))] (a0g (.tup [.nptr,.i (bkE cur days H m cut L)]) [] 3):=by
 have c0:=w0U cur;have c1:=b1F H m hH;unfold p1S at c1;have c2:=i1M cut L n hL;unfold cnO at c2;unfold bkE at he⊢;by_cases h1:days<1\/1000<days
 .rw [if_pos h1];let l2:=[0,4,1];let l:=[0,2];let R:=[0,1,2];exact Wx func24
 rw [if_neg h1] at he⊢;by_cases h2:e0c cur=false
 .rw [if_pos h2];rw [h2] at c0;let l2:=[0,4,1];let l:=[0,2];let R:=[0,1,2];exact Wx func24
 rw [if_neg h2] at he⊢;have h2':e0c cur=true:=by simpa using h2
 rw [h2'] at c0;by_cases h3:s0s H m≠0
 .rw [if_pos h3];rw [if_neg h3] at c1;generalize s0s H m=E at*;let l2:=[0,4,1];let l:=[0,2];let R:=[0,1,2];exact Wx func24
 rw [if_neg h3] at he⊢;rw [if_pos (by omega)] at c1;rw [if_neg he] at c2;generalize cnE cut L=E at*;let l2:=[0,4,1];let l:=[0,2];let R:=[0,1,2];exact Wx func24
theorem m0R (cur:BA) (days cut:Int) (L:List BA) (n:Nat) (H:List Int) (m:Nat) (hL:L.length=n) (hH:H.length=m) (he:bkE cur days H m cut L=0):
  FC prog 3 24 [.agg [.sl 1 0 0 n,.str cur,.sl 2 0 0 m,.i cut,.i days]] [(1,some (.one true (.cols n [.sc (.strs L)]))),(2,some (.one true (.cols m [.sc (.ints .i64 H)])))] (a0g (.tup [.ptr 3 0 0 0,.i 0]) (e1V (fun i=>i+2) (bk1 cur days H cut L)) 22):=by
 subst hL;have c0:=w0U cur;have c1:=b1F H m hH;unfold p1S at c1;have c2:=i1M cut L L.length rfl;unfold cnO at c2;have hbk:=o0S he;have hn:=hbk.n256;unfold bkE at he;by_cases h1:days<1\/1000<days
 .rw [if_pos h1] at he;cases he
 rw [if_neg h1] at he;by_cases h2:e0c cur=false
 .rw [if_pos h2] at he;cases he
 rw [if_neg h2] at he;have h2':e0c cur=true:=by simpa using h2
 rw [h2'] at c0;by_cases h3:s0s H m≠0
 .rw [if_pos h3] at he;exact absurd he h3
 rw [if_neg h3] at he;rw [if_pos oM] at c1;rw [if_pos he] at c2;have hnw:c0u L=0:=by
  unfold cnE at he;split at he
  .cases he
  .exact he
 obtain ⟨w1,w2,w3⟩:=i0L hnw;have c5:=c1S (L.map e0n) L.length (by rw [f1R]) (u0V hnw);unfold bk1;generalize hG0:lg0 (L.map e0n)=G0 at*;have hG:(G0.ne:Int)=0:=by rw [<-hG0];rfl
 generalize ddS H=S at*;refine fEx func24 ?_;repeat' ((conv=>whnf);first|refine cPx c0 ?_|refine cOx (l:= [0,2]) c1 ?_|refine cOx (l:= [0,4,1]) c2 ?_|refine a0a ?_|(apply bRx<;>intro h<;>try exact aX))
 all_goals (conv=>whnf)
 all_goals first
  |exact aX
  |(exfalso;exact h rfl)
  |skip
 refine a0h (bnS L L.length cur m cut days S) (fun k=>k<=L.length) (fun k=>L.length-k) 0 [0,1,2,3,4,5,6,7,8,9,10,11,12,13] [.slot 7 [.sc (.strs [])]] wHx (b1f _) ?_;intro k hk;by_cases hk2:k<L.length
 .have hin:L.getD k ⟨#[]⟩∈L:=by rw [List.getD,m0b oM];exact k1j _
  have hz:=g0o (w3 _ hin);have c4:=g0n (L.getD k ⟨#[]⟩) oM;have hT:=x0p (L:=L) (k:=k) oM;have hrow:=congrArg (fun z=>some (HB.one false (Blk.cols (k+1) [.sc (.strs z)]))) hT;unfold bnS;repeat' ((conv=>whnf);first|refine cPx c4 ?_|refine a0a ?_|(apply bRx<;>intro h<;>try exact aX)|exact aX|exact ⟨k+1,[0,1,2,3,4,5,6,7,8,9,10,11,12,15],[],hk2,(show L.length-(k+1)<L.length-k by omega),⟨rfl,⟨rfl,rfl,rfl,rfl,rfl,sI (a0j oM),trivial⟩,⟨rfl,rfl,rfl,rfl,rfl,rfl,rfl,hrow,rX⟩⟩⟩)
 have ek:k=L.length:=oM
 subst ek;unfold bnS;rw [show L.take L.length=L from n1v];repeat' ((conv=>whnf);first|refine cOx (l:= [0,13]) c5 ?_|refine a0a ?_|(apply bRx<;>intro h<;>try exact aX)|exact aX|(exfalso;exact h rfl)|exact b0K (l:= [0,1,2,22,23,21,14,15,16,17,18,19,20,6,4,5,7,8,9,10,11,12]) [.cell 22 2 [.sc (.strs []),.sc (.strs []),.sc (.ints .i64 []),.sc (.ints .i64 []),.sc (.ints .i64 []),.sc (.ints .i64 []),.sc (.ints .i64 []),.sc (.ints .i64 []),.sc (.ints .i64 []),.sc (.ints .i64 [])]] ⟨rfl,rfl,⟨(by simp only [hG];rfl),rX⟩⟩ m0Q)
end
section
attribute [local irreducible] sortI
theorem g0Z (s:BA) (hs:s.size<=100000):k0D prog glT 171 [.str s] (.tup [.i (dnV s),.bool (dnB s)]):=by
 have c1:=q0C s hs;unfold piR at c1;unfold dnV dnB dnO;rcases h:Lib.parseIntB 64 s.data.toList with v|_|_
 .rw [h] at c1;have hb:=Lib.parseIntB_bounds h;have c2:=b0Y v oM oM;dsimp only;by_cases e:b0i v=s
  .rw [if_pos e];rw [e] at c2;have hq:seq s s=true:=decide_eq_true rfl;refine fEx func171 ?_;repeat' ((conv=>whnf);first|refine cGx c1 ?_|refine cGx c2 ?_|(rw [hq])|exact a0e rfl)
  .rw [if_neg e];refine fEx func171 ?_;repeat' ((conv=>whnf);first|refine cGx c1 ?_|refine cGx c2 ?_|(apply bRx<;>intro h)|exact a0e rfl|(first|contradiction))
 all_goals
  rw [h] at c1;refine fEx func171 ?_;repeat' ((conv=>whnf);first|refine cGx c1 ?_|exact a0e rfl)
attribute [local irreducible] seq ByteArray.extract
theorem g1S (X:List BA) (tx:BA) (k t am fe:Int) (b1 b2 b3 b4 z0 z1:Bool) (E:Int) (hw1:i64.wrap k=k) (hw2:i64.wrap t=t)
  (c1:FC prog 1 170 [.str tx,.str ⟨#[124]⟩] [] (a0g (.sl 1 0 0 (8+1)) [(1,some (.one false (.cols (8+1) [.sc (.strs X)])))] 2))
  (g1:k0D prog glT 171 [.str (X.getD 0 ⟨#[]⟩)] (.tup [.i k,.bool b1])) (g2:k0D prog glT 171 [.str (X.getD 1 ⟨#[]⟩)] (.tup [.i t,.bool b2]))
  (g3:k0D prog glT 171 [.str (X.getD 6 ⟨#[]⟩)] (.tup [.i am,.bool b3])) (g4:k0D prog glT 171 [.str (X.getD 7 ⟨#[]⟩)] (.tup [.i fe,.bool b4]))
  (p0:seq (X.getD 8 ⟨#[]⟩) ⟨#[48]⟩=z0) (p1:seq (X.getD 8 ⟨#[]⟩) ⟨#[49]⟩=z1)
  (c2:a0K prog 63 [.agg [.i k,.i t,.str (X.getD 2 ⟨#[]⟩),.str (X.getD 3 ⟨#[]⟩),.str (X.getD 4 ⟨#[]⟩),.str (X.getD 5 ⟨#[]⟩),.i am,.i fe,.bool z1]] (.i E)):
  k0D prog glT 115 [.str tx] (.tup (if (b1&&(b2&&(b3&&(b4&&(z0||z1)))))=false then [x0i.s,.i 2] else if E=0 then [.agg [.i k,.i t,.str (X.getD 2 ⟨#[]⟩),.str (X.getD 3 ⟨#[]⟩),.str (X.getD 4 ⟨#[]⟩),.str (X.getD 5 ⟨#[]⟩),.i am,.i fe,.bool z1],.i 0] else [x0i.s,.i E])):=by
 have q0:seq (X.getD (Int.toNat 8+0) ⟨#[]⟩) ⟨#[48]⟩=z0:=p0;have q1:seq (X.getD (Int.toNat 8+0) ⟨#[]⟩) ⟨#[49]⟩=z1:=p1;refine fEx func115 ?_;repeat' ((conv=>whnf);first|(rw [q0])|(rw [q1])|(rw [hw1])|(rw [hw2])|refine cOx (l:= [0]) c1 ?_|refine cGx g1 ?_|refine cGx g2 ?_|refine cGx g3 ?_|refine cGx g4 ?_|refine cPx c2 ?_|refine a0a ?_|(apply bRx<;>intro h<;>try exact aX))
 all_goals (conv=>whnf)
 all_goals clear p0 p1 q0 q1 c1 g1 g2 g3 g4 c2 hw1 hw2
 all_goals subst_vars
 all_goals first
  |exact a0e rfl
  |(cases z1<;>(rw [if_neg dC,if_neg (by assumption)];exact a0e rfl))
  |(rw [if_neg dC,if_neg (by assumption)];exact a0e rfl)
theorem u0Z (s:BA) (hs:s.size<=100000) (k:Nat) (hk:Lib.countB s ⟨#[124]⟩=k) (h8:k≠8):k0D prog glT 115 [.str s] (.tup [x0i.s,.i 2]):=by
 have c1:=s0J s 124 k hs hk;let l:=[0];exact Wx func115
theorem z0o (s:BA) (hs:s.size<=100000):k0D prog glT 115 [.str s] (.tup [(deO s).s,.i (deE s)]):=by
 by_cases h8:Lib.countB s ⟨#[124]⟩=8
 case neg=>
  have e:deE s=2:=by simp_all [deE]
  have e2:deO s=x0i:=by simp_all [deO]
  rw [e,e2];exact u0Z s hs _ rfl h8
 have c1:=s0J s 124 8 hs h8;have hp:ptL s=Lib.splitB ⟨#[124]⟩ 0 8 s:=by unfold ptL;grind
 have hz:=c1X s;rw [<-hp] at c1;have key:=g1S (ptL s) s _ _ _ _ _ _ _ _ _ _ (ckE (deP (ptL s))) (a0l (x0j _).1 (x0j _).2) (a0l (x0j _).1 (x0j _).2) c1 (g0Z _ (n1r (hz 0) hs)) (g0Z _ (n1r (hz 1) hs)) (g0Z _ (n1r (hz 6) hs)) (g0Z _ (n1r (hz 7) hs)) rfl rfl (e0o (deP (ptL s)));have e:(SV.tup (if deF (ptL s)=false then [x0i.s,.i 2] else if ckE (deP (ptL s))=0 then [(deP (ptL s)).s,.i 0] else [x0i.s,.i (ckE (deP (ptL s)))]))= .tup [(deO s).s,.i (deE s)]:=by
  have eD:deE s=(if deF (ptL s)=false then 2 else ckE (deP (ptL s))):=by simp_all [deE]
  unfold deO;grind
 rw [<-e];trivial
end
section
theorem k0U {x:Nat}:i0b .u64 (x:Int) 32=((x/4294967296:Nat):Int):=w0x (s:=32) oM
theorem x0q {a b:Nat} (h:a*b<18446744073709551616):u64.wrap ((a:Int)*(b:Int))=((a*b:Nat):Int):=by
 grind [c0d]
theorem x0r {a b:Nat} (h:a+b<18446744073709551616):u64.wrap ((a:Int)+(b:Int))=((a+b:Nat):Int):=by
 grind [c0d]
theorem o1n {k j:IntKind} {a b c d:Int} (h:a=c) (h':b=d):SV.tup [.int k a,.int j b]=SV.tup [.int k c,.int j d]:=by grind
theorem s0M (x y:Nat) (hx:x<18446744073709551616) (hy:y<18446744073709551616):a0K prog 282 [.int .u64 x,.int .u64 y] (.tup [.int .u64 (x*y/18446744073709551616:Nat),.int .u64 (x*y%18446744073709551616:Nat)]):=by
 refine fEx func282 ?_;repeat' ((conv=>whnf);first|refine a0a ?_|(apply bRx<;>intro h<;>try exact aX))
 all_goals (conv=>whnf)
 refine a0e ?_;have e1:=m0p hx;have e3:=m0p hy;have k:=n1A (x:=x) (y:=y) (x0:=x%4294967296) (x1:=x/4294967296) (y0:=y%4294967296) (y1:=y/4294967296) oM oM;have w:u64.wrap ((x:Int)*(y:Int))=((x*y%18446744073709551616:Nat):Int):=by rw [<-Int.natCast_mul,s0n]
 have a0:x%4294967296<4294967296:=oM
 have a1:x/4294967296<4294967296:=oM
 have b0:y%4294967296<4294967296:=oM
 have b1:y/4294967296<4294967296:=oM
 simp only [c0g,e1,e3,k0U,w];generalize x%4294967296=x0 at*;generalize x/4294967296=x1 at*;generalize y%4294967296=y0 at*;generalize y/4294967296=y1 at*;have m00:=w0y a0 b0;have m10:=w0y a1 b0;have m01:=w0y a0 b1;have m11:=w0y a1 b1;rw [x0q (a:=x0) (b:=y0) oM,x0q (a:=x1) (b:=y0) oM,x0q (a:=x0) (b:=y1) oM,x0q (a:=x1) (b:=y1) oM,k];generalize x0*y0=S at*;generalize x1*y0=Q at*;generalize x0*y1=R at*;generalize x1*y1=T at*;rw [k0U,x0r oM,k0U,m0p oM,x0r oM,x0r oM,k0U,x0r oM];refine o1n ?_ rfl;omega
end
end Go.Proofs.YtmnjebhdclmcfaaGreatDoor
namespace Go.Sy
open Go.RowKit
theorem g0r {x y:BA} (h:x.data.toList=y.data.toList):x=y:=by
 cases x;simp_all
theorem g1T {n k w:Nat} (h:n<10^k) (hk:k<=w):c0P w n=List.replicate (w-k) 48++c0P k n:=by
 apply s1P;intro i;by_cases hi:i<w
 .rw [k0O _ _ _ hi];by_cases h2:i<w-k
  .have:n/10^(w-1-i)=0:=u1G (s1j h (s1V oM oM));grind
  .rw [f1K (by simp_all),u1D,k0O _ _ _ oM];grind
 simp_all [a0H]
theorem b0w (l:List Int):(a0m l).size=l.length:=by simp [a0m,ByteArray.size]
theorem d0j (a b:List Int):a0m a++a0m b=a0m (a++b):=by
 apply g0r;simp [a0m]
theorem s0N {a b:BA} {n:Nat} (h:a.size=n):(a++b).extract 0 n=a:=by
 apply g0r;simp only [s1U,s1m];simp_all
def i0Y (s:BA) (i:Nat):Prop:=48<=a0d s (i:Int)/\a0d s (i:Int)<=57
instance (s:BA) (i:Nat):Decidable (i0Y s i):=by unfold i0Y;infer_instance
def a0R (s:BA):Nat->Bool
 |0=>true
 |k+1=>a0R s k&&decide (i0Y s k)
def d0z (s:BA):Nat->Int
 |0=>0
 |k+1=>10*d0z s k+(a0d s (k:Int)-48)
theorem g0s {s:BA} {k n:Nat} (h:k<n) (hc:¬i0Y s k):a0R s n=false:=by
 induction n with
 |zero=>omega
 |succ n ih=>
  simp only [a0R];grind
theorem q0E {s:BA}:∀k,a0R s k=true->0<=d0z s k/\d0z s k<10^k
 |0,_=>by simp [d0z]
 |k+1,h=>by
  simp only [a0R,n0M] at h;have ih:=q0E k h.1;grind [i0Y,d0z]
theorem toList_eq (s:BA):s.toList=s.data.toList:=by
 simpa using u1P s
end Go.Sy
namespace Go.Proofs.YtmnjebhdclmcfaaGreatDoor
open Go.RowKit Go.Sy
section
theorem a0u {k:Nat} (h:k<9223372036854775806):i64.wrap ((k:Int)+1)=((k+1:Nat):Int):=by rw [a0l oM oM];rfl
theorem g1U (x y:Nat) (hx:x<18446744073709551616) (hy:y<18446744073709551616):a0K prog 250 [.int .u64 x,.int .u64 y] (.tup [.int .u64 (x*y/18446744073709551616:Nat),.int .u64 (x*y%18446744073709551616:Nat)]):=by
 have c:=s0M x y hx hy;have c0:=c;exact Wx func250
def q1D (s p:BA):Bool:=decide (p.size<=s.size)&&seq (s.extract 0 p.size) p
theorem s0O (s p:BA) (hs:s.size<=9223372036854775807):a0K prog 283 [.str s,.str p] (.bool (q1D s p)):=by
 refine fEx func283 ?_;repeat' (first|refine a0a ?_|(apply bRx<;>intro h))
 all_goals refine a0e (congrArg SV.bool ?_)
 all_goals unfold q1D
 all_goals grind
theorem q0F (s p:BA) (hs:s.size<=9223372036854775807):a0K prog 251 [.str s,.str p] (.bool (q1D s p)):=by
 have c:=s0O s p hs;have c0:=c;exact Wx func251
theorem v0a (c:Int) (N n:Nat) (h:n<=N):(a0m (List.replicate N c)).extract 0 n=a0m (List.replicate n c):=by
 apply g0r;simp_all [a0m]
theorem v0b (n:Nat) (hn:n<=64):a0K prog 215 [.str ⟨#[48]⟩,.i n] (.str (a0m (List.replicate n 48))):=by
 have m:=g1U 1 n oM oM;rw [Nat.one_mul,u1G oM,s1u oM] at m;have hp:=fun s hs=>q0F s ⟨#[48]⟩ hs
 have wn:u64.wrap (n:Int)=(n:Int):=c0d oM oM;rw [<-wn] at m;have wi:i64.wrap (u64.wrap (n:Int))=(n:Int):=by rw [wn];exact a0l oM oM
 have hle:i64.wrap (u64.wrap (n:Int))<=64:=by rw [wi];omega
 refine fEx func215 ?_;by_cases h0:n=0
 .subst h0;exact Vx
 .by_cases h1:n=1
  .subst h1;exact Vx
  .repeat' ((conv=>whnf);first|refine cPx m ?_|refine cPx (hp _ dC) ?_|(refine a0f (show (0:Int)<=0/\0<=i64.wrap (u64.wrap (n:Int))/\i64.wrap (u64.wrap (n:Int))<=((64:Nat):Int) from ?_) ?_;(rw [wi];omega))|refine a0a ?_|(apply bRx<;>intro h<;>try exact aX))
   all_goals (conv=>whnf)
   .refine a0e (congrArg SV.str ?_);show (a0m (List.replicate 64 48)).extract 0 (i64.wrap (u64.wrap (n:Int))).toNat=_;rw [wi,u0f];exact v0a 48 64 n hn
   all_goals exact absurd hle (by assumption)
def i1Z (w n:Nat):BA:=if b0z n<=w then a0m (c0P w n) else ⟨#[]⟩
theorem g1V (n:Nat):b0i (n:Int)=a0m (c0P (b0z n) n):=by
 simp_all [b0i,dec,if_neg]
theorem v0c (n w:Nat) (hn:n<=9223372036854775807) (hw:w<=64):k0D prog glT 175 [.i n,.i w] (.tup [.str (i1Z w n),.bool (decide (b0z n<=w))]):=by
 have f:=b0Y (n:Int) oM oM;rw [g1V] at f;have z:(a0m (c0P (b0z n) n)).size=b0z n:=by rw [b0w,a0H]
 refine fEx func175 ?_;by_cases hk:b0z n<=w
 .have c:=v0b (w-b0z n) oM;have wc:((w-b0z n:Nat):Int)=i64.wrap ((w:Int)-((a0m (c0P (b0z n) n)).size:Int)):=by
   grind [a0l]
  rw [wc] at c;repeat' ((conv=>whnf);first|refine cGx f ?_|refine cPx c ?_|(refine a0f ?_ ?_;(rw [b0w,b0w,a0H,u1D];omega))|(apply bRx<;>intro h<;>try exact aX))
  .refine a0e ?_;rw [show i1Z w n=a0m (List.replicate (w-b0z n) 48)++a0m (c0P (b0z n) n) by
    unfold i1Z;rw [if_pos hk,d0j,g1T (g0b n) hk],decide_eq_true hk]
   rfl
 .repeat' ((conv=>whnf);first|refine cGx f ?_|(apply bRx<;>intro h<;>try exact aX))
  .refine a0e ?_;rw [show i1Z w n=⟨#[]⟩ by grind [i1Z],decide_eq_false hk];rfl
def g0t (n w:Int):Prop:=1<=w/\w<=15/\0<=n/\b0z n.toNat<=w.toNat
instance (n w:Int):Decidable (g0t n w):=by unfold g0t;infer_instance
def l1q (n w:Int):Int:=if g0t n w then 0 else 4
def d0c (n w:Int):BA:=if g0t n w then a0m (c0P w.toNat n.toNat) else ⟨#[]⟩
theorem q0G {n w:Int} (h:¬g0t n w):l1q n w=4:=by unfold l1q;simp_all
theorem q0H {n w:Int} (h:¬g0t n w):d0c n w=⟨#[]⟩:=by unfold d0c;simp_all
theorem d1f {n w:Int} (h:g0t n w):l1q n w=0:=by unfold l1q;simp_all
theorem v0d {n w:Int} (h:g0t n w):d0c n w=a0m (c0P w.toNat n.toNat):=by unfold d0c;simp_all
attribute [irreducible] l1q d0c i1Z
theorem h0a (n w:Int) (hn:n<=9223372036854775807):k0D prog glT 129 [.i n,.i w] (.tup [.str (d0c n w),.i (l1q n w)]):=by
 by_cases hb:1<=w/\w<=15/\0<=n
 .obtain ⟨n',rfl⟩:=r1S hb.2.2;obtain ⟨w',rfl⟩:=r1S (show 0<=w by omega);have c:=v0c n' w' oM oM;by_cases hk:b0z n'<=w'
  .have ho:g0t n' w':=⟨hb.1,hb.2.1,hb.2.2,by simpa using hk⟩;rw [show i1Z w' n'=a0m (c0P w' n') by unfold i1Z;rw [if_pos hk],decide_eq_true hk] at c;rw [v0d ho,d1f ho,u0f,u0f];have c0:=c;exact Wx func129
  .have ho:¬g0t n' w':=fun h=>hk (by simpa using h.2.2.2)
   rw [decide_eq_false hk] at c;rw [q0H ho,q0G ho];have c1:=c;exact Wx func129
 .have ho:¬g0t n w:=fun h=>hb ⟨h.1,h.2.1,h.2.2.1⟩
  rw [q0H ho,q0G ho];exact Wx func129
theorem j0V {n w:Nat} (h:n<10^w) (hw:1<=w):b0z n<=w:=by
 rcases i1B w (b0z n) with h1|h1
 .by_cases h0:n=0
  .simp_all [b0z]
  .have:=u0o n oM;have h2:=s1V (n:=10) oM (show w<=b0z n-1 by omega);omega
 omega
def r1m (s:BA) (i:Nat):Prop:=32<=a0d s (i:Int)/\a0d s (i:Int)<=126
instance (s:BA) (i:Nat):Decidable (r1m s i):=by unfold r1m;infer_instance
def m0S (x:Int):Int:=if x<10 then 48+x else 87+x
def a1e (s:BA):Nat->List Int
 |0=> []
 |k+1=>a1e s k++ [m0S (a0d s (k:Int)/16),m0S (a0d s (k:Int)%16)]
theorem h0V (s:BA):∀k,(a1e s k).length=2*k
 |0=>rfl
 |k+1=>by simp only [a1e,s0c,h0V s k];rfl
theorem v0e (s:BA) (i:Int):0<=a0d s i/\a0d s i<=255:=by
 unfold a0d;have:=(s.data.toList.getD i.toNat 0).toNat_lt;omega
theorem l1r {x:Int} (h0:0<=x) (h:x<=255):t0I .u8 x 15=x%16:=by
 obtain ⟨n,rfl⟩:=r1S h0;have h1:(BitVec.ofInt 8 (n:Int)&&&BitVec.ofInt 8 15).toNat=n%16:=by
  rw [u1d,u1U,u1U];rw [show ((n:Int)%((2^8:Nat):Int)).toNat=n by omega,show ((15:Int)%((2^8:Nat):Int)).toNat=2^4-1 by rfl,Nat.and_two_pow_sub_one_eq_mod]
 show u8.wrap (((BitVec.ofInt 8 (n:Int)&&&BitVec.ofInt 8 15).toNat:Nat):Int)=_;grind [m0j]
theorem o1o {x:Int}:i0b .u8 x 4=x/16:=g0R (k:= .u8) 4 dC
def p1W:BA:=⟨#[48,49,50,51,52,53,54,55,56,57,97,98,99,100,101,102]⟩
theorem d1g {x:Int} (h0:0<=x) (h:x<16):a0d p1W x=m0S x:=by
 obtain ⟨n,rfl⟩:=r1S h0;have hn:n<16:=oM
 have:∀n:Nat,n<16->a0d p1W (n:Int)=m0S (n:Int):=dC
 simp_all
theorem g1W (s:BA) (hs:s.size<=1000):a0K prog 176 [.str s] (.str (a0m (a1e s s.size))):=by
 refine fEx func176 ?_;have e0:i64.wrap (2*(s.size:Int))=((2*s.size:Nat):Int):=by rw [a0l oM oM];omega
 repeat' ((conv=>whnf);first|refine a0a ?_|(apply bRx<;>intro h<;>try exact aX))
 all_goals (conv=>whnf)
 refine a0h (fun k:Nat=>⟨[(0,.str s),(3,.sl 1 0 0 (2*k)),(10,.i s.size),(11,.i k)],[(1,some (.one false (.cols (2*k) [.sc (.ints .u8 (a1e s k))])))],2⟩) (fun k=>k<=s.size) (fun k=>s.size-k) 0 [0,1] [] wHx oM ?_;intro k hk;have b0:=v0e s (k:Int);have a15:=l1r b0.1 b0.2;have s4:=o1o (x:=a0d s (k:Int));repeat' ((conv=>whnf);first|(refine a0f (show 0<=i0b .u8 (a0d s (k:Int)) 4/\i0b .u8 (a0d s (k:Int)) 4<((16:Nat):Int) from ?_) ?_;(rw [s4];omega))|(refine a0f (show 0<=t0I .u8 (a0d s (k:Int)) 15/\t0I .u8 (a0d s (k:Int)) 15<((16:Nat):Int) from ?_) ?_;(rw [a15];omega))|refine a0a ?_|(apply bRx<;>intro h<;>try exact aX))
 all_goals (conv=>whnf)
 .refine ⟨k+1,[0,3],[],by omega,by omega,⟨rfl,⟨rfl,rfl,rfl,sI (a0u oM),trivial⟩,⟨?_,trivial⟩⟩⟩;have t1:=d1g (x:=a0d s (k:Int)/16) oM oM;have t2:=d1g (x:=a0d s (k:Int)%16) oM oM;rw [<-s4] at t1;rw [<-a15] at t2;show some (HB.one false (Blk.cols (2*k+2) [BCol.sc (.ints .u8 (a1e s k++ [a0d p1W (i0b .u8 (a0d s (k:Int)) 4),a0d p1W (t0I .u8 (a0d s (k:Int)) 15)]))]))=some (HB.one false (Blk.cols (2*(k+1)) [BCol.sc (.ints .u8 (a1e s (k+1)))]));rw [t1,t2,s4,a15];rfl
 .have e:k=s.size:=oM
  subst e;refine a0e ?_;rw [show seg 0 (2*s.size) (a1e s s.size)=a1e s s.size by
   unfold seg;rw [s1r,s1A (by rw [h0V];exact m0c _)]]
  rfl
theorem z0p {s:BA} {w i:Nat} (h:i<w) (hw:w<=s.size):a0d (s.extract 0 w) (i:Int)=a0d s (i:Int):=by
 unfold a0d;rw [u0f];simp only [s1U,s1m,t1n,s1r,List.getD,r1T,if_pos h]
theorem h0b {s:BA} {w:Nat} (hw:w<=s.size):(s.extract 0 w).size=w:=by simp_all
theorem h0c {s:BA} {w:Nat} (hw:w<=s.size):∀k,k<=w->a0R (s.extract 0 w) k=a0R s k/\d0z (s.extract 0 w) k=d0z s k
 |0,_=>⟨rfl,rfl⟩
 |k+1,h=>by
  obtain ⟨i1,i2⟩:=h0c hw k oM;grind [a0R,i0Y,d0z,z0p]
theorem m0T {s:BA} {k:Nat} (h:a0R s k=true) (h1:48<=a0d s (k:Int)) (h2:a0d s (k:Int)<=57):a0R s (k+1)=true:=by
 simp only [a0R,h,s1S,decide_eq_true_eq];trivial
theorem g1X {s:BA} {k:Nat} (h:a0R s k=true) (hk:k<=15):0<=d0z s k/\d0z s k<1000000000000000:=by
 have:=q0E k h;have h2:(10:Int)^k<=10^15:=by
  have:=s1V (n:=10) oM hk;grind
 omega
def g1Y (s:BA):Int:=if a0R s s.size=true then d0z s s.size else 0
theorem i0Z (s:BA) (hs:s.size<=15):a0K prog 244 [.str s] (.tup [.i (g1Y s),.bool (a0R s s.size)]):=by
 refine fEx func244 ?_
 (conv=>whnf)
 refine a0h (fun k:Nat=>⟨[(0,.str s),(4,.i (d0z s k)),(7,.i s.size),(8,.i k)],[],1⟩) (fun k=>k<=s.size/\a0R s k=true) (fun k=>s.size-k) 0 [0] [] wHx ⟨by omega,rfl⟩ ?_;rintro k ⟨hk,hc⟩;have hb:=g1X hc oM;have bb:=v0e s (k:Int);repeat' ((conv=>whnf);first|refine a0a ?_|(apply bRx<;>intro h<;>try exact aX))
 all_goals (conv=>whnf)
 .have hf:a0R s s.size=false:=g0s (k:=k) oM (fun h=>by have:=h.1;omega);refine a0e ?_;rw [show g1Y s=0 by unfold g1Y;rw [hf];rfl,hf];rfl
 .have hf:a0R s s.size=false:=g0s (k:=k) oM (fun h=>by have:=h.2;omega);refine a0e ?_;rw [show g1Y s=0 by unfold g1Y;rw [hf];rfl,hf];rfl
 .refine ⟨k+1,[0],[],⟨by omega,m0T hc oM oM⟩,by omega,⟨rfl,⟨rfl,?_,rfl,sI (a0u oM),trivial⟩,trivial⟩⟩;refine congrArg (fun z=>some (SV.i z)) ?_;show i64.wrap (i64.wrap (10*d0z s k)+i64.wrap (u8.wrap (a0d s (k:Int)-48)))=d0z s (k+1);rw [m0j oM oM,a0l (n:=10*d0z s k) oM oM,a0l (n:=a0d s (k:Int)-48) oM oM,a0l oM oM];rfl
 .have e:k=s.size:=oM
  subst e;refine a0e ?_;rw [show g1Y s=d0z s s.size by unfold g1Y;rw [if_pos hc],hc];rfl
def nuE (s:BA) (w:Int):Int:=if w<1\/15<w then 4 else if (s.size:Int)<w then 1 else if a0R s w.toNat=true then 0 else 2
def nuV (s:BA) (w:Int):Int:=if nuE s w=0 then d0z s w.toNat else 0
def nuC (s:BA) (w:Int):Int:=if nuE s w=0 then w else 0
theorem j0a (s:BA) (w:Int):(nuE s w=0/\nuV s w=d0z s w.toNat/\nuC s w=w/\1<=w/\w<=15/\w<=(s.size:Int)/\a0R s w.toNat=true)\/(nuE s w≠0/\nuV s w=0/\nuC s w=0/\((nuE s w=4/\(w<1\/15<w))\/(nuE s w=1/\1<=w/\w<=15/\(s.size:Int)<w)\/(nuE s w=2/\1<=w/\w<=15/\w<=(s.size:Int)/\a0R s w.toNat=false))):=by
 unfold nuV nuC;have:(nuE s w=0/\1<=w/\w<=15/\w<=(s.size:Int)/\a0R s w.toNat=true)\/((nuE s w=4/\(w<1\/15<w))\/(nuE s w=1/\1<=w/\w<=15/\(s.size:Int)<w)\/(nuE s w=2/\1<=w/\w<=15/\w<=(s.size:Int)/\a0R s w.toNat=false)):=by
  unfold nuE;grind
 rcases this with h|h
 .simp_all
 .have:nuE s w≠0:=by all_goals omega
  simp_all
attribute [irreducible] nuE nuV nuC
theorem d1h (s:BA) (w:Int) (hs:s.size<=9223372036854775000):FC prog 3 243 [.str s,.ptr 1 0 0 0,.ptr 2 0 0 0] [(1,some (.one true (.cells [.i w]))),(2,some (.one false (.cells [.i 0])))]
  (a0g (.tup [.i (nuC s w),.i (nuE s w)]) [(2,some (.one false (.cells [.i (nuV s w)])))] 3):=by
 rcases j0a s w with ⟨e1,e2,e3,h⟩|⟨_,e2,e3,h⟩
 .rw [e1,e2,e3];obtain ⟨w',rfl⟩:=r1S (show 0<=w by omega);rw [u0f] at h⊢;have hz:(s.extract 0 w').size=w':=h0b oM;have c:=i0Z (s.extract 0 w') oM;rw [hz,show g1Y (s.extract 0 w')=d0z s w' by
   unfold g1Y;rw [hz,(h0c oM w' (m0c _)).1,(h0c oM w' (m0c _)).2,if_pos h.2.2.2],(h0c oM w' (m0c _)).1,h.2.2.2] at c
  have c0:=c;let l:=[0,1,2];exact Wx func243
 .rw [e2,e3];rcases h with ⟨e1,h⟩|⟨e1,h⟩|⟨e1,h⟩
  .rw [e1];let l:=[0,1,2];exact Wx func243
  .rw [e1];let l:=[0,1,2];exact Wx func243
  .rw [e1];obtain ⟨w',rfl⟩:=r1S (show 0<=w by omega);rw [u0f] at h;have hz:(s.extract 0 w').size=w':=h0b oM;have c:=i0Z (s.extract 0 w') oM;rw [hz,(h0c oM w' (m0c _)).1,h.2.2.2] at c;have c1:=c;let l:=[0,1,2];exact Wx func243
def rdB (s:BA) (e:Int):Option HB:=some (.one false (.cells [.str s,.i e]))
theorem q0I (s:BA) (w:Int) (hs:s.size<=9223372036854775000):FC prog 4 241 [.ptr 1 0 0 0,.fn 243 [.ptr 2 0 0 0,.ptr 3 0 0 0]] [(1,rdB s 0),(2,some (.one true (.cells [.i w]))),(3,some (.one false (.cells [.i 0])))]
  (a0g (.tup []) [(1,rdB (s.extract (nuC s w).toNat s.size) (nuE s w)),(3,some (.one false (.cells [.i (nuV s w)])))] 4):=by
 have c:=d1h s w hs;rcases j0a s w with ⟨e1,e2,e3,h⟩|⟨e1,e2,e3,h⟩
 .rw [e1,e2,e3] at c⊢;have c0:=c;let l:=[0,2,3];let R:=[0,1,2,3];exact Wx func241
 .rw [e2,e3] at c⊢;rw [show s.extract (Int.toNat 0) s.size=s from by simp];refine fEx func241 ?_;repeat' ((conv=>whnf);first|refine cOx (l:= [0,2,3]) c ?_|refine a0a ?_|(apply bRx<;>intro h<;>try exact aX)|exact rOx [0,1,2,3] (a0b (a0b a0c))|(exfalso;exact e1 (by assumption)))
theorem m0U (s:BA) (e:Int) (F:Nat) (he:e≠0):FC prog 4 241 [.ptr 1 0 0 0,.fn F [.ptr 2 0 0 0,.ptr 3 0 0 0]] [(1,rdB s e)] (a0g (.tup []) [(1,rdB s e)] 4):=by
 refine fEx func241 ?_;repeat' (first|(apply bRx<;>intro h<;>try exact aX)|exact rOx [0,1,2,3] (a0b a0c))
def nS (s:BA) (e w:Int):BA:=if e=0 then s.extract (nuC s w).toNat s.size else s
def nE (s:BA) (e w:Int):Int:=if e=0 then nuE s w else e
def nV (s:BA) (e w:Int):Int:=if e=0 then nuV s w else 0
theorem d1i (s:BA) (e w:Int) (hs:s.size<=9223372036854775000):FC prog 2 208 [.ptr 1 0 0 0,.i w] [(1,rdB s e)] (a0g (.i (nV s e w)) [(1,rdB (nS s e w) (nE s e w))] 2):=by
 unfold nS nE nV;by_cases he:e=0
 .subst he;have c:=q0I s w hs;have c0:=c;let l:=[0,1,2,3];let R:=[0,1];exact Wx func208
 .have c:=m0U s e 243 he;rw [if_neg he,if_neg he,if_neg he];have c1:=c;let l:=[0,1,2,3];let R:=[0,1];exact Wx func208
theorem d1j (s:BA):FC prog 1 206 [.str s] [] (a0g (.ptr 1 0 0 0) [(1,rdB s 0)] 2):=by
 let l:=[0,1];exact Wx func206
theorem l1s (s:BA) (e:Int):FC prog 2 210 [.ptr 1 0 0 0] [(1,rdB s e)] (a0g (.i s.size) [(1,rdB s e)] 2):=by
 let l:=[0,1];exact Wx func210
theorem o0V (s:BA) (e:Int):FC prog 2 209 [.ptr 1 0 0 0] [(1,rdB s e)] (a0g (.i e) [(1,rdB s e)] 2):=by
 let l:=[0,1];exact Wx func209
theorem l1t {s:BA}:s.extract 0 s.size=s:=by simp
theorem o1p {a b:BA} (h:seq a b=true):a=b:=by
 simpa [seq] using h
def tkE (s:BA) (w:Int):Int:=if w<0 then 4 else if (s.size:Int)<w then 1 else 0
def tkS (s:BA) (w:Int):BA:=if tkE s w=0 then s.extract 0 w.toNat else ⟨#[]⟩
def e1W (e w:Int):Int:=if e=0 then w else 0
theorem h0d (s:BA) (w:Int):(tkE s w=4/\w<0)\/(0<=w/\((tkE s w=1/\(s.size:Int)<w)\/(tkE s w=0/\w<=(s.size:Int)))):=by
 unfold tkE;omega
theorem x0s {s:BA} {w:Int} (h:tkE s w=0):tkS s w=s.extract 0 w.toNat:=by unfold tkS;simp_all
theorem j1a {s:BA} {w:Int} (h:tkE s w≠0):tkS s w=⟨#[]⟩:=by unfold tkS;simp_all
attribute [irreducible] tkE tkS
theorem z0q (s:BA) (w:Int) (hs:s.size<=9223372036854775000):FC prog 3 242 [.str s,.ptr 1 0 0 0,.ptr 2 0 0 0] [(1,some (.one true (.cells [.i w]))),(2,some (.one false (.cells [.str ⟨#[]⟩])))]
  (a0g (.tup [.i (e1W (tkE s w) w),.i (tkE s w)]) [(2,some (.one false (.cells [.str (tkS s w)])))] 3):=by
 rcases h0d s w with ⟨e1,h⟩|⟨h1,⟨e1,h⟩|⟨e1,h⟩⟩
 .rw [j1a oM,e1,show e1W 4 w=0 from rfl];let l:=[0,1,2];exact Wx func242
 .rw [j1a oM,e1,show e1W 1 w=0 from rfl];let l:=[0,1,2];exact Wx func242
 .rw [x0s e1,e1,show e1W 0 w=w from rfl];let l:=[0,1,2];exact Wx func242
theorem z0r {F:Nat} {s V:BA} {w E:Int} (hw:E=0->0<=w/\w<=(s.size:Int)) (c:FC prog 3 F [.str s,.ptr 1 0 0 0,.ptr 2 0 0 0] [(1,some (.one true (.cells [.i w]))),(2,some (.one false (.cells [.str ⟨#[]⟩])))]
  (a0g (.tup [.i (e1W E w),.i E]) [(2,some (.one false (.cells [.str V])))] 3)):
  FC prog 4 241 [.ptr 1 0 0 0,.fn F [.ptr 2 0 0 0,.ptr 3 0 0 0]] [(1,rdB s 0),(2,some (.one true (.cells [.i w]))),(3,some (.one false (.cells [.str ⟨#[]⟩])))]
  (a0g (.tup []) [(1,rdB (s.extract (e1W E w).toNat s.size) E),(3,some (.one false (.cells [.str V])))] 4):=by
 by_cases e1:E=0
 .subst e1;have hw':=hw rfl;rw [show e1W 0 w=w from rfl] at c⊢;have c0:=c;let l:=[0,2,3];let R:=[0,1,2,3];exact Wx func241
 .rw [show e1W E w=0 by unfold e1W;rw [if_neg e1]] at c⊢;rw [show s.extract (Int.toNat 0) s.size=s from by simp];refine fEx func241 ?_;repeat' ((conv=>whnf);first|refine cOx (l:= [0,2,3]) c ?_|refine a0a ?_|(apply bRx<;>intro h<;>try exact aX)|exact rOx [0,1,2,3] (a0b (a0b a0c))|(exfalso;exact e1 (by assumption)))
def tS (s:BA) (e E w:Int):BA:=if e=0 then s.extract (e1W E w).toNat s.size else s
def tE (e E:Int):Int:=if e=0 then E else e
def tV (e:Int) (V:BA):BA:=if e=0 then V else ⟨#[]⟩
theorem v0f (s:BA) (e w:Int) (hs:s.size<=9223372036854775000):FC prog 2 207 [.ptr 1 0 0 0,.i w] [(1,rdB s e)] (a0g (.str (tV e (tkS s w))) [(1,rdB (tS s e (tkE s w) w) (tE e (tkE s w)))] 2):=by
 unfold tS tE tV;by_cases he:e=0
 .subst he;have c:=z0r (E:=tkE s w) (w:=w) (fun h=>by
   all_goals grind [h0d]) (z0q s w hs)
  have c0:=c;let l:=[0,1,2,3];let R:=[0,1];exact Wx func207
 .have c:=m0U s e 242 he;rw [if_neg he,if_neg he,if_neg he];have c1:=c;let l:=[0,1,2,3];let R:=[0,1];exact Wx func207
def hxS (h:Int):BA:=a0m (a1e (j0R h) 8)
theorem f0r (h:Int):(hxS h).size=16:=by rfl
attribute [irreducible] hxS
def j1b:BA:=⟨#[46]⟩
def v0g:BA:=⟨#[43]⟩
theorem b0B (a b:BA):(a++b).size=a.size+b.size:=by simp
theorem s0P {n w:Nat} (h:g0t n w):(d0c n w).size=w:=by rw [v0d h,b0w,a0H,u0f]
theorem o1q {n:Nat} (h:n<10000):g0t n (4:Nat):=⟨by omega,by omega,by omega,by simp_all [j0V]⟩
theorem o1r {n:Nat} (h:n<100):g0t n (2:Nat):=⟨by omega,by omega,by omega,by simp_all [j0V]⟩
theorem d0d {n:Nat} (h:n<10000):(d0c n 4).size=4:=s0P (o1q h)
theorem e0Q {n:Nat} (h:n<100):(d0c n 2).size=2:=s0P (o1r h)
def stK (g:List BA):Nat->BA
 |0=>⟨#[]⟩
 |k+1=>stK g k++(d0c (g.getD k ⟨#[]⟩).size 4++g.getD k ⟨#[]⟩)
def a0x:List BA->BA
 | []=>⟨#[]⟩
 |r::l=>(d0c r.size 4++r)++a0x l
theorem s0Q (a:BA):(⟨#[]⟩:BA)++a=a:=by rfl
theorem l1u (a:BA):a++(⟨#[]⟩:BA)=a:=by apply g0r;simp
theorem x0t (r:BA) (l:List BA):∀k,stK (r::l) (k+1)=(d0c r.size 4++r)++stK l k
 |0=>by simp_all [stK,s0Q,l1u]
 |k+1=>by
  rw [stK,x0t r l k];simp only [stK,t1q,t1O]
theorem d0K:∀g:List BA,stK g g.length=a0x g
 | []=>rfl
 |r::l=>by rw [i1y,x0t,d0K l];rfl
def okR (g:List BA):Prop:=∀r∈g,r.size<=4000
def e0e (g:List BA):Nat->Nat
 |0=>0
 |k+1=>e0e g k+(4+(g.getD k ⟨#[]⟩).size)
theorem m0V {g:List BA} (h:okR g) (i:Nat):(g.getD i ⟨#[]⟩).size<=4000:=by
 rcases i1B i g.length with hi|hi
 .rw [List.getD,m0b hi];exact h _ (k1j hi)
 .rw [List.getD,a1X hi];decide
theorem f0s {g:List BA} (h:okR g):∀k,(stK g k).size=e0e g k
 |0=>rfl
 |k+1=>by
  have:=m0V h k;rw [stK,e0e,b0B,b0B,d0d oM,f0s h k]
theorem o0W {g:List BA} (h:okR g):∀k,e0e g k<=4004*k
 |0=>m0c _
 |k+1=>by
  have:=m0V h k;have:=o0W h k;simp only [e0e];omega
theorem x0u {g:List BA}:∀k,4*k<=e0e g k
 |0=>m0c _
 |k+1=>by have:=x0u (g:=g) k;simp only [e0e];omega
def rsT (s:BA) (k:Nat):BA:=s.extract (45*k) s.size
def k0I (r:BA):BA:=(if r.size<=45 then j1b else v0g)++d0c (min r.size 45:Nat) 2++r.extract 0 (min r.size 45)
def hK (p:Int) (s:BA):Nat->Int
 |0=>p
 |k+1=>chI (hK p s k) (k0I (rsT s k))
def bK (p:Int) (s:BA) (k:Nat):BA:=hxS (hK p s (k+1))++k0I (rsT s k)
def bkL (p:Int) (s:BA) (k:Nat):List BA:=(List.range k).map (bK p s)
def d0k (s:BA):Nat:=(s.size+44)/45
theorem k0V (p:Int) (s:BA) (k:Nat):bkL p s (k+1)=bkL p s k++ [bK p s k]:=by simp [bkL,t1U]
theorem d1k (p:Int) (s:BA) {k i:Nat} (h:i<k):(bkL p s k).getD i ⟨#[]⟩=bK p s i:=by simp [bkL,h]
theorem o1s {p:Int} (hp:0<=p/\p<18446744073709551616) (s:BA):∀k,0<=hK p s k/\hK p s k<18446744073709551616
 |0=>hp
 |k+1=>m0H _ _
theorem k0W (s:BA) (k:Nat):(rsT s k).size=s.size-45*k:=by simp [rsT]
theorem x0v (s:BA):rsT s 0=s:=by unfold rsT;simp
theorem k0X (s:BA) (k:Nat):(rsT s k).extract (min (rsT s k).size 45) (rsT s k).size=rsT s (k+1):=by
 rw [k0W];apply g0r;unfold rsT;simp only [s1U,s1m,s1e];apply s1P;intro i;simp only [r1T,s1k];by_cases h:45*(k+1)+i<s.size
 .rw [if_pos oM,if_pos oM,if_pos oM];congr 1;omega
 .by_cases h2:i<s.size-45*k-min (s.size-45*k) 45
  .omega
  .rw [if_neg h2,if_neg oM]
theorem e0R {r:BA}:(k0I r).size=3+min r.size 45:=by
 unfold k0I;rw [b0B,b0B,e0Q oM,r1V];split<;>(show 1+2+_=_;omega)
theorem l1v (p:Int) (s:BA) (k:Nat):(bK p s k).size=19+min (s.size-45*k) 45:=by
 grind [bK,f0r,e0R,k0W]
end
section
theorem f0t (p:Int):a0K prog 130 [.int .u64 p] (.str (hxS p)):=by
 have c1:=g1W (j0R p) (by rw [d0Z];omega);rw [d0Z] at c1;unfold hxS;refine fEx func130 ?_;repeat' ((conv=>whnf);first|refine a0a ?_|(apply bRx<;>intro h<;>try exact aX))
 all_goals (conv=>whnf)
 refine a0h (fun k:Nat=>⟨[(0,.int .u64 p),(3,.ptr 1 0 0 0),(5,.i k)],[(1,some (.one false (.cols 8 [.sc (.ints .u8 (beZ p k))])))],2⟩) (fun k=>k<=8) (fun k=>8-k) 0 [0,1] [] wHx oM ?_;intro k hk;by_cases hlt:k<8
 .have e:=w0O hlt;repeat' ((conv=>whnf);first|(refine a0f (show 0<=i64.wrap (56-i64.wrap (8*(k:Int))) from ?_) ?_;(rw [e];omega))|refine a0a ?_|(apply bRx<;>intro h<;>try exact aX))
  all_goals (conv=>whnf)
  .refine ⟨k+1,[0,1],[],by omega,by omega,⟨rfl,⟨rfl,rfl,sI (a0u oM),trivial⟩,⟨?_,trivial⟩⟩⟩;refine congrArg (fun z=>some (HB.one false (.cols 8 [.sc (.ints .u8 z)]))) ?_;show (beZ p k).set k (u8.wrap (i0b .u64 p (i64.wrap (56-i64.wrap (8*(k:Int))))))=_;rw [e];exact c1n p k hlt
 .have e:k=8:=oM
  subst e;rw [show beZ p 8=beL p 8 from c1o p];have e8:a0m (seg 0 8 (beL p 8))=j0R p:=by
   unfold seg j0R;rw [s1r,s1A (by rw [b0m];exact m0c _)]
  rw [<-e8] at c1;repeat' ((conv=>whnf);first|refine cPx c1 ?_|refine a0a ?_|(apply bRx<;>intro h<;>try exact aX)|exact a0e (by rw [e8];rfl))
def grB (n:Nat) (g:List BA):Option HB:=some (.one true (.cols n [.sc (.strs g)]))
def grW (n:Nat) (g:List BA):Option HB:=some (.one false (.cols n [.sc (.strs g)]))
def d0A (g:List BA):Nat->Bool
 |0=>false
 |k+1=>d0A g k||decide (4000<(g.getD k ⟨#[]⟩).size)
def f0G (g:List BA):Int:=if g.length=0 then 8 else if 256<g.length then 12 else if d0A g g.length=true then 3 else 0
theorem z0s {g:List BA} {k n:Nat} (h:k<n) (hc:4000<(g.getD k ⟨#[]⟩).size):d0A g n=true:=by
 induction n with
 |zero=>omega
 |succ n ih=>
  simp only [d0A];grind
theorem m0W {g:List BA} {n:Nat} (h:d0A g n=false):∀k,k<n->(g.getD k ⟨#[]⟩).size<=4000:=by
 all_goals grind [z0s]
theorem x0w {g:List BA} (h:d0A g g.length=false):okR g:=by
 intro r hr;obtain ⟨i,hi,rfl⟩:=s1B hr;have:=m0W h i hi
 simp_all
theorem q0J {g:List BA} (h:okR g):∀k,d0A g k=false
 |0=>rfl
 |k+1=>by
  simp only [d0A,q0J h k,u1N,decide_eq_false_iff_not];have:=m0V h k;omega
theorem h0e {r:BA} (h:r.size<=4000):(d0c r.size 4++r).size=4+r.size:=by rw [b0B,d0d oM]
theorem o0X {g:List BA}:∀{k:Nat},(∀i,i<k->(g.getD i ⟨#[]⟩).size<=4000)->(stK g k).size<=4004*k
 |0,_=>m0c _
 |k+1,h=>by
  have h2:=o0X (k:=k) (fun i hi=>h i oM);grind [stK,h0e]
def q1E (p:Int) (n:Nat) (g:List BA):Nat->VS
 |0=>⟨[(0,.int .u64 p),(7,.ptr 2 0 0 0),(25,.sl 1 0 0 n),(26,.i n),(27,.i 0)],[(0,some (GB glT)),(1,grB n g),(2,c1E)],3⟩
 |k+1=>⟨[(0,.int .u64 p),(7,.ptr 2 0 0 0),(25,.sl 1 0 0 n),(26,.i n),(27,.i (k+1:Nat))],[(0,some (GB glT)),(1,grB n g),(2,k0B 3 (stK g (k+1)).size),(3,f0I (stK g (k+1)))],4⟩
theorem d1l (p:Int) (g:List BA) (n:Nat) (hn:g.length=n) (he:f0G g≠0) (hm:n<=maxLen):FC prog 2 82 [.int .u64 p,.sl 1 0 0 n] [(0,some (GB glT)),(1,grB n g)] (a0g (.tup [.nsl,.int .u64 0,.i (f0G g)]) [] 2):=by
 unfold maxLen at hm;by_cases h0:n=0
 .rw [show f0G g=8 by unfold f0G;rw [if_pos oM]];let l:=[0,1];exact Wx func82
 .by_cases h1:256<n
  .rw [show f0G g=12 by unfold f0G;rw [if_neg oM,if_pos oM]];let l:=[0,1];exact Wx func82
  .have hl:d0A g g.length=true:=by
    cases h:d0A g g.length with
    |true=>rfl
    |false=>exact absurd (show f0G g=0 by unfold f0G;rw [if_neg oM,if_neg oM,h];rfl) he
   rw [show f0G g=3 by unfold f0G;rw [if_neg oM,if_neg oM,if_pos hl]];refine fEx func82 ?_;repeat' ((conv=>whnf);first|refine a0a ?_|(apply bRx<;>intro h<;>try exact aX))
   all_goals (conv=>whnf)
   refine a0h (q1E p n g) (fun k=>k<=n/\d0A g k=false) (fun k=>n-k) 0 [0,1,2] [] wHx ⟨by omega,rfl⟩ ?_;rintro k ⟨hk,hf⟩;have hlk:k=n->False:=fun e=>by rw [e,<-hn,hl] at hf;cases hf
   have hlt:k<n:=by
    rcases i1B k n with h|h
    .exact h
    .exact (hlk oM).elim
   cases k with
   |zero=>
    by_cases hbig:4000<(g.getD 0 ⟨#[]⟩).size
    .repeat' ((conv=>whnf);first|refine a0a ?_|(apply bRx<;>intro h<;>try exact aX)|exact rOx [0,1] a0c|(exfalso;rename_i h;have h':¬((4000:Int)<((g.getD 0 ⟨#[]⟩).size:Int)):=h;omega))
    .have rs:=h0e (r:=g.getD 0 ⟨#[]⟩) oM;have ns:=d0d (n:=(g.getD 0 ⟨#[]⟩).size) oM;have c1:=h0a (g.getD 0 ⟨#[]⟩).size 4 oM;have c2:=j0U (d0c (g.getD 0 ⟨#[]⟩).size 4++g.getD 0 ⟨#[]⟩) oM oM;have fs:d0A g 1=false:=by simp only [d0A,u1N,decide_eq_false_iff_not];exact hbig
     have e1:stK g (0+1)=d0c (g.getD 0 ⟨#[]⟩).size 4++g.getD 0 ⟨#[]⟩:=s0Q _;repeat' ((conv=>whnf);first|refine cGx c1 ?_|refine cOx (l:= [0,2]) c2 ?_|(refine a0f (show (d0c (g.getD 0 ⟨#[]⟩).size 4).size+(g.getD 0 ⟨#[]⟩).size<=9223372036854775807 from by omega) ?_)|refine a0a ?_|(apply bRx<;>intro h<;>try exact aX)|(exfalso;rename_i h;have h':(4000:Int)<((g.getD 0 ⟨#[]⟩).size:Int):=h;omega)|(refine ⟨1,[0,1,2,3],[],⟨by omega,fs⟩,by omega,⟨rfl,rX,⟨gwk rfl,rfl,?_,?_,trivial⟩⟩⟩<;>(rw [e1];rfl)))
   |succ k=>
    by_cases hbig:4000<(g.getD (k+1) ⟨#[]⟩).size
    .repeat' ((conv=>whnf);first|refine a0a ?_|(apply bRx<;>intro h<;>try exact aX)|exact rOx [0,1] a0c|(exfalso;rename_i h;have h':¬((4000:Int)<((g.getD (k+1) ⟨#[]⟩).size:Int)):=h;omega)|exact aX)
    .have rs:=h0e (r:=g.getD (k+1) ⟨#[]⟩) oM;have ok:∀i,i<k+1->(g.getD i ⟨#[]⟩).size<=4000:=m0W hf;have sz:=o0X ok;have ns:=d0d (n:=(g.getD (k+1) ⟨#[]⟩).size) oM;have c1:=h0a (g.getD (k+1) ⟨#[]⟩).size 4 oM;have c2:=o0O (stK g (k+1)) (d0c (g.getD (k+1) ⟨#[]⟩).size 4++g.getD (k+1) ⟨#[]⟩) oM oM;have fs:d0A g (k+1+1)=false:=by simp only [d0A];rw [show (d0A g k||decide (4000<(g.getD k ⟨#[]⟩).size))=false from hf,u1N,decide_eq_false_iff_not];exact hbig
     repeat' ((conv=>whnf);first|refine cGx c1 ?_|refine cOx (l:= [0,2,3]) c2 ?_|(refine a0f (show (d0c (g.getD (k+1) ⟨#[]⟩).size 4).size+(g.getD (k+1) ⟨#[]⟩).size<=9223372036854775807 from by omega) ?_)|refine a0a ?_|(apply bRx<;>intro h<;>try exact aX)|(exfalso;rename_i h;have h':(4000:Int)<((g.getD (k+1) ⟨#[]⟩).size:Int):=h;omega)|exact ⟨k+1+1,[0,1,2,4],[],⟨by omega,fs⟩,by omega,⟨rfl,⟨rfl,rfl,rfl,rfl,sI (a0u oM),trivial⟩,⟨gwk rfl,rfl,rfl,rfl,trivial⟩⟩⟩)
attribute [local irreducible] rsT
theorem o1t (p:Int) (g:List BA) (n:Nat) (hn:g.length=n) (he:f0G g=0):FC prog 2 82 [.int .u64 p,.sl 1 0 0 n] [(0,some (GB glT)),(1,grB n g)] (a0g (.tup [.sl 2 0 0 (d0k (a0x g)),.int .u64 (hK p (a0x g) (d0k (a0x g))),.i 0]) [(2,grW (d0k (a0x g)) (bkL p (a0x g) (d0k (a0x g))))] 3):=by
 have hc:n≠0/\¬256<n/\d0A g g.length=false:=by
  unfold f0G at he;by_cases h0:g.length=0
  .rw [if_pos h0] at he;omega
  .rw [if_neg h0] at he;by_cases h1:256<g.length
   .rw [if_pos h1] at he;omega
   .rw [if_neg h1] at he;refine ⟨by omega,by omega,?_⟩;cases h:d0A g g.length with
    |false=>rfl
    |true=>rw [if_pos h] at he;omega
 obtain ⟨h0,h1,hlf⟩:=hc;have hok:=x0w hlf;have ok:∀i,(g.getD i ⟨#[]⟩).size<=4000:=m0V hok;refine fEx func82 ?_;repeat' ((conv=>whnf);first|refine a0a ?_|(apply bRx<;>intro h<;>try exact aX))
 all_goals (conv=>whnf)
 refine a0h (q1E p n g) (fun k=>k<=n) (fun k=>n-k) 0 [0,1,2] [] wHx oM ?_;intro k hk;by_cases hlt:k<n
 .cases k with
  |zero=>
   have hbig:=ok 0;have rs:=h0e (r:=g.getD 0 ⟨#[]⟩) oM;have ns:=d0d (n:=(g.getD 0 ⟨#[]⟩).size) oM;have c1:=h0a (g.getD 0 ⟨#[]⟩).size 4 oM;have c2:=j0U (d0c (g.getD 0 ⟨#[]⟩).size 4++g.getD 0 ⟨#[]⟩) oM oM;have e1:stK g (0+1)=d0c (g.getD 0 ⟨#[]⟩).size 4++g.getD 0 ⟨#[]⟩:=s0Q _;repeat' ((conv=>whnf);first|refine cGx c1 ?_|refine cOx (l:= [0,2]) c2 ?_|(refine a0f (show (d0c (g.getD 0 ⟨#[]⟩).size 4).size+(g.getD 0 ⟨#[]⟩).size<=9223372036854775807 from by omega) ?_)|refine a0a ?_|(apply bRx<;>intro h<;>try exact aX)|(exfalso;rename_i h;have h':(4000:Int)<((g.getD 0 ⟨#[]⟩).size:Int):=h;omega)|(refine ⟨1,[0,1,2,3],[],by omega,by omega,⟨rfl,rX,⟨gwk rfl,rfl,?_,?_,trivial⟩⟩⟩<;>(rw [e1];rfl)))
  |succ k=>
   have hbig:=ok (k+1);have rs:=h0e (r:=g.getD (k+1) ⟨#[]⟩) oM;have ns:=d0d (n:=(g.getD (k+1) ⟨#[]⟩).size) oM;have sz:=o0X (g:=g) (k:=k+1) (fun i _=>ok i);have c1:=h0a (g.getD (k+1) ⟨#[]⟩).size 4 oM;have c2:=o0O (stK g (k+1)) (d0c (g.getD (k+1) ⟨#[]⟩).size 4++g.getD (k+1) ⟨#[]⟩) oM oM;repeat' ((conv=>whnf);first|refine cGx c1 ?_|refine cOx (l:= [0,2,3]) c2 ?_|(refine a0f (show (d0c (g.getD (k+1) ⟨#[]⟩).size 4).size+(g.getD (k+1) ⟨#[]⟩).size<=9223372036854775807 from by omega) ?_)|refine a0a ?_|(apply bRx<;>intro h<;>try exact aX)|(exfalso;rename_i h;have h':(4000:Int)<((g.getD (k+1) ⟨#[]⟩).size:Int):=h;omega)|exact ⟨k+1+1,[0,1,2,4],[],by omega,by omega,⟨rfl,⟨rfl,rfl,rfl,rfl,sI (a0u oM),trivial⟩,⟨gwk rfl,rfl,rfl,rfl,trivial⟩⟩⟩)
 .obtain ⟨m,rfl⟩:∃m,k=m+1:=⟨k-1,by omega⟩;have e:m+1=n:=oM
  have es:stK g (m+1)=a0x g:=by rw [<-d0K g,hn,e]
  have sz:=o0X (g:=g) (k:=m+1) (fun i _=>ok i);have s0:0<(a0x g).size:=by rw [<-es];have:=x0u (g:=g) (m+1);rw [f0s hok];omega
  rw [es] at sz;have c3:=e0P (a0x g) s0;rw [show q1E p n g (m+1)=⟨[(0,.int .u64 p),(7,.ptr 2 0 0 0),(25,.sl 1 0 0 n),(26,.i n),(27,.i (m+1:Nat))],[(0,some (GB glT)),(1,grB n g),(2,k0B 3 (a0x g).size),(3,f0I (a0x g))],4⟩ from by rw [<-es];rfl];repeat' ((conv=>whnf);first|refine cOx (l:= [0,2,3]) c3 ?_|refine a0a ?_|(apply bRx<;>intro h<;>try exact aX))
  all_goals (conv=>whnf)
  all_goals first
   |exact aX
   |skip
  have hsz:(a0x g).size<=1100000:=oM
  refine a0h (fun k:Nat=>⟨[(0,.int .u64 (hK p (a0x g) k)),(12,.sl 2 0 0 k),(13,.str (rsT (a0x g) k))],[(0,some (GB glT)),(1,grB n g),(2,grW k (bkL p (a0x g) k))],3⟩) (fun k=>k<=d0k (a0x g)) (fun k=>d0k (a0x g)-k) 0 [0,1,4] [.slot 12 [.sc (.strs [])]] (wEx ⟨rfl,rfl,?_,trivial⟩) (b1f _) ?_
  .rw [x0v];rfl
  intro k hk;have hrz:=k0W (a0x g) k;by_cases hlt:k<d0k (a0x g)
  .have hpos:0<(rsT (a0x g) k).size:=by unfold d0k at hlt;omega
   by_cases h45:(rsT (a0x g) k).size<=45
   .have emn:min (rsT (a0x g) k).size 45=(rsT (a0x g) k).size:=oM
    have eb:((⟨#[46]⟩:BA)++d0c (((rsT (a0x g) k).size:Nat)) 2)++(rsT (a0x g) k).extract 0 ((rsT (a0x g) k).size)=k0I (rsT (a0x g) k):=by
     unfold k0I;rw [emn,if_pos h45];rfl
    have n2:(d0c (((rsT (a0x g) k).size:Nat)) 2).size=2:=e0Q (n:=(rsT (a0x g) k).size) oM;have bz:=e0R (r:=rsT (a0x g) k);have xz:((rsT (a0x g) k).extract 0 ((rsT (a0x g) k).size)).size=(rsT (a0x g) k).size:=h0b oM;have e2:chI (hK p (a0x g) k) (((⟨#[46]⟩:BA)++d0c (((rsT (a0x g) k).size:Nat)) 2)++(rsT (a0x g) k).extract 0 ((rsT (a0x g) k).size))=hK p (a0x g) (k+1):=by rw [eb];rfl
    have c1:=h0a (((rsT (a0x g) k).size:Nat)) 2 oM;have c2:=e0N (hK p (a0x g) k) (((⟨#[46]⟩:BA)++d0c (((rsT (a0x g) k).size:Nat)) 2)++(rsT (a0x g) k).extract 0 ((rsT (a0x g) k).size)) (by rw [eb];omega);rw [e2] at c2;have c4:=f0t (hK p (a0x g) (k+1));have m1:(⟨#[46]⟩:BA).size=1:=rfl;have k1:(⟨#[46]⟩:BA).size+(d0c (((rsT (a0x g) k).size:Nat)) 2).size<=9223372036854775807:=oM
    have k2:((⟨#[46]⟩:BA)++d0c (((rsT (a0x g) k).size:Nat)) 2).size+((rsT (a0x g) k).extract 0 ((rsT (a0x g) k).size)).size<=9223372036854775807:=by rw [b0B];omega
    have k3:(hxS (hK p (a0x g) (k+1))).size+(((⟨#[46]⟩:BA)++d0c (((rsT (a0x g) k).size:Nat)) 2)++(rsT (a0x g) k).extract 0 ((rsT (a0x g) k).size)).size<=9223372036854775807:=by rw [eb,f0r];omega
    repeat' ((conv=>whnf);first|refine cGx c1 ?_|refine cPx c2 ?_|refine cPx c4 ?_|refine a0f k1 ?_|refine a0f k2 ?_|refine a0f k3 ?_|refine a0a ?_|(apply bRx<;>intro h<;>try exact aX))
    all_goals (conv=>whnf)
    all_goals first
     |(exfalso;rename_i h;rw [h] at hpos;exact absurd hpos dC)
     |skip
    have er:some (SV.str ((rsT (a0x g) k).extract (rsT (a0x g) k).size (rsT (a0x g) k).size))=some (SV.str (rsT (a0x g) (k+1))):=by
     have:=k0X (a0x g) k;rw [emn] at this;rw [this]
    refine ⟨k+1,[0,1,4],[],by omega,by omega,⟨rfl,⟨rfl,rfl,er,trivial⟩,⟨gwk rfl,rfl,?_,trivial⟩⟩⟩;rw [k0V];unfold bK;rw [<-eb];rfl
   .have emn:min (rsT (a0x g) k).size 45=45:=oM
    have eb:((⟨#[43]⟩:BA)++d0c (45) 2)++(rsT (a0x g) k).extract 0 (45)=k0I (rsT (a0x g) k):=by
     unfold k0I;rw [emn,if_neg h45];rfl
    have n2:(d0c (45) 2).size=2:=e0Q (n:=45) oM;have bz:=e0R (r:=rsT (a0x g) k);have xz:((rsT (a0x g) k).extract 0 (45)).size=45:=h0b oM;have e2:chI (hK p (a0x g) k) (((⟨#[43]⟩:BA)++d0c (45) 2)++(rsT (a0x g) k).extract 0 (45))=hK p (a0x g) (k+1):=by rw [eb];rfl
    have c1:=h0a (45) 2 oM;have c2:=e0N (hK p (a0x g) k) (((⟨#[43]⟩:BA)++d0c (45) 2)++(rsT (a0x g) k).extract 0 (45)) (by rw [eb];omega);rw [e2] at c2;have c4:=f0t (hK p (a0x g) (k+1));have m1:(⟨#[43]⟩:BA).size=1:=rfl;have k1:(⟨#[43]⟩:BA).size+(d0c (45) 2).size<=9223372036854775807:=oM
    have k2:((⟨#[43]⟩:BA)++d0c (45) 2).size+((rsT (a0x g) k).extract 0 (45)).size<=9223372036854775807:=by rw [b0B];omega
    have k3:(hxS (hK p (a0x g) (k+1))).size+(((⟨#[43]⟩:BA)++d0c (45) 2)++(rsT (a0x g) k).extract 0 (45)).size<=9223372036854775807:=by rw [eb,f0r];omega
    repeat' ((conv=>whnf);first|refine cGx c1 ?_|refine cPx c2 ?_|refine cPx c4 ?_|refine a0f k1 ?_|refine a0f k2 ?_|refine a0f k3 ?_|refine a0a ?_|(apply bRx<;>intro h<;>try exact aX))
    all_goals (conv=>whnf)
    all_goals first
     |(exfalso;rename_i h;rw [h] at hpos;exact absurd hpos dC)
     |skip
    have er:some (SV.str ((rsT (a0x g) k).extract 45 (rsT (a0x g) k).size))=some (SV.str (rsT (a0x g) (k+1))):=by
     have:=k0X (a0x g) k;rw [emn] at this;rw [this]
    refine ⟨k+1,[0,1,4],[],by omega,by omega,⟨rfl,⟨rfl,rfl,er,trivial⟩,⟨gwk rfl,rfl,?_,trivial⟩⟩⟩;rw [k0V];unfold bK;rw [<-eb];rfl
  .have ek:k=d0k (a0x g):=oM
   have hz:(rsT (a0x g) k).size=0:=by rw [hrz];unfold d0k at ek;omega
   have he0:rsT (a0x g) k=⟨#[]⟩:=by
    apply g0r;have:(rsT (a0x g) k).data.toList.length=0:=by simpa using hz
    rw [s1D this]
   rw [he0];subst ek;let l:=[0,1,2];exact Vx
end
section
def unP (b:BA):BA:=b.extract 19 b.size
def unR (b:BA):BA:=b.extract 16 b.size
def unM (b:BA):BA:=(unR b).extract 0 1
def unD (b:BA):BA:=(unR b).extract 1 (unR b).size
def m0X (p:Int) (b:BA):Prop:=19<b.size/\b.extract 0 16=hxS (chI p (unR b))/\nuE (unD b) 2=0/\nuV (unD b) 2=((unP b).size:Int)/\(unP b).size<=45/\(unM b=j1b\/(unM b=v0g/\(unP b).size=45))
attribute [local irreducible] seq ByteArray.extract
instance (p:Int) (b:BA):Decidable (m0X p b):=by unfold m0X;infer_instance
def j0b (b:BA):Bool:=seq (unM b) j1b
theorem e0p {b:BA} (h:19<b.size):(unR b).size=b.size-16:=by simp [unR]
theorem j0c {b:BA} (h:19<b.size):(unP b).size=b.size-19:=by simp [unP]
theorem o1u {a b:BA} (h:a≠b):seq a b=false:=by
 cases e:seq a b with
 |false=>rfl
 |true=>exact absurd (o1p e) h
theorem g1Z (a:BA):seq a a=true:=by simp [seq]
def unV (p:Int) (b:BA):SV:= .tup [.str (unP b),.bool (j0b b),.int .u64 (chI p (unR b)),.bool true]
def unN:SV:= .tup [.str ⟨#[]⟩,.bool false,.int .u64 0,.bool false]
theorem z0t (p:Int) (b:BA) (hs:b.size<=9223372036854775000) (h:m0X p b):a0K prog 168 [.int .u64 p,.str b] (unV p b):=by
 obtain ⟨h1,h2,h3,h4,h5,h6⟩:=h;have zr:=e0p h1;have zp:=j0c h1;have c1:=e0N p (unR b) oM;have c2:=f0t (chI p (unR b));have c3:=d1j (unR b);have c4:=v0f (unR b) 0 1 oM;have t0:tkE (unR b) 1=0:=by rcases h0d (unR b) 1 with ⟨_,h⟩|⟨_,⟨_,h⟩|⟨h,_⟩⟩<;>omega
 have t1:tV 0 (tkS (unR b) 1)=unM b:=by rw [x0s t0];rfl
 have t2:tS (unR b) 0 (tkE (unR b) 1) 1=unD b:=by unfold tS;rw [if_pos rfl,t0];rfl
 have t3:tE 0 (tkE (unR b) 1)=0:=by rw [t0];rfl
 rw [t1,t2,t3] at c4;have c5:=d1i (unD b) 0 2 (by unfold unD;rw [r1V];omega);have n1:nV (unD b) 0 2=((unP b).size:Int):=by unfold nV;rw [if_pos rfl,h4]
 have n2:nE (unD b) 0 2=0:=by unfold nE;rw [if_pos rfl,h3]
 rw [n1,n2] at c5;have c6:=o0V (nS (unD b) 0 2) 0;rw [<-h2] at c2;obtain ⟨V,hV⟩:∃V,((unP b).size:Int)=V:=⟨_,rfl⟩;have hp5:¬((45:Int)<V):=oM
 rw [hV] at c5;unfold unV j0b;have hD:unM b≠j1b->unM b=v0g/\V=45:=fun hn=>by
  rcases h6 with h6|⟨h6,h7⟩
  .exact absurd h6 hn
  .exact ⟨h6,by omega⟩
 refine fEx func168 ?_;repeat' ((conv=>whnf);first|refine cPx c1 ?_|refine cPx c2 ?_|refine cOx (l:= [0]) c3 ?_|refine cOx (l:= [0,1]) c4 ?_|refine cOx (l:= [0,1]) c5 ?_|refine cOx (l:= [0,1]) c6 ?_|((first|apply w0o|apply q0b)<;>intro h<;>(try first|(exfalso;exact h rfl)|(exfalso;exact absurd h dC)))|refine a0a ?_|(apply bRx<;>intro h<;>try exact aX)|exact a0e rfl|(exfalso;rename_i h;exact h rfl)|(exfalso;rename_i h;exact hp5 h)|(exfalso;rename_i h;exact h hV.symm)|(exfalso;rename_i h1;exact h (hD h1).1)|(exfalso;rename_i h1 _;exact h (hD h1).2))
theorem q0K (p:Int) (b:BA) (hs:b.size<=9223372036854775000) (h:¬m0X p b):a0K prog 168 [.int .u64 p,.str b] unN:=by
 unfold unN;by_cases h1:19<b.size
 .have zr:=e0p h1;have zp:=j0c h1;have c1:=e0N p (unR b) oM;have c2:=f0t (chI p (unR b));by_cases h2:b.extract 0 16=hxS (chI p (unR b))
  .rw [<-h2] at c2;have c3:=d1j (unR b);have c4:=v0f (unR b) 0 1 oM;have t0:tkE (unR b) 1=0:=by rcases h0d (unR b) 1 with ⟨_,h⟩|⟨_,⟨_,h⟩|⟨h,_⟩⟩<;>omega
   have t1:tV 0 (tkS (unR b) 1)=unM b:=by rw [x0s t0];rfl
   have t2:tS (unR b) 0 (tkE (unR b) 1) 1=unD b:=by unfold tS;rw [if_pos rfl,t0];rfl
   have t3:tE 0 (tkE (unR b) 1)=0:=by rw [t0];rfl
   rw [t1,t2,t3] at c4;have c5:=d1i (unD b) 0 2 (by unfold unD;rw [r1V];omega);have c6:=o0V (nS (unD b) 0 2) (nE (unD b) 0 2);by_cases h3:nE (unD b) 0 2=0/\nV (unD b) 0 2=((unP b).size:Int)/\(unP b).size<=45
   .obtain ⟨h3,h4,h5⟩:=h3;have h6:¬(unM b=j1b\/(unM b=v0g/\(unP b).size=45)):=fun h6=>h ⟨h1,h2,by have:=h3;unfold nE at this;rwa [if_pos rfl] at this,by have:=h4;unfold nV at this;rwa [if_pos rfl] at this,h5,h6⟩
    rw [h4,h3] at c5;rw [h3] at c6;obtain ⟨V,hV⟩:∃V,((unP b).size:Int)=V:=⟨_,rfl⟩;have hp5:¬((45:Int)<V):=oM
    rw [hV] at c5;refine fEx func168 ?_;repeat' ((conv=>whnf);first|refine cPx c1 ?_|refine cPx c2 ?_|refine cOx (l:= [0]) c3 ?_|refine cOx (l:= [0,1]) c4 ?_|refine cOx (l:= [0,1]) c5 ?_|refine cOx (l:= [0,1]) c6 ?_|((first|apply w0o|apply q0b)<;>intro h<;>(try first|(exfalso;exact h rfl)|(exfalso;exact absurd h dC)))|refine a0a ?_|(apply bRx<;>intro h<;>try exact aX)|exact a0e rfl|(exfalso;rename_i h;exact h rfl)|(exfalso;rename_i h;exact hp5 h)|(exfalso;rename_i h;exact h6 (.inl h))|(exfalso;rename_i h;exact h hV.symm)|(exfalso;rename_i hp hn;exact h6 (.inr ⟨hp,by omega⟩))|(exfalso;rename_i hp hn _;exact h6 (.inr ⟨hp,by omega⟩))|(exfalso;rename_i hn hp;exact h6 (.inr ⟨hp,by omega⟩)))
   .obtain ⟨E,hE⟩:∃E,nE (unD b) 0 2=E:=⟨_,rfl⟩;obtain ⟨V,hV⟩:∃V,nV (unD b) 0 2=V:=⟨_,rfl⟩;rw [hE,hV] at c5 h3;rw [hE] at c6;have h3':E=0->V=((b.extract 19 b.size).size:Int)->V<=45->False:=fun e1 e2 e3=>h3 ⟨e1,e2,by have:V=((unP b).size:Int):=e2;omega⟩
    refine fEx func168 ?_;repeat' ((conv=>whnf);first|refine cPx c1 ?_|refine cPx c2 ?_|refine cOx (l:= [0]) c3 ?_|refine cOx (l:= [0,1]) c4 ?_|refine cOx (l:= [0,1]) c5 ?_|refine cOx (l:= [0,1]) c6 ?_|((first|apply w0o|apply q0b)<;>intro h<;>(try first|(exfalso;exact h rfl)|(exfalso;exact absurd h dC)))|refine a0a ?_|(apply bRx<;>intro h<;>try exact aX)|exact a0e rfl|(exfalso;rename_i h;exact h rfl)|exact aX|(exfalso;rename_i a1 a2 a3 a4 a5;exact h3' a1 a2 oM)|(exfalso;rename_i a1 a2 a3;exact h3' a1 a2 oM))
  .refine fEx func168 ?_;repeat' ((conv=>whnf);first|refine cPx c1 ?_|refine cPx c2 ?_|((first|apply w0o|apply q0b)<;>intro h<;>(try first|(exfalso;exact h rfl)|(exfalso;exact absurd h dC)))|refine a0a ?_|(apply bRx<;>intro h<;>try exact aX)|exact a0e rfl|(exfalso;rename_i h;exact h2 h))
 .exact Wx func168
end
section
attribute [local irreducible] seq ByteArray.extract
def ucN (s:BA):BA:=s.extract 4 s.size
def ucA (s:BA):Prop:=nuE s 4=0/\nuV s 4<=4000
def ucB (s:BA) (k:Nat):Prop:=nuV s 4<=((ucN s).size:Int)/\k<256
instance (s:BA):Decidable (ucA s):=by unfold ucA;infer_instance
instance (s:BA) (k:Nat):Decidable (ucB s k):=by unfold ucB;infer_instance
def q0L (s:BA):BA:=(ucN s).extract 0 (nuV s 4).toNat
def ucT (s:BA):BA:=(ucN s).extract (nuV s 4).toNat (ucN s).size
def ucR:Nat->BA->List BA->Option (List BA)
 |0,_,_=>none
 |f+1,s,acc=>if s.size=0 then (if acc.length=0 then none else some acc) else if ucA s then (if ucB s acc.length then ucR f (ucT s) (acc++ [q0L s]) else none) else none
def ucG (s:BA):Option (List BA):=ucR (s.size+1) s []
theorem d1m {s:BA} (h:nuE s 4=0):nuC s 4=4/\4<=s.size/\0<=nuV s 4:=by
 rcases j0a s 4 with ⟨_,h2,h3,_,_,h4,h5⟩|⟨h1,_⟩
 .exact ⟨h3,by omega,by simp_all [q0E]⟩
 omega
theorem k0Y (s:BA):(ucN s).size=s.size-4:=by simp [ucN]
theorem q0M {s:BA}:(ucT s).size=(s.size-4)-(nuV s 4).toNat:=by simp_all [ucT,k0Y]
def ucS (s:BA) (acc:List BA):VS:=⟨[(4,.sl 2 0 0 acc.length),(5,.ptr 1 0 0 0)],[(1,rdB s 0),(2,grW acc.length acc)],3⟩
def ucI (R:Option (List BA)) (x:Nat×BA×List BA):Prop:=x.2.1.size<x.1/\ucR x.1 x.2.1 x.2.2=R/\x.2.2.length<=256/\x.2.1.size<=1000000000/\(0<x.2.1.size\/0<x.2.2.length)
theorem v0h {f:Nat} {s:BA} {acc:List BA} (h0:s.size≠0) (ha:ucA s) (hb:ucB s acc.length):ucR (f+1) s acc=ucR f (ucT s) (acc++ [q0L s]):=by
 simp_all [ucR]
theorem s0R {f:Nat} {s:BA} {acc:List BA} (h0:s.size≠0) (ha:¬ucA s):ucR (f+1) s acc=none:=by
 simp_all [ucR]
theorem d1n {f:Nat} {s:BA} {acc:List BA} (h0:s.size≠0) (hb:¬ucB s acc.length):ucR (f+1) s acc=none:=by
 simp_all [ucR]
theorem d1o {f:Nat} {s:BA} {acc:List BA} (h0:s.size=0) (hl:0<acc.length):ucR (f+1) s acc=some acc:=by
 grind [ucR]
def s0S (R:Option (List BA)):SV->a0k->Nat->Prop:=match R with
 |none=>a0g (.tup [.nsl,.bool false]) [] 1
 |some g=>a0g (.tup [.sl 1 0 0 g.length,.bool true]) [(1,grW g.length g)] 2
theorem x0x (s:BA) (h0:0<s.size) (hs:s.size<=1000000000):FC prog 1 169 [.str s] [] (s0S (ucG s)):=by
 have c0:=d1j s;obtain ⟨R,hR⟩:∃R,ucG s=R:=⟨_,rfl⟩;rw [hR];refine fEx func169 ?_;repeat' ((conv=>whnf);first|refine cOx (l:= [0]) c0 ?_|refine a0a ?_|(apply bRx<;>intro h<;>try exact aX))
 all_goals (conv=>whnf)
 refine a0h (fun x:Nat×BA×List BA=>ucS x.2.1 x.2.2) (ucI R) (fun x=>x.2.1.size) (s.size+1,s,[]) [0,1,2] [.slot 4 [.sc (.strs [])]] wHx ⟨t1Q _,hR,b1f _,hs,.inl h0⟩ ?_;rintro ⟨f,t,acc⟩ ⟨hf,hr,hl,hz,hp⟩;dsimp only at hf hr hl hz hp⊢;obtain ⟨f,rfl⟩:∃f',f=f'+1:=⟨f-1,by omega⟩;have c1:=l1s t 0;by_cases hz0:t.size=0
 .rw [d1o hz0 oM] at hr;subst hr;rw [hz0] at c1;repeat' ((conv=>whnf);first|refine cOx (l:= [0,1]) c1 ?_|refine a0a ?_|(apply bRx<;>intro h<;>try exact aX)|exact a0A (l:= [0,2]) rfl (congrArg (fun b=>SV.tup [.sl 2 0 0 acc.length,.bool b]) (decide_eq_true oM)) rX (a0b a0c)|exact aX)
 .have c2:=d1i t 0 4 oM;by_cases ha:ucA t
  .obtain ⟨n1,n2,n3⟩:=d1m ha.1;have hv4:=ha.2;have e1:nV t 0 4=nuV t 4:=by unfold nV;rw [if_pos rfl]
   have e2:nE t 0 4=0:=by unfold nE;rw [if_pos rfl,ha.1]
   have e3:nS t 0 4=ucN t:=by unfold nS;rw [if_pos rfl,n1];rfl
   rw [e1,e2,e3] at c2;have c3:=o0V (ucN t) 0;have zn:=k0Y t;have c4:=v0f (ucN t) 0 (nuV t 4) oM;by_cases hb:ucB t acc.length
   .have hb1:=hb.1;have hb2:=hb.2;have zt:=q0M (s:=t);have t0:tkE (ucN t) (nuV t 4)=0:=by rcases h0d (ucN t) (nuV t 4) with ⟨_,h⟩|⟨_,⟨_,h⟩|⟨h,_⟩⟩<;>omega
    have t1:tV 0 (tkS (ucN t) (nuV t 4))=q0L t:=by rw [x0s t0];rfl
    have t2:tS (ucN t) 0 (tkE (ucN t) (nuV t 4)) (nuV t 4)=ucT t:=by unfold tS;rw [if_pos rfl,t0];rfl
    have t3:tE 0 (tkE (ucN t) (nuV t 4))=0:=by rw [t0];rfl
    rw [t1,t2,t3] at c4;have c5:=o0V (ucT t) 0;rw [v0h hz0 ha hb] at hr;obtain ⟨V,hV⟩:∃V,nuV t 4=V:=⟨_,rfl⟩;rw [hV] at c2 c4 hv4;repeat' ((conv=>whnf);first|refine cOx (l:= [0,1]) c1 ?_|refine cOx (l:= [0,1]) c2 ?_|refine cOx (l:= [0,1]) c3 ?_|refine cOx (l:= [0,1]) c4 ?_|refine cOx (l:= [0,1]) c5 ?_|refine a0a ?_|(apply bRx<;>intro h<;>try exact aX))
    all_goals (conv=>whnf)
    all_goals first
     |exact aX
     |(exfalso;exact h rfl)
     |skip
    refine ⟨(f,ucT t,acc++ [q0L t]),[0,1,4],[],⟨by dsimp only;omega,hr,by rw [s0c];show acc.length+1<=256;omega,by dsimp only;omega,.inr (by rw [s0c];show 0<acc.length+1;omega)⟩,by dsimp only;omega,⟨rfl,⟨?_,rX⟩,⟨rfl,?_,trivial⟩⟩⟩
    .dsimp only;rw [s0c];rfl
    .dsimp only;rw [s0c];rfl
   .rw [d1n hz0 hb] at hr;subst hr;obtain ⟨E,hE⟩:∃E,tkE (ucN t) (nuV t 4)=E:=⟨_,rfl⟩;have hE0:E=0->256<=acc.length:=fun e=>by
     by_cases h:256<=acc.length
     .exact h
     .exfalso;refine hb ⟨?_,by omega⟩;rcases h0d (ucN t) (nuV t 4) with ⟨_,h⟩|⟨_,⟨_,h⟩|⟨h,_⟩⟩<;>omega
    have t3:tE 0 E=E:=rfl;obtain ⟨S2,hS2⟩:∃S2,tS (ucN t) 0 (tkE (ucN t) (nuV t 4)) (nuV t 4)=S2:=⟨_,rfl⟩;rw [hS2,hE,t3] at c4;have c5:=o0V S2 E;obtain ⟨V,hV⟩:∃V,nuV t 4=V:=⟨_,rfl⟩;rw [hV] at c2 c4 hv4;let l:=[0,1];let R:=[0];exact Vx
  .rw [s0R hz0 ha] at hr;subst hr;have e1:nV t 0 4=nuV t 4:=by unfold nV;rw [if_pos rfl]
   have e2:nE t 0 4=nuE t 4:=by unfold nE;rw [if_pos rfl]
   obtain ⟨V,hV⟩:∃V,nuV t 4=V:=⟨_,rfl⟩;obtain ⟨E,hE⟩:∃E,nuE t 4=E:=⟨_,rfl⟩;unfold ucA at ha;rw [hV,hE] at ha;rw [e1,e2,hV,hE] at c2;have c3:=o0V (nS t 0 4) E;let l:=[0,1];let R:=[0];exact Vx
end
section
def q0N (p:Nat->Bool) (n k:Nat):List Bool:=(List.range n).map (fun i=>decide (i<k)&&p i)
theorem h1a (p:Nat->Bool) (n k:Nat) (h:k<n):(q0N p n k).set k (p k)=q0N p n (k+1):=by
 apply s1P;intro i;simp only [q0N,s1h,f1Q];by_cases e:k=i
 .simp_all
 .rw [if_neg e];rcases i1B i n with h1|h1
  .rw [s1J h1];simp only [k1k,Option.some.injEq];grind
  simp_all
def h1b (b:Int) (i:Nat):Bool:=decide (t0I .u8 (i0b .u8 b (i:Int)) 1=1)
attribute [irreducible] h1b
theorem d1p (b:Int) (i:Nat):h1b b i=decide (t0I .u8 (i0b .u8 b (i:Int)) 1=1):=by unfold h1b;rfl
theorem m0Y (b:Int):a0K prog 127 [.int .u8 b] (.arr 8 [.bools (q0N (h1b b) 8 8)]):=by
 refine fEx func127 ?_
 refine a0h (fun k:Nat=>⟨[(0,.int .u8 b),(2,.ptr 1 0 0 0),(3,.ptr 2 0 0 0),(5,.i k)],[(1,some (.one false (.cols 8 [.sc (.bools (List.replicate 8 false))]))),(2,some (.one false (.cols 8 [.sc (.bools (q0N (h1b b) 8 k))])))],3⟩) (fun k=>k<=8) (fun k=>8-k) 0 [0,1,2] [] wHx oM ?_;intro k hk;repeat' (first|refine a0a ?_|(apply bRx<;>intro h))
 .refine ⟨k+1,[0,1,2],[],by omega,by omega,⟨rfl,⟨rfl,rfl,rfl,?_,trivial⟩,⟨rfl,?_,trivial⟩⟩⟩
  .exact sI (a0u oM)
  .have e:=h1a (h1b b) 8 k oM;rw [d1p] at e;exact congrArg (fun z=>some (HB.one false (.cols 8 [.sc (.bools z)]))) e
 .have e:k=8:=oM
  subst e;exact a0e rfl
def d1q (m:Int) (k:Nat):Bool:=h1b (u8.wrap (i0b .u64 m ((8*(k/8):Nat):Int))) (k%8)
theorem f0u (p:Nat->Bool) (n k i:Nat) (h:i<n):(q0N p n k)[i]? =some (decide (i<k)&&p i):=by
 simp_all [q0N]
theorem k0Z (p:Nat->Bool) (n k:Nat):(q0N p n k).length=n:=by simp [q0N]
theorem d1r (m:Int) (j:Nat) (h:j<8) (x:Nat) (hx:x=8):f0A (8*j) x (q0N (d1q m) 64 (8*j)) (seg 0 8 (q0N (h1b (u8.wrap (i0b .u64 m ((8*j:Nat):Int)))) 8 8))=q0N (d1q m) 64 (8*(j+1)):=by
 subst hx;apply s1P;intro i;have e1:(List.take (8*j) (q0N (d1q m) 64 (8*j))).length=8*j:=by simp [k0Z];omega
 have e2:(List.take 8 (seg 0 8 (q0N (h1b (u8.wrap (i0b .u64 m ((8*j:Nat):Int)))) 8 8))).length=8:=by rfl
 simp only [f0A];rcases i1B i (8*j) with h1|h1
 .rw [s1T,e1S oM,r1T,if_pos h1,f0u _ _ _ _ oM,f0u _ _ _ _ oM];grind
 .rcases i1B i (8*j+8) with h2|h2
  .rw [s1T,f1K oM,e1,e1S oM,r1T,if_pos oM];simp only [seg,s1r];rw [r1T,if_pos oM,f0u _ _ _ _ oM,f0u _ _ _ _ oM];grind [d1q]
  .rw [f1K (by simp_all),s0c,e1,e2,s1k];rcases i1B i 64 with h5|h5
   .grind [f0u]
   simp_all [k0Z]
theorem v0i (m:Int):a0K prog 80 [.int .u64 m] (.arr 64 [.bools (q0N (d1q m) 64 64)]):=by
 refine fEx func80 ?_
 (conv=>whnf)
 refine a0h (fun j:Nat=>⟨[(0,.int .u64 m),(2,.ptr 1 0 0 0),(3,.ptr 2 0 0 0),(4,.i (8*j:Nat))],[(1,some (.one false (.cols 64 [.sc (.bools (List.replicate 64 false))]))),(2,some (.one false (.cols 64 [.sc (.bools (q0N (d1q m) 64 (8*j)))])))],3⟩) (fun j=>j<=8) (fun j=>8-j) 0 [0,1,2] [] wHx oM ?_;intro j hj;repeat' ((conv=>whnf);first|refine cPx (m0Y _) ?_|refine a0a ?_|(apply bRx<;>intro h<;>try exact aX))
 all_goals (conv=>whnf)
 .refine ⟨j+1,[0,1,2],[],by omega,by omega,⟨rfl,⟨rfl,rfl,rfl,?_,trivial⟩,⟨rfl,?_,trivial⟩⟩⟩
  .refine congrArg (fun z=>some (SV.i z)) ?_;rw [a0l oM oM];omega
  .refine congrArg (fun z=>some (HB.one false (.cols 64 [.sc (.bools z)]))) ?_;refine d1r m j oM _ ?_;dsimp only;omega
 .have e:j=8:=oM
  subst e;exact a0e rfl
end
section
structure Dk where
 kept:List BA
 now:List BA
 nn:Nat
 pn:List Int
 ps:List BA
 np:Nat
 down:Bool
 steps:Int
 mask:Int
structure Dk.ok (d:Dk):Prop where
 kl:d.kept.length=d.nn
 nl:d.now.length=d.nn
 pl:d.pn.length=d.np
 sl:d.ps.length=d.np
 pb:∀x∈d.pn,0<=x/\x<(d.nn:Int)
 pm:d.np<=4096
 nm:d.nn<=4096
 sb:0<=d.steps/\d.steps<=1000000
def dkC (p:Nat) (d:Dk):List SV:= [.sl 2 0 0 d.nn,.sl 3 0 0 d.nn,.sl p 0 0 d.np,.bool d.down,.i d.steps,.int .u64 d.mask]
def dkH (p:Nat) (d:Dk):a0k:=
 [(1,some (.one false (.cells (dkC p d)))),(2,some (.one false (.cols d.nn [.sc (.strs d.kept)]))),(3,some (.one false (.cols d.nn [.sc (.strs d.now)]))),
  (p,some (.one false (.cols d.np [.sc (.ints .i64 d.pn),.sc (.strs d.ps)])))]
theorem e0S (p:Nat) (d:Dk):c0x (dkH p d):=a0b (a0b (a0b (a0b a0c)))
def j1c (d:Dk):Int:=if d.down=true then 13 else 0
theorem d0s (d:Dk):FC prog 5 36 [.ptr 1 0 0 0] [(1,some (.one true (.cells (dkC 4 d))))] (a0g (.i (j1c d)) [] 5):=by
 refine fEx func36 ?_;repeat' (first|(apply bRx<;>intro h)|exact a0A (l:= [0,1,2,3,4]) rfl (by grind [c0g,cv,SV.ren,j1c]) trivial a0c)
def d0D (n:Int):Int:=if 0<n then n-1 else n
def c0A (d:Dk):Dk:= { d with steps:=d0D d.steps}
theorem z0u (d:Dk) (hs:0<=d.steps/\d.steps<=1000000):FC prog 5 131 [.ptr 1 0 0 0] [(1,some (.one false (.cells (dkC 4 d))))]
  (a0g (.tup []) [(1,some (.one false (.cells (dkC 4 (c0A d)))))] 5):=by
 refine fEx func131 ?_;repeat' (first|(apply bRx<;>intro h))
 .refine a0A (l:= [0,1,2,3,4]) rfl rfl ⟨?_,trivial⟩ (a0b a0c);have e:d0D d.steps=i64.wrap (d.steps-1):=by rw [a0l oM oM];simp_all [d0D]
  unfold c0A;rw [e];rfl
 .refine a0A (l:= [0,1,2,3,4]) rfl rfl ⟨?_,trivial⟩ (a0b a0c);have e:d0D d.steps=d.steps:=by grind [d0D]
  unfold c0A;rw [e];rfl
def a0W (bits:Nat->Bool) (pn:List Int) (ps:List BA):Nat->List BA->List BA
 |0,l=>l
 |k+1,l=>bif bits k then (a0W bits pn ps k l).set (pn.getD k 0).toNat (ps.getD k ⟨#[]⟩) else a0W bits pn ps k l
theorem c0a (bits:Nat->Bool) (pn:List Int) (ps l:List BA):∀k,(a0W bits pn ps k l).length=l.length
 |0=>rfl
 |k+1=>by
  simp only [a0W];cases bits k<;>simp [c0a bits pn ps l k]
def h0A (m:Int) (k:Nat):Bool:=(q0N (d1q m) 64 64).getD (k%64) false
def x0y (m:Int) (d:Dk):List BA:=a0W (h0A m) d.pn d.ps d.np d.kept
def c0S (m:Int) (d:Dk):Dk:=⟨x0y m d,x0y m d,d.nn,[],[],0,true,0,0⟩
theorem j0d {α:Type} (l:List α) (i:Nat) (d:α) (h:i<l.length):l.getD i d∈l:=by
 simp_all
theorem z0v {α:Type} (n:Nat) (l s:List α) (h1:l.length=n) (h2:s.length=n):f0A 0 (min n n) l (seg 0 n s)=s:=by
 simp [f0A,seg,<-h2,h1]
theorem j0W (d:Dk) (h0:d.ok) (m:Int):FC prog 5 37 [.ptr 1 0 0 0,.int .u64 m] (dkH 4 d) (a0g (.tup []) (dkH 5 (c0S m d)) 6):=by
 have hpm:=h0.pm;have hpl:=h0.pl;refine fEx func37 ?_;repeat' ((conv=>whnf);first|refine cPx (v0i _) ?_|refine a0a ?_|(apply bRx<;>intro h<;>try exact aX))
 (conv=>whnf)
 refine a0h (fun k:Nat=>⟨[(0,.ptr 1 0 0 0),(4,.ptr 5 0 0 0),(12,.sl 4 0 0 d.np),(13,.i d.np),(14,.i k)],
  [(1,some (.one false (.cells (dkC 4 d)))),(2,some (.one false (.cols d.nn [.sc (.strs (a0W (h0A m) d.pn d.ps k d.kept))]))),
   (3,some (.one false (.cols d.nn [.sc (.strs d.now)]))),
   (4,some (.one false (.cols d.np [.sc (.ints .i64 d.pn),.sc (.strs d.ps)]))),(5,some (.one false (.cols 64 [.sc (.bools (q0N (d1q m) 64 64))])))],6⟩) (fun k=>k<=d.np) (fun k=>d.np-k) 0 [0,1,2,3,4,5] [] wHx oM ?_
 intro k hk;by_cases hlt:k<d.np
 .have hm:(k:Int).tmod 64=((k%64:Nat):Int):=by rw [s1Q oM];omega
  have hb:=h0.pb _ (j0d d.pn k 0 oM);have hc:h0A m k=(q0N (d1q m) 64 64).getD ((k:Int).tmod 64).toNat false:=by unfold h0A;rw [hm];rfl
  repeat' ((conv=>whnf);first|(refine a0f hb ?_)|(refine a0f (by rw [hm];dsimp only;omega) ?_)|refine a0a ?_|(apply bRx<;>intro h<;>try exact aX))
  all_goals (conv=>whnf)
  all_goals rw [h] at hc
  all_goals refine ⟨k+1,xAh,[],by omega,by omega,⟨rfl,⟨rfl,rfl,rfl,rfl,sI (a0u oM),trivial⟩,⟨rfl,?_,rX⟩⟩⟩
  all_goals refine congrArg (fun z=>some (HB.one false (.cols d.nn [.sc (.strs z)]))) ?_
  all_goals (simp only [a0W,hc];rfl)
 .have e:k=d.np:=oM
  subst e;repeat' ((conv=>whnf);first|refine a0a ?_|(apply bRx<;>intro h<;>try exact aX))
  all_goals (conv=>whnf)
  refine b0K (l:= [0,1,2,3,4,6]) [.cell 1 2 [.sc (.ints .i64 []),.sc (.strs [])]] ⟨rfl,rfl,rfl,rfl,?_,rX⟩ (e0S _ _);refine congrArg (fun z=>some (HB.one false (.cols d.nn [.sc (.strs z)]))) ?_;exact z0v _ _ _ h0.nl (by rw [c0a];exact h0.kl)
def a0I (m:Int) (d:Dk):Dk:=if d.down=true then d else c0S m d
theorem b0X (d:Dk):(j1c d=13/\d.down=true)\/(j1c d=0/\d.down=false):=by
 simp [j1c]
theorem h0f (d:Dk) (h0:d.ok) (m:Int):FC prog 5 11 [.ptr 1 0 0 0,.int .u64 m] (dkH 4 d) (a0g (.i (j1c d)) (dkH 5 (a0I m d)) 6):=by
 have hrun:=d0s d;rcases b0X d with ⟨hr,hd⟩|⟨hr,hd⟩
 .rw [show a0I m d=d from by simp [a0I,hd]];rw [hr] at hrun⊢;refine fEx func11 ?_;repeat' ((conv=>whnf);first|refine cOx (l:= [0,1,2,3,4]) hrun ?_|exact rOx xAm (e0S _ _))
 .rw [show a0I m d=c0S m d from by simp [a0I,hd]];rw [hr] at hrun⊢;refine fEx func11 ?_;repeat' ((conv=>whnf);first|refine cOx (l:= [0,1,2,3,4]) hrun ?_|refine cOx (l:= [0,1,2,3,4]) (j0W d h0 m) ?_|exact rOx xAh (e0S _ _))
def h0W (d:Dk) (n m:Int):Dk×Int:=if d.down=true then (d,13) else if n<0\/1000000<n then (d,4) else ({ d with steps:=n,mask:=m},0)
theorem h0g (d:Dk) (n m:Int):FC prog 5 9 [.ptr 1 0 0 0,.i n,.int .u64 m] [(1,some (.one false (.cells (dkC 4 d))))] (a0g (.i (h0W d n m).2) [(1,some (.one false (.cells (dkC 4 (h0W d n m).1))))] 5):=by
 have hrun:=d0s d;rcases b0X d with ⟨hr,hd⟩|⟨hr,hd⟩
 .rw [show h0W d n m=(d,13) from by simp [h0W,hd]];rw [hr] at hrun;have c0:=hrun;let l:=[0,1,2,3,4];exact Wx func9
 .rw [hr] at hrun;by_cases hn:n<0\/1000000<n
  .rw [show h0W d n m=(d,4) from by simp [h0W,hd,hn]];have c1:=hrun;let l:=[0,1,2,3,4];exact Wx func9
  .rw [show h0W d n m=({ d with steps:=n,mask:=m},0) from by simp [h0W,hd,hn]];have c2:=hrun;let l:=[0,1,2,3,4];exact Wx func9
def a0Q (d:Dk):Dk×Int:=if d.down=true then ({ d with down:=false},0) else (d,8)
theorem e0q (d:Dk):FC prog 5 13 [.ptr 1 0 0 0] [(1,some (.one false (.cells (dkC 4 d))))] (a0g (.i (a0Q d).2) [(1,some (.one false (.cells (dkC 4 (a0Q d).1))))] 5):=by
 rcases b0X d with ⟨_,hd⟩|⟨_,hd⟩
 .rw [show a0Q d=({ d with down:=false},0) from by simp [a0Q,hd]];refine fEx func13 ?_;repeat' (first|(apply bRx<;>intro h))
  all_goals first|(simp_all;done)|(exact rOx [0,1,2,3,4] (a0b a0c))
 .rw [show a0Q d=(d,8) from by simp [a0Q,hd]];refine fEx func13 ?_;repeat' (first|(apply bRx<;>intro h))
  all_goals first|(simp_all;done)|(exact rOx [0,1,2,3,4] (a0b a0c))
def e0T (d:Dk) (n:Int):BA×Int:=if d.down=true then (⟨#[]⟩,13) else if n<0\/d.nn<=n then (⟨#[]⟩,4) else (d.now.getD n.toNat ⟨#[]⟩,0)
theorem d1s (d:Dk) (n:Int):FC prog 5 167 [.ptr 1 0 0 0,.i n] [(1,some (.one true (.cells (dkC 4 d)))),(3,some (.one true (.cols d.nn [.sc (.strs d.now)])))] (a0g (.tup [.str (e0T d n).1,.i (e0T d n).2]) [] 5):=by
 have hrun:=d0s d;rcases b0X d with ⟨hr,hd⟩|⟨hr,hd⟩
 .rw [show e0T d n=(⟨#[]⟩,13) from by simp [e0T,hd]];rw [hr] at hrun;have c0:=hrun;let l:=[0,1,2,3,4];exact Wx func167
 .rw [hr] at hrun;by_cases hn:n<0\/d.nn<=n
  .rw [show e0T d n=(⟨#[]⟩,4) from by simp [e0T,hd,hn]];have c1:=hrun;let l:=[0,1,2,3,4];exact Wx func167
  .rw [show e0T d n=(d.now.getD n.toNat ⟨#[]⟩,0) from by simp [e0T,hd,hn]];have c2:=hrun;let l:=[0,1,2,3,4];exact Wx func167
theorem m0Z (d:Dk):FC prog 5 128 [.ptr 1 0 0 0] [(1,some (.one true (.cells (dkC 4 d))))] (a0g (.i d.nn) [] 5):=by
 let l:=[0,1,2,3,4];exact Wx func128
theorem d1t (d:Dk):FC prog 5 113 [.ptr 1 0 0 0] [(1,some (.one true (.cells (dkC 4 d))))] (a0g (.bool d.down) [] 5):=by
 let l:=[0,1,2,3,4];exact Wx func113
def o0Y (d:Dk) (n:Int) (s:BA):Dk:= { d with now:=d.now.set n.toNat s,pn:=d.pn++ [n],ps:=d.ps++ [s],np:=d.np+1}
theorem q0O {d:Dk} (h:d.ok) {n:Int} {s:BA} (hn:0<=n/\n<(d.nn:Int)) (hp:d.np<4096):(o0Y d n s).ok:=by
 refine ⟨h.kl,by simp [o0Y,h.nl],by simp [o0Y,h.pl],by simp [o0Y,h.sl],?_,by trivial,h.nm,h.sb⟩;intro x hx;simp only [o0Y,k1q,b1h] at hx;rcases hx with hx|rfl
 .exact h.pb x hx
 trivial
def a0L (d:Dk) (n:Int) (s:BA):Dk×Int:=
 if d.down=true then (d,13) else if n<0\/d.nn<=n then (d,4) else if 64<s.size then (d,3) else if 4096<=d.np then (d,12)
 else if d.steps=1 then (c0S d.mask (o0Y d n s),13) else (c0A (o0Y d n s),0)
theorem z0w (d:Dk) (h0:d.ok) (n:Int) (s:BA):FC prog 5 84 [.ptr 1 0 0 0,.i n,.str s] (dkH 4 d) (a0g (.i (a0L d n s).2) (dkH 5 (a0L d n s).1) 6):=by
 have hrun:=d0s d;rcases b0X d with ⟨hr,hd⟩|⟨hr,hd⟩
 .rw [show a0L d n s=(d,13) from by simp [a0L,hd]];rw [hr] at hrun;refine fEx func84 ?_;repeat' ((conv=>whnf);first|refine cOx (l:= [0,1,2,3,4]) hrun ?_|refine a0a ?_|(apply bRx<;>intro h<;>try exact aX)|exact rOx xAm (e0S _ _))
 .rw [hr] at hrun;by_cases hn:n<0\/d.nn<=n
  .rw [show a0L d n s=(d,4) from by simp [a0L,hd,hn]];refine fEx func84 ?_;repeat' ((conv=>whnf);first|refine cOx (l:= [0,1,2,3,4]) hrun ?_|refine a0a ?_|(apply bRx<;>intro h<;>try exact aX)|exact rOx xAm (e0S _ _))
  by_cases hs:64<s.size
  .rw [show a0L d n s=(d,3) from by simp [a0L,hd,hn,hs]];refine fEx func84 ?_;repeat' ((conv=>whnf);first|refine cOx (l:= [0,1,2,3,4]) hrun ?_|refine a0a ?_|(apply bRx<;>intro h<;>try exact aX)|exact rOx xAm (e0S _ _))
  by_cases hp:4096<=d.np
  .rw [show a0L d n s=(d,12) from by simp [a0L,hd,hn,hs,hp]];refine fEx func84 ?_;repeat' ((conv=>whnf);first|refine cOx (l:= [0,1,2,3,4]) hrun ?_|refine a0a ?_|(apply bRx<;>intro h<;>try exact aX)|exact rOx xAm (e0S _ _))
  have hok:=q0O (s:=s) h0 (n:=n) oM oM;by_cases ht:d.steps=1
  .rw [show a0L d n s=(c0S d.mask (o0Y d n s),13) from by simp [a0L,hd,hn,hs,hp,ht]];have hcr:=j0W (o0Y d n s) hok d.mask;refine fEx func84 ?_;repeat' ((conv=>whnf);first|refine cOx (l:= [0,1,2,3,4]) hrun ?_|refine cOx (l:= [0,1,2,3,6]) hcr ?_|refine a0a ?_|(apply bRx<;>intro h<;>try exact aX)|exact rOx [0,1,2,3,4,7] (e0S _ _))
  .rw [show a0L d n s=(c0A (o0Y d n s),0) from by simp [a0L,hd,hn,hs,hp,ht]];have hct:=z0u (o0Y d n s) h0.sb;refine fEx func84 ?_;repeat' ((conv=>whnf);first|refine cOx (l:= [0,1,2,3,4]) hrun ?_|refine cOx (l:= [0,1,2,3,6]) hct ?_|refine a0a ?_|(apply bRx<;>intro h<;>try exact aX)|exact rOx [0,1,2,3,4,6] (e0S _ _))
def dkN (d:Dk):List SV:= [.sl 2 0 0 d.nn,.sl 3 0 0 d.nn,.nsl,.bool d.down,.i d.steps,.int .u64 d.mask]
theorem v0j (d:Dk) (hs:0<=d.steps/\d.steps<=1000000):FC prog 4 131 [.ptr 1 0 0 0] [(1,some (.one false (.cells (dkN d))))]
  (a0g (.tup []) [(1,some (.one false (.cells (dkN (c0A d)))))] 4):=by
 refine fEx func131 ?_;repeat' (first|(apply bRx<;>intro h))
 .refine a0A (l:= [0,1,2,3]) rfl rfl ⟨?_,trivial⟩ (a0b a0c);have e:d0D d.steps=i64.wrap (d.steps-1):=by rw [a0l oM oM];simp_all [d0D]
  unfold c0A;rw [e];rfl
 .refine a0A (l:= [0,1,2,3]) rfl rfl ⟨?_,trivial⟩ (a0b a0c);have e:d0D d.steps=d.steps:=by grind [d0D]
  unfold c0A;rw [e];rfl
def x0z (_:Nat):Bool:=true
def s0T (d:Dk):Dk:= { d with kept:=a0W x0z d.pn d.ps d.np d.kept,pn:= [],ps:= [],np:=0}
def b0h (d:Dk):Dk×Int:=if d.down=true then (d,13) else if d.steps=1 then (c0S d.mask d,13) else (c0A (s0T d),0)
theorem z0x (d:Dk) (h0:d.ok):FC prog 5 85 [.ptr 1 0 0 0] (dkH 4 d) (a0g (.i (b0h d).2) (dkH 5 (b0h d).1) 6):=by
 have hrun:=d0s d;have hpm:=h0.pm;have hpl:=h0.pl;rcases b0X d with ⟨hr,hd⟩|⟨hr,hd⟩
 .rw [show b0h d=(d,13) from by simp [b0h,hd]];rw [hr] at hrun;refine fEx func85 ?_;repeat' ((conv=>whnf);first|refine cOx (l:= [0,1,2,3,4]) hrun ?_|refine a0a ?_|(apply bRx<;>intro h<;>try exact aX)|exact rOx xAm (e0S _ _))
 .rw [hr] at hrun;by_cases ht:d.steps=1
  .rw [show b0h d=(c0S d.mask d,13) from by simp [b0h,hd,ht]];have hcr:=j0W d h0 d.mask;refine fEx func85 ?_;repeat' ((conv=>whnf);first|refine cOx (l:= [0,1,2,3,4]) hrun ?_|refine cOx (l:= [0,1,2,3,4]) hcr ?_|refine a0a ?_|(apply bRx<;>intro h<;>try exact aX)|exact rOx xAh (e0S _ _))
  .rw [show b0h d=(c0A (s0T d),0) from by simp [b0h,hd,ht]];have hct:=v0j (s0T d) h0.sb;refine fEx func85 ?_;repeat' ((conv=>whnf);first|refine cOx (l:= [0,1,2,3,4]) hrun ?_|refine a0a ?_|(apply bRx<;>intro h<;>try exact aX))
   (conv=>whnf)
   refine a0h (fun k:Nat=>⟨[(0,.ptr 1 0 0 0),(25,.sl 4 0 0 d.np),(26,.i d.np),(27,.i k)],
    [(1,some (.one false (.cells (dkC 4 d)))),(2,some (.one false (.cols d.nn [.sc (.strs (a0W x0z d.pn d.ps k d.kept))]))),
     (3,some (.one false (.cols d.nn [.sc (.strs d.now)]))),
     (4,some (.one false (.cols d.np [.sc (.ints .i64 d.pn),.sc (.strs d.ps)])))],5⟩) (fun k=>k<=d.np) (fun k=>d.np-k) 0 [0,1,2,3,4] [] wHx oM ?_
   intro k hk;by_cases hlt:k<d.np
   .have hb:=h0.pb _ (j0d d.pn k 0 oM);repeat' ((conv=>whnf);first|(refine a0f hb ?_)|refine a0a ?_|(apply bRx<;>intro h<;>try exact aX))
    all_goals (conv=>whnf)
    all_goals refine ⟨k+1,[0,1,2,3,4],[],by omega,by omega,⟨rfl,⟨rfl,rfl,rfl,sI (a0u oM),trivial⟩,rX⟩⟩
   .have e:k=d.np:=oM
    subst e;repeat' ((conv=>whnf);first|refine cOx (l:= [0,1,2,3]) hct ?_|refine a0a ?_|(apply bRx<;>intro h<;>try exact aX)|exact b0K (l:= xAh) [.cell 1 2 [.sc (.ints .i64 []),.sc (.strs [])]] rX (e0S _ _))
def x0A (n:Nat):Dk:=⟨List.replicate n ⟨#[]⟩,List.replicate n ⟨#[]⟩,n,[],[],0,false,0,0⟩
theorem l1w (n:Nat) (h:n<=4096):(x0A n).ok:=⟨by simp [x0A],by simp [x0A],rfl,rfl,by simp [x0A],by simp [x0A],h,by simp [x0A]⟩
theorem v0k (n:Int) (h:n<1\/4096<n):a0K prog 5 [.i n] (.tup [.nptr,.i 4]):=by
 exact Wx func5
theorem h1c (n:Nat) (h:1<=n/\n<=4096):FC prog 1 5 [.i n] [] (a0g (.tup [.ptr 1 0 0 0,.i 0]) (dkH 4 (x0A n)) 5):=by
 refine fEx func5 ?_;repeat' (first|refine a0a ?_|(apply bRx<;>intro h<;>try exact aX)|exact b0K (l:= [0,3,1,2,4]) [.cell 3 2 [.sc (.ints .i64 []),.sc (.strs [])]] rX (e0S _ _))
attribute [local irreducible] seq ByteArray.extract
structure Jr where
 recs:List BA
 nr:Nat
 groups:Nat
 used:Nat
 head:Int
 grp:List BA
 ng:Nat
 stopped:Bool
structure Jr.ok (j:Jr) (d:Dk):Prop where
 rl:j.recs.length=j.nr
 gl:j.grp.length=j.ng
 us:j.used<=d.nn
 gs:j.groups<=j.used
 rm:j.nr<=256*j.groups
 gm:j.ng<=256
 go:okR j.grp
 hb:0<=j.head/\j.head<18446744073709551616
def dkJ (p:Nat) (d:Dk):List SV:= [.sl 3 0 0 d.nn,.sl 4 0 0 d.nn,.sl p 0 0 d.np,.bool d.down,.i d.steps,.int .u64 d.mask]
def jrC (r g:Nat) (j:Jr):List SV:= [.ptr 2 0 0 0,.sl r 0 0 j.nr,.i j.groups,.i j.used,.int .u64 j.head,.sl g 0 0 j.ng,.bool j.stopped]
def a0P (ro:Bool) (l:List SV):Option HB:=some (.one ro (.cells l))
def o1v (p:Nat) (d:Dk):a0k:= [(2,a0P false (dkJ p d)),(3,grW d.nn d.kept),(4,grW d.nn d.now),(p,some (.one false (.cols d.np [.sc (.ints .i64 d.pn),.sc (.strs d.ps)])))]
def jrH (r g p:Nat) (j:Jr) (d:Dk):a0k:=(1,a0P false (jrC r g j))::(r,grW j.nr j.recs)::(g,grW j.ng j.grp)::o1v p d
theorem s0U (r g p:Nat) (j:Jr) (d:Dk):c0x (jrH r g p j d):=a0b (a0b (a0b (a0b (a0b (a0b (a0b a0c))))))
def p1X (j:Jr) (m:Nat) (g:List BA) (u:Nat) (h:Int):Jr:= { j with recs:=j.recs++g,nr:=j.nr+m,groups:=j.groups+1,used:=u,head:=h}
theorem d1u (j:Jr) (m:Nat) (g:List BA) (u:Nat) (h:Int) (hg:g.length=m) (h1:j.groups<=1000000) (h2:j.nr<=1000000000) (h3:m<=1000000):
  FC prog 9 86 [.ptr 1 0 0 0,.sl 8 0 0 m,.i u,.int .u64 h] [(1,a0P false (jrC 5 6 j)),(5,grW j.nr j.recs),(8,grB m g)]
   (a0g (.tup []) [(1,a0P false (jrC 9 6 (p1X j m g u h))),(9,grW (j.nr+m) (j.recs++g))] 10):=by
 have e:i64.wrap ((j.groups:Int)+1)=((j.groups+1:Nat):Int):=a0u oM;have es:seg 0 m g=g:=by simp_all [seg,s1A]
 refine fEx func86 ?_;repeat' (first|refine a0a ?_)
 all_goals (conv=>whnf)
 rw [e,es];exact rOx xAc (a0b (a0b a0c))
def rdK (now:List BA):Nat->Nat->Int->BA->Option (List BA×Nat×Int)
 |0,_,_,_=>none
 |f+1,n,h,t=>if m0X h (now.getD n ⟨#[]⟩) then (if j0b (now.getD n ⟨#[]⟩)=true then (match ucG (t++unP (now.getD n ⟨#[]⟩)) with|some g=>some (g,n+1,chI h (unR (now.getD n ⟨#[]⟩)))|none=>none) else rdK now f (n+1) (chI h (unR (now.getD n ⟨#[]⟩))) (t++unP (now.getD n ⟨#[]⟩))) else none
section
variable {now:List BA} {f n:Nat} {h:Int} {t:BA}
theorem z0y (ho:¬m0X h (now.getD n ⟨#[]⟩)):rdK now (f+1) n h t=none:=by simp_all [rdK]
theorem j0X (ho:m0X h (now.getD n ⟨#[]⟩)) (hl:j0b (now.getD n ⟨#[]⟩)=false):rdK now (f+1) n h t=rdK now f (n+1) (chI h (unR (now.getD n ⟨#[]⟩))) (t++unP (now.getD n ⟨#[]⟩)):=by
 simp_all [rdK]
theorem j0Y (ho:m0X h (now.getD n ⟨#[]⟩)) (hl:j0b (now.getD n ⟨#[]⟩)=true):rdK now (f+1) n h t=(match ucG (t++unP (now.getD n ⟨#[]⟩)) with|some g=>some (g,n+1,chI h (unR (now.getD n ⟨#[]⟩)))|none=>none):=by
 simp_all [rdK]
end
theorem d1v:∀{s:BA} {g:List BA},ucG s=some g->g.length<=256:=by
 have key:∀(f:Nat) (s:BA) (acc g:List BA),acc.length<=256->ucR f s acc=some g->g.length<=256:=by
  intro f;induction f with
  |zero=>intro s acc g _ h;cases h
  |succ f ih=>
   intro s acc g hl h;by_cases h0:s.size=0
   .simp_all [ucR]
   .by_cases ha:ucA s
    .by_cases hb:ucB s acc.length
     .rw [v0h h0 ha hb] at h;exact ih _ _ _ (by rw [s0c];have:=hb.2;trivial) h
     simp_all [d1n]
    simp_all [s0R]
 intro s g h;exact key _ s [] g (b1f _) h
def nxJ (j:Jr):Option (List BA×Nat×Int)->Jr
 |none=>j
 |some (g,n,h)=>p1X j g.length g n h
def nxR (j:Jr) (d:Dk):Option (List BA×Nat×Int):=rdK d.now (d.nn-j.used) j.used j.head ⟨#[]⟩
def nxB:Option (List BA×Nat×Int)->Bool
 |none=>false
 |some _=>true
structure Dk.sz (d:Dk):Prop where
 now:∀b∈d.now,b.size<=64
 kept:∀b∈d.kept,b.size<=64
 ps:∀b∈d.ps,b.size<=64
theorem l1x {l:List BA} (h:∀b∈l,b.size<=64) (i:Nat):(l.getD i ⟨#[]⟩).size<=64:=by
 rcases i1B i l.length with hi|hi
 .simp_all
 .rw [List.getD,a1X hi];decide
def nxS (j:Jr) (d:Dk) (x:Nat×Nat×Int×BA×Bool):VS:=match x with
 |(_,n,h,_,false)=>⟨[(0,.ptr 1 0 0 0),(3,.ptr 8 0 0 0),(4,.int .u64 h),(5,.i n)],[(1,a0P false (jrC 5 6 j)),(2,a0P true (dkJ 7 d)),(4,grB d.nn d.now),(5,grW j.nr j.recs),(8,c1E)],9⟩
 |(_,n,h,t,true)=>⟨[(0,.ptr 1 0 0 0),(3,.ptr 8 0 0 0),(4,.int .u64 h),(5,.i n)],[(1,a0P false (jrC 5 6 j)),(2,a0P true (dkJ 7 d)),(4,grB d.nn d.now),(5,grW j.nr j.recs),(8,k0B 9 t.size),(9,f0I t)],10⟩
theorem l1y (j:Jr) (d:Dk) (hd:d.down=false) (hnn:d.nn<=4096) (hsz:∀b∈d.now,b.size<=64) (hu:j.used<=d.nn) (hgs:j.groups<=j.used) (hrm:j.nr<=256*j.groups):
  FC prog 8 114 [.ptr 1 0 0 0] [(1,a0P false (jrC 5 6 j)),(2,a0P true (dkJ 7 d)),(4,grB d.nn d.now),(5,grW j.nr j.recs)]
   (a0g (.bool (nxB (nxR j d))) [(1,a0P false (jrC 8 6 (nxJ j (nxR j d)))),(8,grW (nxJ j (nxR j d)).nr (nxJ j (nxR j d)).recs)] 9):=by
 have c1:=m0Z d;obtain ⟨R,hR⟩:∃R,nxR j d=R:=⟨_,rfl⟩;rw [hR];refine fEx func114 ?_;repeat' ((conv=>whnf);first|refine a0a ?_|(apply bRx<;>intro h<;>try exact aX))
 all_goals (conv=>whnf)
 refine a0h (nxS j d) (fun x=>x.2.1+x.1=d.nn/\j.used<=x.2.1/\rdK d.now x.1 x.2.1 x.2.2.1 x.2.2.2.1=R/\(x.2.2.2.2=false->x.2.2.2.1=⟨#[]⟩)/\(x.2.2.2.2=true->0<x.2.2.2.1.size/\x.2.2.2.1.size<=64*x.2.1)) (fun x=>x.1) (d.nn-j.used,j.used,j.head,⟨#[]⟩,false) [0,1,2,3,4,5,6,7,8] [] wHx ⟨by dsimp only;omega,m0c _,hR,fun _=>rfl,fun e=>by cases e⟩ ?_;rintro ⟨f,n,hh,t,st⟩ ⟨hf,hun,hr,hs0,hs1⟩;dsimp only at hf hun hr hs0 hs1⊢;have c2:=d1s d (n:Int);cases f with
 |zero=>
  have hn:n=d.nn:=oM
  have hr:R=none:=hr.symm;subst hr;cases st with
  |false=>
   let l:=[0,2,3,4,7];let R:=xAn;exact Vx
  |true=>
   let l:=[0,2,3,4,7];let R:=xAn;exact Vx
 |succ f=>
  have hn:n<d.nn:=oM
  obtain ⟨B,hB⟩:∃B,d.now.getD n ⟨#[]⟩=B:=⟨_,rfl⟩;have zB:B.size<=64:=by rw [<-hB];exact l1x hsz n
  have er:e0T d (n:Int)=(d.now.getD n ⟨#[]⟩,0):=by unfold e0T;rw [if_neg (by rw [hd];decide),if_neg oM,u0f]
  rw [er,hB] at c2;dsimp only at c2;by_cases ho:m0X hh B
  .have c3:=z0t hh B oM ho;have z1:=ho.1;have zp:=j0c ho.1;have ho':m0X hh (d.now.getD n ⟨#[]⟩):=by rw [hB];exact ho
   cases st with
   |false=>
    have ht:=hs0 rfl;subst ht;have c4:=j0U (unP B) oM oM;cases hl:j0b B with
    |false=>
     unfold unV at c3;rw [hl] at c3;rw [j0X ho' (by rw [hB];exact hl),hB,s0Q] at hr;repeat' ((conv=>whnf);first|refine cOx (l:= [0,2,3,4,7]) c1 ?_|refine cOx (l:= [0,2,3,4,7]) c2 ?_|refine cPx c3 ?_|refine cOx (l:= [0,8]) c4 ?_|refine a0a ?_|(apply bRx<;>intro h<;>try exact aX))
     all_goals (conv=>whnf)
     all_goals first
      |exact aX
      |(exfalso;exact h rfl)
      |skip
     refine ⟨(f,n+1,chI hh (unR B),unP B,true),xAc,[],⟨by dsimp only;omega,by dsimp only;omega,hr,(fun e=>by cases e),fun _=>⟨by dsimp only;omega,by dsimp only;omega⟩⟩,by dsimp only;omega,⟨rfl,⟨rfl,rfl,rfl,sI (a0u oM),trivial⟩,rX⟩⟩
    |true=>
     unfold unV at c3;rw [hl] at c3;have c5:=e0P (unP B) oM;have c6:=x0x (unP B) oM oM;rw [j0Y ho' (by rw [hB];exact hl),hB,s0Q] at hr;cases hu:ucG (unP B) with
     |none=>
      rw [hu] at c6 hr;subst hr;simp only [s0S] at c6;let l4:=[0,8];let l5:=[0,8,9];let l6:=[0];let l:=[0,2,3,4,7];let R:=xAn;exact Vx
     |some g=>
      rw [hu] at c6 hr;subst hr;simp only [s0S] at c6;have c7:=d1u j g.length g (n+1) (chI hh (unR B)) rfl oM oM (n1r (d1v hu) oM);have e1:i64.wrap ((n:Int)+1)=((n+1:Nat):Int):=a0u oM;rw [<-e1] at c7;let l4:=[0,8];let l5:=[0,8,9];let l6:=[0];let l7:=xBe;let l:=[0,2,3,4,7];let R:=[0,1,2,3,4,5,6,7,11];exact Vx
   |true=>
    obtain ⟨ht0,ht1⟩:=hs1 rfl;have c4:=o0O t (unP B) oM oM;cases hl:j0b B with
    |false=>
     unfold unV at c3;rw [hl] at c3;rw [j0X ho' (by rw [hB];exact hl),hB] at hr;repeat' ((conv=>whnf);first|refine cOx (l:= [0,2,3,4,7]) c1 ?_|refine cOx (l:= [0,2,3,4,7]) c2 ?_|refine cPx c3 ?_|refine cOx (l:= [0,8,9]) c4 ?_|refine a0a ?_|(apply bRx<;>intro h<;>try exact aX))
     all_goals (conv=>whnf)
     all_goals first
      |exact aX
      |(exfalso;exact h rfl)
      |skip
     refine ⟨(f,n+1,chI hh (unR B),t++unP B,true),[0,1,2,3,4,5,6,7,8,10],[],⟨by dsimp only;omega,by dsimp only;omega,hr,(fun e=>by cases e),fun _=>⟨by dsimp only;rw [b0B];omega,by dsimp only;rw [b0B];omega⟩⟩,by dsimp only;omega,⟨rfl,⟨rfl,rfl,rfl,sI (a0u oM),trivial⟩,rX⟩⟩
    |true=>
     unfold unV at c3;rw [hl] at c3;have c5:=e0P (t++unP B) (by rw [b0B];omega);have c6:=x0x (t++unP B) (by rw [b0B];omega) (by rw [b0B];omega);rw [j0Y ho' (by rw [hB];exact hl),hB] at hr;cases hu:ucG (t++unP B) with
     |none=>
      rw [hu] at c6 hr;subst hr;simp only [s0S] at c6;let l4:=[0,8,9];let l5:=[0,8,10];let l6:=[0];let l:=[0,2,3,4,7];let R:=xAn;exact Vx
     |some g=>
      rw [hu] at c6 hr;subst hr;simp only [s0S] at c6;have c7:=d1u j g.length g (n+1) (chI hh (unR B)) rfl oM oM (n1r (d1v hu) oM);have e1:i64.wrap ((n:Int)+1)=((n+1:Nat):Int):=a0u oM;rw [<-e1] at c7;let l4:=[0,8,9];let l5:=[0,8,10];let l6:=[0];let l7:=[0,1,2,3,4,5,6,7,11];let l:=[0,2,3,4,7];let R:=[0,1,2,3,4,5,6,7,12];exact Vx
  .have c3:=q0K hh B oM ho;unfold unN at c3;rw [<-hB] at ho;rw [z0y ho] at hr;subst hr;cases st with
   |false=>
    let l:=[0,2,3,4,7];let R:=xAn;exact Vx
   |true=>
    let l:=[0,2,3,4,7];let R:=xAn;exact Vx
end
section
attribute [local irreducible] seq ByteArray.extract
theorem h1d {now:List BA}:∀{f n:Nat} {h:Int} {t:BA} {g:List BA} {n':Nat} {h':Int},rdK now f n h t=some (g,n',h')->n<n'/\n'<=n+f/\g.length<=256/\0<=h'/\h'<18446744073709551616:=by
 intro f;induction f with
 |zero=>intro n h t g n' h' e;cases e
 |succ f ih=>
  grind [j0Y,d1v,m0H,j0X,z0y]
def opK (d:Dk):Nat->Jr->Jr
 |0,j=>j
 |f+1,j=>match nxR j d with
  |none=>j
  |some r=>opK d f (nxJ j (some r))
def jr0:Jr:=⟨[],0,0,0,0,[],0,false⟩
def opJ (d:Dk):Jr:=opK d (d.nn+1) jr0
structure JO (d:Dk) (j:Jr):Prop where
 us:j.used<=d.nn
 gs:j.groups<=j.used
 rl:j.recs.length=j.nr
 rm:j.nr<=256*j.groups
 ge:j.grp= []
 gz:j.ng=0
 st:j.stopped=false
 hb:0<=j.head/\j.head<18446744073709551616
theorem n0a (d:Dk):JO d jr0:=⟨b1f _,b1f _,rfl,b1f _,rfl,rfl,rfl,by decide⟩
theorem n0b {d:Dk} {j:Jr} (h:JO d j) {r:List BA×Nat×Int} (hr:nxR j d=some r):JO d (nxJ j (some r))/\j.used<(nxJ j (some r)).used:=by
 obtain ⟨g,n,k⟩:=r;have gs:=h.gs;have rl:=h.rl;have rm:=h.rm;obtain ⟨a,b,c,e⟩:=h1d hr;refine ⟨⟨by show n<=d.nn;omega,by show j.groups+1<=n;omega,by show (j.recs++g).length=j.nr+g.length;simp_all,by show j.nr+g.length<=256*(j.groups+1);omega,h.ge,h.gz,h.st,e⟩,a⟩
theorem j1d {d:Dk}:∀(f:Nat) {j:Jr},JO d j->JO d (opK d f j)
 |0,j,h=>h
 |f+1,j,h=>by
  simp only [opK];cases hr:nxR j d with
  |none=>omega
  |some r=>exact j1d f (n0b h hr).1
theorem j0e (d:Dk):JO d (opJ d):=j1d _ (n0a d)
def jrO (r g:Nat) (j:Jr):List SV:= [.ptr 1 0 0 0,.sl r 0 0 j.nr,.i j.groups,.i j.used,.int .u64 j.head,.sl g 0 0 j.ng,.bool j.stopped]
def opS (d:Dk) (x:Nat×Jr):VS:=⟨[(4,.ptr 5 0 0 0)],[(1,a0P true (dkC 4 d)),(3,grB d.nn d.now),(5,a0P false (jrO 6 7 x.2)),(6,grW x.2.nr x.2.recs),(7,grW x.2.ng x.2.grp)],8⟩
theorem l1z (d:Dk) (hd:d.down=false) (hnn:d.nn<=4096) (hsz:∀b∈d.now,b.size<=64):
  FC prog 5 69 [.ptr 1 0 0 0] [(1,a0P true (dkC 4 d)),(3,grB d.nn d.now)]
   (a0g (.tup [.ptr 5 0 0 0,.i 0]) [(5,a0P false (jrO 6 7 (opJ d))),(6,grW (opJ d).nr (opJ d).recs),(7,grW (opJ d).ng (opJ d).grp)] 8):=by
 have c1:=d1t d;rw [hd] at c1;obtain ⟨J,hJ⟩:∃J,opJ d=J:=⟨_,rfl⟩;rw [hJ];refine fEx func69 ?_;repeat' ((conv=>whnf);first|refine cOx (l:= [0,1,2,3,4]) c1 ?_|refine a0a ?_|(apply bRx<;>intro h<;>try exact aX))
 all_goals (conv=>whnf)
 refine a0h (opS d) (fun x=>opK d x.1 x.2=J/\JO d x.2/\d.nn<x.2.used+x.1) (fun x=>x.1) (d.nn+1,jr0) [0,1,2,3,4,5,6,7] [.cell 5 1 [.sc (.strs [])],.cell 5 5 [.sc (.strs [])]] wHx ⟨hJ,n0a d,by show d.nn<0+(d.nn+1);omega⟩ ?_;rintro ⟨f,j⟩ ⟨hf,ho,hu⟩;dsimp only at hf ho hu⊢;have us:=ho.us;obtain ⟨f,rfl⟩:∃k,f=k+1:=⟨f-1,by omega⟩;have c2:=l1y j d hd hnn hsz ho.us ho.gs ho.rm;cases hr:nxR j d with
 |none=>
  rw [hr] at c2;simp only [nxB,nxJ] at c2;simp only [opK,hr] at hf;subst hf;let l:=[0,5,1,2,3,6,7,4];let R:=[0,1,2,3,4,5,8,7];exact Vx
 |some r=>
  obtain ⟨h1,h2⟩:=n0b ho hr;obtain ⟨g,n,k⟩:=r;rw [hr] at c2;simp only [nxB] at c2;simp only [opK,hr] at hf;repeat' ((conv=>whnf);first|refine cOx (l:= [0,5,1,2,3,6,7,4]) c2 ?_|refine a0a ?_|(apply bRx<;>intro h<;>try exact aX)|exact ⟨(f,nxJ j (some (g,n,k))),[0,1,2,3,4,5,8,7],[],⟨hf,h1,by dsimp only;omega⟩,t1Q _,⟨rfl,rX,rX⟩⟩)
theorem l1A (j:Jr) (d:Dk) (hnn:d.nn<=4096) (hu:j.used<=d.nn):FC prog 8 81 [.ptr 1 0 0 0] [(1,a0P true (jrC 5 6 j)),(2,a0P true (dkJ 7 d))] (a0g (.i ((d.nn:Int)-(j.used:Int))) [] 8):=by
 have c1:=m0Z d;refine fEx func81 ?_;repeat' ((conv=>whnf);first|refine cOx (l:= [0,2,3,4,7]) c1 ?_|refine a0a ?_)
 all_goals (conv=>whnf)
 rw [a0l oM oM];exact rOx xAl a0c
theorem l1B (j:Jr):FC prog 8 41 [.ptr 1 0 0 0] [(1,a0P false (jrC 5 6 j)),(6,grW j.ng j.grp)] (a0g (.tup []) [(1,a0P false (jrC 5 8 (if j.stopped=true then j else { j with grp:= [],ng:=0}))),(8,grW (if j.stopped=true then j else { j with grp:= [],ng:=0}).ng (if j.stopped=true then j else { j with grp:= [],ng:=0}).grp)] 9):=by
 by_cases hs:j.stopped=true
 .refine fEx func41 ?_;repeat' ((conv=>whnf);first|exact rOx xAi (a0b (a0b a0c))|simp_all)
 .rw [if_neg hs];refine fEx func41 ?_;repeat' (first|(apply bRx<;>intro h)|exact b0K (l:= xAb) [.cell 1 5 [.sc (.strs [])]] ⟨rfl,rfl,rfl,rfl,trivial⟩ (a0b (a0b a0c))|trivial)
end
section
attribute [local irreducible] l1k
attribute [local irreducible] seq ByteArray.extract
def jaZ (j:Jr) (r:BA):Nat:=4+r.size+e0e j.grp j.ng
def jaE (j:Jr) (d:Dk) (r:BA):Int:=if j.stopped=true then 13 else if 4000<r.size then 3 else if 256<=j.ng then 12 else if d.nn-j.used<(jaZ j r+44)/45 then 12 else 0
def jaJ (j:Jr) (d:Dk) (r:BA):Jr:=if jaE j d r=0 then { j with grp:=j.grp++ [r],ng:=j.ng+1} else j
theorem x0B {j:Jr} {d:Dk} {r:BA} (h:jaE j d r=0):jaJ j d r= { j with grp:=j.grp++ [r],ng:=j.ng+1}:=by unfold jaJ;simp_all
theorem g0u {j:Jr} {d:Dk} {r:BA} (h:jaE j d r≠0):jaJ j d r=j:=by unfold jaJ;simp_all
theorem s0V (j:Jr) (d:Dk) (r:BA) (hj:j.ok d) (hnn:d.nn<=4096):FC prog 8 40 [.ptr 1 0 0 0,.str r] [(1,a0P false (jrC 5 6 j)),(2,a0P true (dkJ 7 d)),(6,grW j.ng j.grp)]
  (a0g (.i (jaE j d r)) [(1,a0P false (jrC 5 8 (jaJ j d r))),(8,grW (jaJ j d r).ng (jaJ j d r).grp)] 9):=by
 have gl:=hj.gl;have gm:=hj.gm;have us:=hj.us;have go:=hj.go;by_cases h1:j.stopped=true
 .have e:jaE j d r=13:=by unfold jaE;rw [if_pos h1]
  rw [g0u oM,e];refine fEx func40 ?_;repeat' ((conv=>whnf);first|refine a0a ?_|(apply bRx<;>intro h<;>try exact aX)|exact rOx xAi (a0b (a0b a0c))|(exfalso;simp_all;done))
 .have h1':j.stopped=false:=by cases h:j.stopped with|false=>rfl|true=>exact absurd h h1
  by_cases h2:4000<r.size
  .have e:jaE j d r=3:=by unfold jaE;rw [if_neg h1,if_pos h2]
   rw [g0u oM,e];refine fEx func40 ?_;repeat' ((conv=>whnf);first|refine a0a ?_|(apply bRx<;>intro h<;>try exact aX)|exact rOx xAi (a0b (a0b a0c))|(exfalso;simp_all;done))
  .by_cases h3:256<=j.ng
   .have e:jaE j d r=12:=by unfold jaE;rw [if_neg h1,if_neg h2,if_pos h3]
    rw [g0u oM,e];refine fEx func40 ?_;repeat' ((conv=>whnf);first|refine a0a ?_|(apply bRx<;>intro h<;>try exact aX)|exact rOx xAi (a0b (a0b a0c))|(exfalso;simp_all;done))
   .have c1:=l1A j d hnn us;have hz:=o0W go j.ng;have e0:∀h:¬d.nn-j.used<(jaZ j r+44)/45,jaE j d r=0:=fun h=>by unfold jaE;rw [if_neg h1,if_neg h2,if_neg h3,if_neg h]
    have e12:∀h:d.nn-j.used<(jaZ j r+44)/45,jaE j d r=12:=fun h=>by unfold jaE;rw [if_neg h1,if_neg h2,if_neg h3,if_pos h]
    refine fEx func40 ?_;repeat' ((conv=>whnf);first|refine a0a ?_|(apply bRx<;>intro h<;>try exact aX))
    all_goals (conv=>whnf)
    all_goals first
     |(exfalso;simp_all;done)
     |skip
    refine a0h (fun k:Nat=>⟨[(0,.ptr 1 0 0 0),(1,.str r),(5,.i (4+r.size+e0e j.grp k:Nat)),(29,.sl 6 0 0 j.ng),(30,.i j.ng),(31,.i k)],[(1,a0P false (jrC 5 6 j)),(2,a0P true (dkJ 7 d)),(6,grW j.ng j.grp)],8⟩) (fun k=>k<=j.ng) (fun k=>j.ng-k) 0 [0,1,2,3,4,5,6,7] [] (wEx ⟨rfl,rfl,?_,rX⟩) (b1f _) ?_
    .refine congrArg (fun z=>some (SV.i z)) ?_;rw [a0l oM oM];show (4:Int)+r.size=((4+r.size+0:Nat):Int);omega
    intro k hk;have hzk:=o0W go k;have hrk:=m0V go k;by_cases hlt:k<j.ng
    .repeat' ((conv=>whnf);first|refine a0a ?_|(apply bRx<;>intro h<;>try exact aX))
     all_goals (conv=>whnf)
     all_goals first
      |exact aX
      |skip
     refine ⟨k+1,xAl,[],by omega,by omega,⟨rfl,⟨rfl,rfl,?_,rfl,rfl,sI (a0u oM),trivial⟩,rX⟩⟩;refine congrArg (fun z=>some (SV.i z)) ?_;rw [show i64.wrap (4+((j.grp.getD ((k:Int).toNat+0) ⟨#[]⟩).size:Int))=4+((j.grp.getD k ⟨#[]⟩).size:Int) from a0l (n:=4+((j.grp.getD k ⟨#[]⟩).size:Int)) oM oM,a0l oM oM];simp only [e0e];omega
    .have ek:k=j.ng:=oM
     subst ek;have hzd:jaZ j r=4+r.size+e0e j.grp j.ng:=rfl;have ez:i64.wrap ((i64.wrap (i64.wrap (((4+r.size+e0e j.grp j.ng:Nat):Int)+45)-1)).tdiv 45)=(((jaZ j r+44)/45:Nat):Int):=by
      rw [a0l (n:=((4+r.size+e0e j.grp j.ng:Nat):Int)+45) oM oM,a0l (n:=((4+r.size+e0e j.grp j.ng:Nat):Int)+45-1) oM oM,s1b oM,a0l oM oM];omega
     repeat' ((conv=>whnf);first|refine cOx (l:= xAl) c1 ?_|refine a0a ?_|(apply bRx<;>intro h<;>try exact aX))
     all_goals (conv=>whnf)
     all_goals rw [ez] at h
     all_goals first
      |(have h':(d.nn:Int)-(j.used:Int)<(((jaZ j r+44)/45:Nat):Int):=h
        have e:=e12 oM;rw [g0u oM,e];exact rOx xAi (a0b (a0b a0c)))
      |(have h':¬((d.nn:Int)-(j.used:Int)<(((jaZ j r+44)/45:Nat):Int)):=h
        have e:=e0 oM;rw [x0B e,e];exact rOx xBd (a0b (a0b a0c)))
end
section
theorem s0W {d:Dk} (h:d.ok) (m:Int):(c0S m d).ok:=
 ⟨by simp only [c0S,x0y,c0a];exact h.kl,by simp only [c0S,x0y,c0a];exact h.kl,rfl,rfl,by simp [c0S],by simp [c0S],h.nm,by simp [c0S]⟩
theorem d1w {n:Int} (h:0<=n/\n<=1000000):0<=d0D n/\d0D n<=1000000:=by unfold d0D;split<;>omega
theorem j0f {d:Dk} (h:d.ok):(c0A d).ok:=⟨h.kl,h.nl,h.pl,h.sl,h.pb,h.pm,h.nm,d1w h.sb⟩
theorem h1e {d:Dk} (h:d.ok):(s0T d).ok:=⟨by simp only [s0T,c0a];exact h.kl,h.nl,rfl,rfl,by simp [s0T],by simp [s0T],h.nm,h.sb⟩
theorem d1x {d:Dk} (h:d.ok) (n:Int) (s:BA):(a0L d n s).1.ok:=by
 grind [a0L,q0O,s0W,j0f]
theorem l1C {d:Dk} (h:d.ok) (n m:Int):(h0W d n m).1.ok:=by
 unfold h0W;split
 .omega
 .split
  .omega
  .exact ⟨h.kl,h.nl,h.pl,h.sl,h.pb,h.pm,h.nm,by simp_all⟩
end
section
attribute [local irreducible] l1k
attribute [local irreducible] seq ByteArray.extract
theorem d1y (b:Bool) (j:Jr):FCD prog 7 83 [.ptr 1 0 0 0,.ptr 2 0 0 0] [(1,a0P true [.ptr 3 0 0 0]),(2,a0P true [.bool b]),(3,a0P false [.ptr 4 0 0 0,.sl 5 0 0 j.nr,.i j.groups,.i j.used,.int .u64 j.head,.sl 6 0 0 j.ng,.bool j.stopped])]
  (a0g (.tup []) [(3,a0P false [.ptr 4 0 0 0,.sl 5 0 0 j.nr,.i j.groups,.i j.used,.int .u64 j.head,.nsl,.bool (!b)])] 7):=by
 refine q1C mixed m1U func83 rfl (by rfl) (by rfl) (by rfl) ?_;let l:=xAg;exact Vx
def n0c (u:Nat) (bl:List BA):Nat->Nat->Dk->Dk×Bool
 |0,_,d=>(d,true)
 |r+1,k,d=>if (a0L d ((u+k:Nat):Int) (bl.getD k ⟨#[]⟩)).2=0 then n0c u bl r (k+1) (a0L d ((u+k:Nat):Int) (bl.getD k ⟨#[]⟩)).1 else ((a0L d ((u+k:Nat):Int) (bl.getD k ⟨#[]⟩)).1,false)
def q0P (j:Jr):Jr:= { j with grp:= [],ng:=0,stopped:=true}
def z0z (j:Jr):Jr:= { p1X j j.ng j.grp (j.used+d0k (a0x j.grp)) (hK j.head (a0x j.grp) (d0k (a0x j.grp))) with grp:= [],ng:=0,stopped:=false}
def cmW (j:Jr) (d:Dk):Dk×Bool:=n0c j.used (bkL j.head (a0x j.grp) (d0k (a0x j.grp))) (d0k (a0x j.grp)) 0 d
def cmR (j:Jr) (d:Dk):Jr×Dk×Int:=
 if j.stopped=true then (j,d,13) else if f0G j.grp≠0 then (j,d,f0G j.grp)
 else if (cmW j d).2=false then (q0P j,(cmW j d).1,13)
 else if (b0h (cmW j d).1).2≠0 then (q0P j,(b0h (cmW j d).1).1,13)
 else (z0z j,(b0h (cmW j d).1).1,0)
theorem s0X (d:Dk) (n:Int) (s:BA):(a0L d n s).1.nn=d.nn:=by unfold a0L;(repeat' split)<;>rfl
theorem s0Y (d:Dk):(b0h d).1.nn=d.nn:=by unfold b0h;(repeat' split)<;>rfl
theorem j1e {d:Dk} (h:d.ok) {n:Int} {s:BA}:(a0L d n s).1.ok/\(a0L d n s).1.nn=d.nn:=⟨d1x h n s,s0X d n s⟩
theorem s0Z (j:Jr) (d:Dk) (hj:j.ok d) (hd:d.ok):FC prog 8 42 [.ptr 1 0 0 0] ((0,some (GB glT))::jrH 5 6 7 j d)
  (a0g (.i (cmR j d).2.2) (jrH 8 9 10 (cmR j d).1 (cmR j d).2.1) 11):=by
 have gl:=hj.gl;have gm:=hj.gm;have us:=hj.us;have go:=hj.go;have hnn:=hd.nm;by_cases h1:j.stopped=true
 .rw [show cmR j d=(j,d,13) by unfold cmR;rw [if_pos h1]];refine h0U mixed m1U func42 rfl (by kernel_rfl) (by kernel_rfl) (by kernel_rfl) ?_;repeat' ((conv=>whnf);first|refine a0a ?_|(apply bRx<;>intro h<;>try exact aX)|exact rOx [0,1,2,3,4,5,6,7,5,6,7] (s0U _ _ _ _ _)|(exfalso;simp_all;done))
 .have h1':j.stopped=false:=by cases h:j.stopped with|false=>rfl|true=>exact absurd h h1
  by_cases h2:f0G j.grp≠0
  .rw [show cmR j d=(j,d,f0G j.grp) by unfold cmR;rw [if_neg h1,if_pos h2]];have c1:=d1l j.head j.grp j.ng gl h2 (by unfold maxLen;omega);refine h0U mixed m1U func42 rfl (by kernel_rfl) (by kernel_rfl) (by kernel_rfl) ?_;repeat' ((conv=>whnf);first|refine cOx (l:= [0,6]) c1 ?_|refine a0a ?_|(apply bRx<;>intro h<;>try exact aX)|exact rOx [0,1,2,3,4,5,6,7,5,6,7] (s0U _ _ _ _ _)|(exfalso;exact h2 h)|(exfalso;simp_all;done))
  .have h2':f0G j.grp=0:=oM
   have c1:=o1t j.head j.grp j.ng gl h2';obtain ⟨W,hW⟩:∃W,cmW j d=W:=⟨_,rfl⟩;have er:cmR j d=if W.2=false then (q0P j,W.1,13) else if (b0h W.1).2≠0 then (q0P j,(b0h W.1).1,13) else (z0z j,(b0h W.1).1,0):=by
    unfold cmR;rw [if_neg h1,if_neg h2,hW]
   rw [er];have hnb:d0k (a0x j.grp)<=30000:=by
    have:=o0W go j.grp.length;rw [<-f0s go,d0K] at this;unfold d0k;omega
   unfold cmW at hW;unfold z0z;obtain ⟨NB,hNB⟩:∃NB,d0k (a0x j.grp)=NB:=⟨_,rfl⟩;obtain ⟨BL,hBL⟩:∃BL,bkL j.head (a0x j.grp) NB=BL:=⟨_,rfl⟩;obtain ⟨HK,hHK⟩:∃HK,hK j.head (a0x j.grp) NB=HK:=⟨_,rfl⟩;rw [hNB] at c1 hW hnb⊢;rw [hBL] at c1 hW;rw [hHK] at c1⊢;refine h0U mixed m1U func42 rfl (by kernel_rfl) (by kernel_rfl) (by kernel_rfl) ?_;repeat' ((conv=>whnf);first|refine cOx (l:= [0,6]) c1 ?_|refine a0a ?_|(apply bRx<;>intro h<;>try exact aX))
   all_goals (conv=>whnf)
   all_goals first
    |(exfalso;simp_all;done)
    |skip
   refine a0h (fun x:Nat×Dk=>⟨[(1,.ptr 8 0 0 0),(3,.sl 9 0 0 NB),(4,.int .u64 HK),(6,.ptr 10 0 0 0),(32,.sl 9 0 0 NB),(33,.i NB),(34,.i x.1)],[(0,some (GB glT)),(1,a0P false (jrC 5 6 j)),(2,a0P false (dkJ 11 x.2)),(3,grW x.2.nn x.2.kept),(4,grW x.2.nn x.2.now),(11,some (.one false (.cols x.2.np [.sc (.ints .i64 x.2.pn),.sc (.strs x.2.ps)]))),(5,grW j.nr j.recs),(6,grW j.ng j.grp),(8,a0P false [.ptr 1 0 0 0]),(9,grW NB BL),(10,a0P false [.bool false])],12⟩) (fun x=>x.1<=NB/\n0c j.used BL (NB-x.1) x.1 x.2=W/\x.2.ok/\x.2.nn=d.nn) (fun x=>NB-x.1) (0,d) [0,1,2,3,4,5,6,7,8,9,10,7] [] wHx ⟨b1f _,hW,hd,rfl⟩ ?_;rintro ⟨k,dk⟩ ⟨hk,hw,hok,hdn⟩;dsimp only at hk hw hok hdn⊢;by_cases hlt:k<NB
   .obtain ⟨m,hm⟩:∃m,NB-k=m+1:=⟨NB-k-1,by omega⟩;have hm':NB-(k+1)=m:=oM
    rw [hm] at hw;have c2:=z0w dk hok ((j.used+k:Nat):Int) (BL.getD k ⟨#[]⟩);have pk:=j1e hok (n:=((j.used+k:Nat):Int)) (s:=BL.getD k ⟨#[]⟩);simp only [n0c] at hw;obtain ⟨WD,hWD⟩:∃WD,a0L dk ((j.used+k:Nat):Int) (BL.getD k ⟨#[]⟩)=WD:=⟨_,rfl⟩;rw [hWD] at c2 hw pk;have e1:i64.wrap ((j.used:Int)+(k:Int))=((j.used+k:Nat):Int):=by rw [a0l oM oM];omega
    rw [<-e1] at c2;by_cases h0:WD.2=0
    .rw [if_pos h0] at hw;rw [h0] at c2;repeat' ((conv=>whnf);first|refine cOx (l:= [0,2,3,4,11]) c2 ?_|refine a0a ?_|(apply bRx<;>intro h<;>try exact aX))
     all_goals (conv=>whnf)
     all_goals first
      |exact aX
      |(exfalso;exact h rfl)
      |skip
     exact ⟨(k+1,WD.1),[0,1,2,3,4,5,6,7,8,9,10,12],[],⟨by dsimp only;omega,by dsimp only;rw [hm'];exact hw,pk.1,pk.2.trans hdn⟩,by dsimp only;omega,⟨rfl,⟨rfl,rfl,rfl,rfl,rfl,rfl,sI (a0u oM),trivial⟩,⟨gwk rfl,rfl,rfl,rfl,rfl,rfl,rfl,rfl,rfl,rfl,rfl,trivial⟩⟩⟩
    .rw [if_neg h0] at hw;rw [<-hw,if_pos rfl];have c5:=d1y false j;repeat' ((conv=>whnf);first|refine cOx (l:= [0,2,3,4,11]) c2 ?_|(refine d1c (l:= [0,8,10,1,2,5,6]) c5 ?_)|refine a0a ?_|(apply bRx<;>intro h<;>try exact aX))
     all_goals (conv=>whnf)
     all_goals first
      |exact aX
      |(exfalso;exact h0 h)
      |skip
     exact b0K (l:= [0,1,2,3,4,5,6,7,5,13,12]) [.cell 1 5 [.sc (.strs [])]] rX (s0U _ _ _ _ _)
   .have ek:NB-k=0:=oM
    rw [ek] at hw;have ek2:k=NB:=oM
    have hw:W=(dk,true):=hw.symm;rw [hw,if_neg (by simp)];have c3:=z0x dk hok;obtain ⟨FD,hFD⟩:∃FD,b0h dk=FD:=⟨_,rfl⟩;dsimp only;rw [hFD] at c3⊢;by_cases h0:FD.2=0
    .rw [if_neg (by simp [h0])];rw [h0] at c3;have c4:=d1u j j.ng j.grp (j.used+NB) HK gl (by have:=hj.gs;omega) (by have:=hj.gs;have:=hj.rm;omega) oM;have e1:i64.wrap ((j.used:Int)+(NB:Int))=((j.used+NB:Nat):Int):=by rw [a0l oM oM];omega
     rw [<-e1] at c4;have c5:=d1y true (p1X j j.ng j.grp (j.used+NB) HK);repeat' ((conv=>whnf);first|refine cOx (l:= [0,2,3,4,11]) c3 ?_|refine cOx (l:= xAi) c4 ?_|(refine d1c (l:= [0,8,10,1,2,13,6]) c5 ?_)|refine a0a ?_|(apply bRx<;>intro h<;>try exact aX))
     all_goals (conv=>whnf)
     all_goals first
      |exact aX
      |(exfalso;exact h rfl)
      |skip
     exact b0K (l:= [0,1,2,3,4,5,6,7,13,14,12]) [.cell 1 5 [.sc (.strs [])]] rX (s0U _ _ _ _ _)
    .rw [if_pos h0];have c5:=d1y false j;repeat' ((conv=>whnf);first|refine cOx (l:= [0,2,3,4,11]) c3 ?_|(refine d1c (l:= [0,8,10,1,2,5,6]) c5 ?_)|refine a0a ?_|(apply bRx<;>intro h<;>try exact aX))
     all_goals (conv=>whnf)
     all_goals first
      |exact aX
      |(exfalso;exact h0 h)
      |skip
     exact b0K (l:= [0,1,2,3,4,5,6,7,5,13,12]) [.cell 1 5 [.sc (.strs [])]] rX (s0U _ _ _ _ _)
structure Dk.free (d:Dk):Prop where
 dn:d.down=false
 st:d.steps=0
end
section
attribute [local irreducible] seq ByteArray.extract
theorem v0l {α:Type} {l m:List α} {i:Nat} {d:α} (h:i<l.length):(l++m).getD i d=l.getD i d:=by grind
theorem v0m {α:Type} {l m:List α} {i:Nat} {d:α} (h:l.length<=i):(l++m).getD i d=m.getD (i-l.length) d:=by grind
theorem o1w {p:Int} {b:BA} (h:b=⟨#[]⟩):¬m0X p b:=by
 intro ho;have:=ho.1;rw [h] at this;trivial
section
variable {now:List BA} {p:Int} {s:BA} {u:Nat}
end
inductive Ch (now:List BA) (nn:Nat):Nat->Jr->Prop where
 |zero:Ch now nn 0 jr0
 |step {k:Nat} {j:Jr} {r:List BA×Nat×Int}:Ch now nn k j->rdK now (nn-j.used) j.used j.head ⟨#[]⟩=some r->Ch now nn (k+1) (nxJ j (some r))
theorem q1F {d:Dk} {k:Nat} {j:Jr} (h:Ch d.now d.nn k j):JO d j/\k<=j.used:=by
 induction h with
 |zero=>exact ⟨n0a d,m0c _⟩
 | @step k j r h hr ih=>
   obtain ⟨a,b⟩:=n0b ih.1 (r:=r) hr;grind
theorem q1G {d:Dk} {k:Nat} {j:Jr} (h:Ch d.now d.nn k j):∀f,opK d (f+k) jr0=opK d f j:=by
 induction h with
 |zero=>simp
 | @step k j r h hr ih=>
   intro f;rw [show f+(k+1)=(f+1)+k from by omega,ih];simp only [opK,nxR,hr]
theorem l1D {d:Dk} {k:Nat} {j:Jr} (h:Ch d.now d.nn k j) (hn:nxR j d=none):opJ d=j:=by
 obtain ⟨a,b⟩:=q1F h;have:=a.us;unfold opJ;rw [show d.nn+1=((d.nn-k)+1)+k from by omega,q1G h];simp only [opK,hn]
structure Js (now:List BA) (nn:Nat) (j:Jr):Prop where
 ch:∃k,Ch now nn k j
 emp:∀i,j.used<=i->now.getD i ⟨#[]⟩=⟨#[]⟩
theorem l1E {d:Dk} {j:Jr} (h:Js d.now d.nn j):nxR j d=none:=by
 unfold nxR;cases hf:d.nn-j.used with
 |zero=>rfl
 |succ f=>exact z0y (o1w (h.emp _ (m0c _)))
theorem d1z {d:Dk} {j:Jr} (h:Js d.now d.nn j):opJ d=j:=by
 obtain ⟨k,hk⟩:=h.ch;exact l1D hk (l1E h)
def fiJ (j:Jr) (d:Dk) (g:List BA):Nat->Jr
 |0=>j
 |k+1=>jaJ (fiJ j d g k) d (g.getD k ⟨#[]⟩)
def fiO (j:Jr) (d:Dk) (g:List BA):Nat->List BA
 |0=> []
 |k+1=>if jaE (fiJ j d g k) d (g.getD k ⟨#[]⟩)=0 then fiO j d g k++ [g.getD k ⟨#[]⟩] else fiO j d g k
def Jr.with (j:Jr) (g:List BA):Jr:= { j with grp:=g,ng:=g.length}
structure Jz (j:Jr):Prop where
 ge:j.grp= []
 gz:j.ng=0
 st:j.stopped=false
theorem n0d {j:Jr} (h:Jz j):j.with []=j:=by
 obtain ⟨a,b,c,e,f,g,n,s⟩:=j;have h1:=h.ge;have h2:=h.gz;subst h1 h2;rfl
theorem q0Q {j:Jr} (h:Jz j) (d:Dk) (g:List BA):∀k,fiJ j d g k=j.with (fiO j d g k)
 |0=>(n0d h).symm
 |k+1=>by
  simp only [fiJ,fiO];by_cases h0:jaE (fiJ j d g k) d (g.getD k ⟨#[]⟩)=0
  .rw [x0B h0,if_pos h0,q0Q h d g k];simp [Jr.with]
  .rw [g0u h0,if_neg h0,q0Q h d g k]
structure Gf (j:Jr) (d:Dk) (g:List BA):Prop where
 ok:okR g
 le:g.length<=256
 rm:d0k (a0x g)<=d.nn-j.used
theorem x0C {g:List BA} {r:BA}:∀k,k<=g.length->e0e (g++ [r]) k=e0e g k
 |0,_=>rfl
 |k+1,h=>by
  simp only [e0e];rw [x0C k oM,v0l oM]
theorem d1A {g:List BA} {r:BA}:e0e (g++ [r]) (g.length+1)=e0e g g.length+(4+r.size):=by
 simp only [e0e];rw [x0C _ (m0c _),v0m (m0c _),s1N];rfl
theorem o1x (j:Jr) (d:Dk):Gf j d []:=by
 refine ⟨?_,?_,?_⟩
 .intro r hr;grind
 .trivial
 .exact b1f _
theorem d1B {g:List BA} (h:okR g):d0k (a0x g)=(e0e g g.length+44)/45:=by
 grind [d0k,d0K,f0s]
theorem o1y {j:Jr} (h:Jz j) (d:Dk) (g:List BA):∀k,Gf j d (fiO j d g k)
 |0=>o1x j d
 |k+1=>by
  have ih:=o1y h d g k;simp only [fiO];by_cases h0:jaE (fiJ j d g k) d (g.getD k ⟨#[]⟩)=0
  .rw [if_pos h0];rw [q0Q h] at h0;generalize fiO j d g k=o at h0 ih⊢;generalize g.getD k ⟨#[]⟩=r at h0⊢;unfold jaE at h0;by_cases h1:(j.with o).stopped=true
   .simp_all
   .by_cases h2:4000<r.size
    .omega
    .by_cases h3:256<=(j.with o).ng
     .omega
     .by_cases h4:d.nn-(j.with o).used<(jaZ (j.with o) r+44)/45
      .omega
      .have ok:okR (o++ [r]):=by
        intro x hx;simp only [k1q,b1h] at hx;rcases hx with hx|rfl
        .exact ih.ok x hx
        .omega
       refine ⟨ok,?_,?_⟩
       .have:(j.with o).ng=o.length:=rfl;grind
       .rw [d1B ok,s0c,m1T,d1A];have e1:(j.with o).used=j.used:=rfl;have e2:jaZ (j.with o) r=4+r.size+e0e o o.length:=rfl;omega
  simp_all
theorem q1H {j:Jr} {d:Dk} {g:List BA} (hj:JO d j) (h:Gf j d g):(j.with g).ok d:=⟨hj.rl,rfl,hj.us,hj.gs,hj.rm,h.le,h.ok,hj.hb⟩
structure Jw (d:Dk) (j:Jr):Prop where
 ok:d.ok
 fr:d.free
 np:d.np=0
 nn:d.nn<=2000
 sz:∀b∈d.now,b.size<=64
 jo:JO d j
 js:Js d.now d.nn j
theorem Jw.z {d:Dk} {j:Jr} (h:Jw d j):Jz j:=⟨h.jo.ge,h.jo.gz,h.jo.st⟩
theorem Jw.op {d:Dk} {j:Jr} (h:Jw d j):opJ d=j:=d1z h.js
structure Aw (d:Dk) (j:Jr):Prop where
 ok:d.ok
 dn:d.down=false
 np:d.np=0
 kp:d.kept=d.now
 nn:d.nn<=2000
 sz:∀b∈d.now,b.size<=64
 jo:JO d j
 js:Js d.now d.nn j
theorem Aw.z {d:Dk} {j:Jr} (h:Aw d j):Jz j:=⟨h.jo.ge,h.jo.gz,h.jo.st⟩
theorem Aw.op {d:Dk} {j:Jr} (h:Aw d j):opJ d=j:=d1z h.js
theorem j0Z {α:Type} {l:List α} {n:Nat} (h:l.length=n):seg 0 n l=l:=by
 simp_all [seg,s1A]
theorem n0e (n:Nat) (l:List BA) (hl:l.length=n) (hn:n<=1000000):FC prog 2 104 [.sl 1 0 0 n] [(1,some (.one true (.cols n [.sc (.strs l)])))] (a0g (.sl 2 0 0 n) [(2,some (.one false (.cols n [.sc (.strs l)])))] 3):=by
 cases n with
 |zero=>
  obtain rfl:=s1D hl;refine o0E rfl ?_;refine fEx func104 ?_;repeat' (first|(refine And.intro ?_ ?_))
  all_goals first
   |exact c0y (fun _ _ _ h=> .inl h) (rOx [0,1] a0c)
   |exact c0y (fun _ _ _ h=> .inr h) (rOx [0,1,3] (a0b a0c))
   |decide
 |succ n=>
  refine fEx func104 ?_;repeat' (first|refine a0a ?_)
  all_goals (rw [i1z (n+1),j0Z hl];exact rOx [0,1,3] (a0b a0c))
theorem o0Z (j:Jr) (hl:j.recs.length=j.nr) (hn:j.nr<=1000000):FC prog 8 70 [.ptr 1 0 0 0] [(1,a0P true (jrC 5 6 j)),(5,grB j.nr j.recs)] (a0g (.sl 8 0 0 j.nr) [(8,grW j.nr j.recs)] 9):=by
 have c:=n0e j.nr j.recs hl hn;have c0:=c;let l:=[0,5];let R:=xAb;exact Wx func70
def a1:BA:=⟨#[97]⟩
end
end Go.Proofs.YtmnjebhdclmcfaaGreatDoor
